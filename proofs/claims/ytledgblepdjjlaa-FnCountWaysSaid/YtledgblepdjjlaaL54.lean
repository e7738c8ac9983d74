/-
  impl.CountWays.
-/
import Derived.Test.YtledgblepdjjlaaL53
namespace Go.Proofs.Ytledgblepdjjlaa
set_option linter.unusedVariables false
set_option linter.unusedSimpArgs false
open Go Go.RowKit Go.Shelf Pp
attribute [local go_sem] Oper.semAt_some

theorem CC.kz {w0 W W' : World} {Z : World → Nat → Prop} {X b o b2 o2 : Nat} {n : Int} {A A2 : Option Addr} {c c2 : Nat} {bs : List Bd} {cs : List (List Bd)} (h : CC w0 W X b o n A c bs b2 o2 A2 c2 cs) (hk : KZ Z W W') (hz : ¬ Z W X) : W'.cell? ⟨X, 0, none⟩ = some (.int .i64 n) ∧ W'.cell? ⟨X, 1, none⟩ = some (.slice A bs.length c) ∧ W'.cell? ⟨X, 2, none⟩ = some (.slice A2 cs.length c2) :=
  ⟨hk.cell h.r.c0 hz, hk.cell h.r.c1 hz, hk.cell h.r.c2 hz⟩
theorem KZ.set {Z : World → Nat → Prop} {X i : Nat} (W : World) (v : Value) (hX : Z W X) (hZ : ∀ k, Z (W.setCell ⟨X, i, none⟩ v) k → Z W k ∨ W.heap.size ≤ k) : KZ Z W (W.setCell ⟨X, i, none⟩ v) :=
  ⟨by simp, fun k o hk ho _ => (Below.heap_setCell W ⟨X, i, none⟩ v k (fun e => hk (by rw [e]; exact hX))).trans ho, hZ⟩
theorem KZ.bel {Z : World → Nat → Prop} {B0 : Nat} (hZ : ZLow B0 Z) {w A B : World} (h : KZ Z w A) (hB : B0 ≤ w.heap.size) (hb : Below w.heap.size A B) : KZ Z w B :=
  ⟨Nat.le_trans h.size hb.size, fun k o hk ho hc => (hb.block k (Array.getElem?_eq_some_iff.1 ho).1).trans (h.blk k o hk ho hc), fun k hz => h.own k (hZ A B (Nat.le_trans hB h.size) (fun k hk => hb.block k (Nat.lt_of_lt_of_le hk hB)) k hz)⟩
/-- The iterator, with names for what it hands out. -/
theorem ways_q (n : Int) (bs : List Bd) (cs : List (List Bd)) (ws : List (List Int)) (F : List Int → Pl) (Ok : List Int → Prop) (hws : Pp.ways ⟨n, bs⟩ cs = ws) (hF : wayP ⟨n, bs⟩ cs = F) (hOk : (fun ls => picksOk cs ls = true ∧ fitsW ⟨n, bs⟩ cs ls = true) = Ok) (Z : World → Nat → Prop) (B M l : Nat) (Inv Stop : List (List Int) → World → Prop) (b o b2 o2 c c2 : Nat) (A A2 : Option Addr) (W : World) (hn : bs.length ≤ 2000000) (hn2 : cs.length ≤ 2000000) (hn3 : ∀ l ∈ cs, l.length ≤ 2000000) (hY : YZ Z B W.heap.size M l F Ok Inv Stop) (hV : Inv [] W) (hR : BdsR W B b o A bs) (hC : ChR W B b2 o2 A2 cs) :
    Calls Try.prog 97 #[.agg #[.int .i64 n, .slice A bs.length c, .slice A2 cs.length c2], .func (.yield l) #[] #[]] W fun e W' => (∃ v, e = .returned v) ∧ ((∃ xs, xs = ws ∧ Inv xs W') ∨ (∃ pre, pre <+: ws ∧ Stop pre W')) := by
  subst hws hF hOk
  exact ways_c n bs cs Z B M l Inv Stop b o b2 o2 c c2 A A2 W hn hn2 hn3 hY hV hR hC
/-- What the rounds keep. -/
structure JZ (Z : World → Nat → Prop) (w0 wr W : World) : Prop where
  bel : Below w0.heap.size w0 W
  kz : KZ Z wr W

theorem wrap_succ (N : Int) : wrap64 (N + 1) = wrap64 (wrap64 N + 1) := by unfold wrap64; omega
set_option maxHeartbeats 4000000 in
set_option maxRecDepth 100000 in
theorem countWays_c (n : Int) (bs : List Bd) (cs : List (List Bd)) (A A2 : Option Addr) (b o c b2 o2 c2 B : Nat) (w : World) (hn : bs.length ≤ 2000000) (hn2 : cs.length ≤ 2000000) (hn3 : ∀ l ∈ cs, l.length ≤ 2000000) (hB : B ≤ w.heap.size) (hR : BdsR w B b o A bs) (hC : ChR w B b2 o2 A2 cs) :
    Calls Try.prog 42 #[.agg #[.int .i64 n, .slice A bs.length c, .slice A2 cs.length c2]] w fun e w' => e = .returned (.int .i64 (countW ⟨n, bs⟩ cs)) ∧ Below w.heap.size w w' := by
  refine (callsIn_wide (n := 9)).1 ?_
  have hD := cc_new (n := n) (c := c) (c2 := c2) (t := 37) hB hR hC
  cases hd : caseOk ⟨n, bs⟩ cs
  · have Hr : Hid (countW ⟨n, bs⟩ cs = -1) := by unfold Hid countW; rw [hd]; rfl
    have Hd := hide hd
    clear hd
    obtain ⟨p0, p1, p2⟩ : _ ∧ _ ∧ _ := ⟨hD.r.c0, hD.r.c1, hD.r.c2⟩
    refine callsIn_of_wp_marks Try.func42 rfl trivial ?_ rfl
    simp only [Try.ntmps42, List.size_toArray, List.length_cons, List.length_nil, Nat.reduceAdd, Nat.reduceSub, Array.replicate_succ, Array.replicate_zero, List.push_toArray, List.append_toArray, List.nil_append, List.cons_append]
    gi_wp2_with (refine ⟨trivial, ?_⟩; gi_at_call 44; refine (callsIn_wide.2 (caseOk_c n bs cs A A2 b o c b2 o2 c2 _ _ hn hn2 hn3 (Nat.le_refl _) hD.r.rd hD.r.rc)).mono ?_; rintro e w2 ⟨rfl, hb⟩; rw [Hd.out]; replace hD := hD.below hb; clear p0 p1 p2; have p0 := hD.r.c0; have p1 := hD.r.c1; have p2 := hD.r.c2; have hx := hD.r.ex)
    refine ⟨_, results_tmp rfl _ _ _, ?_⟩
    exact ⟨by rw [Hr.out]; rfl, hD.bel⟩
  · obtain ⟨ws, hws⟩ : ∃ ws, Pp.ways ⟨n, bs⟩ cs = ws := ⟨_, rfl⟩
    obtain ⟨F, hF⟩ : ∃ F, wayP ⟨n, bs⟩ cs = F := ⟨_, rfl⟩
    obtain ⟨Ok, hOk⟩ : ∃ Ok, (fun ls => picksOk cs ls = true ∧ fitsW ⟨n, bs⟩ cs ls = true) = Ok := ⟨_, rfl⟩
    have hn1 : ws.length ≤ 81 := by rw [← hws]; exact ways_len _ _
    have Hr : Hid (countW ⟨n, bs⟩ cs = (ws.length : Int)) := by unfold Hid countW; rw [hd, hws]; rfl
    have Hd := hide hd
    clear hd
    obtain ⟨p0, p1, p2⟩ : _ ∧ _ ∧ _ := ⟨hD.r.c0, hD.r.c1, hD.r.c2⟩
    refine callsIn_of_wp_marks Try.func42 rfl trivial ?_ rfl
    simp only [Try.ntmps42, List.size_toArray, List.length_cons, List.length_nil, Nat.reduceAdd, Nat.reduceSub, Array.replicate_succ, Array.replicate_zero, List.push_toArray, List.append_toArray, List.nil_append, List.cons_append]
    gi_wp2_with (refine ⟨trivial, ?_⟩; gi_at_call 44; refine (callsIn_wide.2 (caseOk_c n bs cs A A2 b o c b2 o2 c2 _ _ hn hn2 hn3 (Nat.le_refl _) hD.r.rd hD.r.rc)).mono ?_; rintro e w2 ⟨rfl, hb⟩; rw [Hd.out]; replace hD := hD.below hb; clear p0 p1 p2; have p0 := hD.r.c0; have p1 := hD.r.c1; have p2 := hD.r.c2; have hx := hD.r.ex)
    obtain ⟨wr, hwr⟩ : ∃ wr, w2.alloc (.cells #[.int .i64 0] 3) = wr := ⟨_, rfl⟩
    have hbr : Below w2.heap.size w2 wr := by rw [← hwr]; go_grown
    have hsr : wr.heap.size = w2.heap.size + 1 := by rw [← hwr]; simp
    have hX0 : wr.cell? ⟨w2.heap.size, 0, none⟩ = some (.int .i64 0) := by rw [← hwr]; simp [go_sem]
    have hF0 : wr.frozen? ⟨w2.heap.size, 0, none⟩ = false := by rw [← hwr]; simp [go_sem]
    have hDr := hD.below hbr
    rw [hwr]
    clear hwr hD p0 p1 p2 hb
    obtain ⟨X, hXe⟩ : ∃ X, w2.heap.size = X := ⟨_, rfl⟩
    rw [hXe] at hx hsr hX0 hF0 hbr ⊢
    clear hXe hbr
    have hXr : X < wr.heap.size := by omega
    have hwX : w.heap.size ≤ X := by omega
    have hle : w.heap.size ≤ wr.heap.size := by omega
    have hZl : ZLow wr.heap.size (fun _ k => k = X) := fun _ _ _ _ _ h => h
    refine wp_rangeZ (by omega) (gf := 97) (d := .agg #[.int .i64 n, .slice A bs.length c, .slice A2 cs.length c2]) rfl (enters_of Try.func97 (by kernel_rfl) rfl) w.heap.size (fun _ k => k = X) F Ok hZl (fun xs => xs = ws) (fun xs => xs <+: ws) ?hit
      (fun xs W => JZ (fun _ k => k = X) w wr W ∧ W.cell? ⟨X, 0, none⟩ = some (.int .i64 (wrap64 (xs.length : Int))) ∧ W.frozen? ⟨X, 0, none⟩ = false) (fun _ _ _ => False) ?hI (fun _ _ _ _ h _ _ => h) ?hIZ ?h0
      (fun ls A' c' A4 c4 a1 _ => a1 = { tmps := #[.agg #[.int .i64 n, .slice A bs.length c, .slice A2 cs.length c2], .pointer (some ⟨w.heap.size, 0, none⟩), .int .i64 0, .pointer (some ⟨X, 0, none⟩), .agg #[.int .i64 n, .slice A bs.length c, .slice A2 cs.length c2], .bool true, .bool false, .agg #[.int .i64 n, .slice A bs.length c, .slice A2 cs.length c2], .func (.func 97) #[.agg #[.int .i64 n, .slice A bs.length c, .slice A2 cs.length c2]] #[], .slice A' ls.length c', .agg #[.int .i64 (F ls).n, .slice A4 (F ls).bs.length c4], undef, undef, undef], defers := [] }) (fun _ _ _ _ _ _ _ _ h _ => h) ?assign ?body ?done ?stop
    case hit =>
      intro l Inv Stop W hY hst hsz hI hb
      exact callsIn_wide.2 (ways_q n bs cs ws F Ok hws hF hOk _ w.heap.size _ l Inv Stop b o b2 o2 c c2 A A2 W hn hn2 hn3 ⟨hY, hst, hsz, hZl.more hb.size, fun _ k h => by rw [h]; exact hwX, Nat.le_trans hle hb.size⟩ hI ((hR.more hB).below (bthen hDr.bel hb)) ((hC.more hB).below (bthen hDr.bel hb)))
    case hI =>
      rintro pre A' B' ⟨hj, hc, hf⟩ hkc hb
      exact ⟨⟨hj.bel.trans (hb.mono hle), hj.kz.bel hZl (Nat.le_refl _) hb⟩, (hb.cell (p := ⟨X, 0, none⟩) hXr).trans hc, (hb.frozen (p := ⟨X, 0, none⟩) hXr).trans hf⟩
    case hIZ =>
      rintro pre A' ⟨hj, -, -⟩ k rfl
      exact Nat.lt_of_lt_of_le hXr hj.kz.size
    case h0 => exact ⟨⟨hDr.bel, KZ.refl _ _⟩, by rw [hX0]; simp [wrap64], hF0⟩
    case assign =>
      intro l ls A' c' A4 c4 W K hK
      gi_wp2
      simp only [List.setIfInBounds_toArray, List.set_cons_succ, List.set_cons_zero]
      exact hK _ _ (Below.refl _ _) rfl
    case stop => exact fun _ _ _ _ h _ => h.elim
    case done =>
      rintro xs W rfl ⟨hj, hc, -⟩ hm
      gi_wp2
      have hw : wrap64 (xs.length : Int) = (xs.length : Int) := by unfold wrap64; omega
      refine ⟨by simp, .inl ⟨_, _, rfl, run_takeDeferred hm, ?_⟩⟩
      refine ⟨_, results_tmp rfl _ _ _, ?_⟩
      exact ⟨by rw [Hr.out]; simp only [hw]; rfl, hj.bel.trans (below_putObj _ hle)⟩
    case body =>
      rintro l pre ls A' b' o' c' A4 b4 o4 c4 a1 W ⟨hj, hc, hf⟩ hok hr hbX hr2 hbX2 hoz hsz rfl
      have hXW : X < W.heap.size := by omega
      have Hf : Hid (wrap64 ((pre ++ [ls]).length : Int) = wrap64 (wrap64 (pre.length : Int) + 1)) := by
        unfold Hid
        rw [show ((pre ++ [ls]).length : Int) = (pre.length : Int) + 1 by rw [List.length_append]; rfl]
        exact wrap_succ _
      gi_wp2
      exact ⟨fun k hk => Below.heap_setCell _ _ _ _ (by show k ≠ X; omega), KZ.set _ _ rfl (fun k h => .inl h), ⟨hj.bel.setCell (p := ⟨X, 0, none⟩) hwX _, hj.kz.trans (KZ.set _ _ rfl (fun k h => .inl h))⟩, (World.cell?_setCell_same' _ _ _ (by rw [hc]; rfl)).trans (by rw [Hf.out]), by rw [World.frozen?_setCell]; exact hf⟩
end Go.Proofs.Ytledgblepdjjlaa
