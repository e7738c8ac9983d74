/-
  impl.LeastSpan.
-/
import Derived.Test.YtledgblepdjjlaaL55
import Derived.Test.YtledgblepdjjlaaL2d
namespace Go.Proofs.Ytledgblepdjjlaa
set_option linter.unusedVariables false
set_option linter.unusedSimpArgs false
open Go Go.RowKit Go.Shelf Pp
attribute [local go_sem] Oper.semAt_some

/-- Cells that the rounds may turn: the result's and two of their own. -/
def Z4 (X : Nat) : World → Nat → Prop := fun _ k => X ≤ k ∧ k < X + 4
theorem leastW_no {L : List Int → Int × Bool} {pre ws : List (List Int)} (h : pre <+: ws) (hn : pre.all (fun ks => (L ks).2) = false) : leastW L ws = (0, false) := by
  obtain ⟨t, rfl⟩ := h
  unfold leastW
  rw [List.all_append, hn]; rfl
theorem leastW_yes {L : List Int → Int × Bool} {ws : List (List Int)} (h : ws.all (fun ks => (L ks).2) = true) : leastW L ws = spanW L ws := by unfold leastW; rw [if_pos h]
/-- The four boxes. -/
structure F4 (W : World) (X : Nat) (r s : Value) (a : Int × Bool) : Prop where
  ex : X + 4 ≤ W.heap.size
  r0 : W.cell? ⟨X, 0, none⟩ = some r
  s0 : W.cell? ⟨X + 1, 0, none⟩ = some s
  x0 : W.cell? ⟨X + 2, 0, none⟩ = some (.int .i64 a.1)
  y0 : W.cell? ⟨X + 3, 0, none⟩ = some (.bool a.2)
  f0 : W.frozen? ⟨X, 0, none⟩ = false
  f1 : W.frozen? ⟨X + 1, 0, none⟩ = false
  f2 : W.frozen? ⟨X + 2, 0, none⟩ = false
  f3 : W.frozen? ⟨X + 3, 0, none⟩ = false
theorem F4.low {W W' : World} {X : Nat} {r s : Value} {a : Int × Bool} {B : Nat} (h : F4 W X r s a) (hB : X + 4 ≤ B) (hs : W.heap.size ≤ W'.heap.size) (hb : Below B W W') : F4 W' X r s a :=
  ⟨Nat.le_trans h.ex hs, (hb.cell (p := ⟨X, 0, none⟩) (by dsimp only; omega)).trans h.r0, (hb.cell (p := ⟨X + 1, 0, none⟩) (by dsimp only; omega)).trans h.s0, (hb.cell (p := ⟨X + 2, 0, none⟩) (by dsimp only; omega)).trans h.x0, (hb.cell (p := ⟨X + 3, 0, none⟩) (by dsimp only; omega)).trans h.y0,
    (hb.frozen (p := ⟨X, 0, none⟩) (by dsimp only; omega)).trans h.f0, (hb.frozen (p := ⟨X + 1, 0, none⟩) (by dsimp only; omega)).trans h.f1, (hb.frozen (p := ⟨X + 2, 0, none⟩) (by dsimp only; omega)).trans h.f2, (hb.frozen (p := ⟨X + 3, 0, none⟩) (by dsimp only; omega)).trans h.f3⟩
theorem F4.put2 {W : World} {X : Nat} {r s : Value} {a : Int × Bool} (h : F4 W X r s a) (n : Int) (v : Bool) : F4 ((W.setCell ⟨X + 2, 0, none⟩ (.int .i64 n)).setCell ⟨X + 3, 0, none⟩ (.bool v)) X r s (n, v) :=
  ⟨by simpa using h.ex, (set_other (by dsimp only; omega)).trans ((set_other (by dsimp only; omega)).trans h.r0), (set_other (by dsimp only; omega)).trans ((set_other (by dsimp only; omega)).trans h.s0),
    (set_other (by dsimp only; omega)).trans (World.cell?_setCell_same' _ _ _ (by rw [h.x0]; rfl)), World.cell?_setCell_same' _ _ _ (by rw [set_other (by dsimp only; omega), h.y0]; rfl),
    by rw [World.frozen?_setCell, World.frozen?_setCell]; exact h.f0, by rw [World.frozen?_setCell, World.frozen?_setCell]; exact h.f1, by rw [World.frozen?_setCell, World.frozen?_setCell]; exact h.f2, by rw [World.frozen?_setCell, World.frozen?_setCell]; exact h.f3⟩
theorem F4.put1 {W : World} {X : Nat} {r s : Value} {a : Int × Bool} (h : F4 W X r s a) (r' s' : Value) : F4 ((W.setCell ⟨X, 0, none⟩ r').setCell ⟨X + 1, 0, none⟩ s') X r' s' a :=
  ⟨by simpa using h.ex, (set_other (by dsimp only; omega)).trans (World.cell?_setCell_same' _ _ _ (by rw [h.r0]; rfl)), World.cell?_setCell_same' _ _ _ (by rw [set_other (by dsimp only; omega), h.s0]; rfl),
    (set_other (by dsimp only; omega)).trans ((set_other (by dsimp only; omega)).trans h.x0), (set_other (by dsimp only; omega)).trans ((set_other (by dsimp only; omega)).trans h.y0),
    by rw [World.frozen?_setCell, World.frozen?_setCell]; exact h.f0, by rw [World.frozen?_setCell, World.frozen?_setCell]; exact h.f1, by rw [World.frozen?_setCell, World.frozen?_setCell]; exact h.f2, by rw [World.frozen?_setCell, World.frozen?_setCell]; exact h.f3⟩
theorem Z4.set2 {X i j : Nat} (W : World) (u v : Value) (hi : i < 4) (hj : j < 4) : KZ (Z4 X) W ((W.setCell ⟨X + i, 0, none⟩ u).setCell ⟨X + j, 0, none⟩ v) :=
  (KZ.set (Z := Z4 X) W u ⟨by omega, by omega⟩ (fun k h => .inl h)).trans (KZ.set (Z := Z4 X) _ v ⟨by omega, by omega⟩ (fun k h => .inl h))

set_option maxHeartbeats 4000000 in
set_option maxRecDepth 100000 in
theorem leastSpan_c (n : Int) (bs : List Bd) (cs : List (List Bd)) (f t : Int) (q : Int) (r : Bool) (hq : leastSpan ⟨n, bs⟩ cs f t = (q, r)) (A A2 : Option Addr) (b o c b2 o2 c2 B : Nat) (w : World) (hn : bs.length ≤ 2000000) (hn2 : cs.length ≤ 2000000) (hn3 : ∀ l ∈ cs, l.length ≤ 2000000) (hB : B ≤ w.heap.size) (hR : BdsR w B b o A bs) (hC : ChR w B b2 o2 A2 cs) :
    Calls Try.prog 47 #[.agg #[.int .i64 n, .slice A bs.length c, .slice A2 cs.length c2], .int .i64 f, .int .i64 t] w fun e w' => e = .returned (.tuple #[.int .i64 q, .bool r]) ∧ Below w.heap.size w w' := by
  refine (callsIn_wide (n := 9)).1 ?_
  obtain ⟨wr, hwr⟩ : ∃ wr, ((((((w.alloc (.cells #[.int .i64 n, .slice A bs.length c, .slice A2 cs.length c2] 37)).alloc (.cells #[.int .i64 f] 3)).alloc (.cells #[.int .i64 t] 3)).alloc (.cells #[.int .i64 0] 3)).alloc (.cells #[.bool false] 4)).alloc (.cells #[.int .i64 0] 3)).alloc (.cells #[.bool false] 4) = wr := ⟨_, rfl⟩
  have hD := (((((((cc_new (n := n) (c := c) (c2 := c2) (t := 37) hB hR hC).alloc (.cells #[.int .i64 f] 3)).alloc (.cells #[.int .i64 t] 3)).alloc (.cells #[.int .i64 0] 3)).alloc (.cells #[.bool false] 4)).alloc (.cells #[.int .i64 0] 3)).alloc (.cells #[.bool false] 4))
  rw [hwr] at hD
  have hsr : wr.heap.size = w.heap.size + 7 := by rw [← hwr]; simp
  have hF : wr.cell? ⟨w.heap.size + 1, 0, none⟩ = some (.int .i64 f) := by rw [← hwr]; simp [go_sem]
  have hT : wr.cell? ⟨w.heap.size + 2, 0, none⟩ = some (.int .i64 t) := by rw [← hwr]; simp [go_sem]
  have hF4 : F4 wr (w.heap.size + 3) (.int .i64 0) (.bool false) (0, false) := by
    refine ⟨by omega, ?_, ?_, ?_, ?_, ?_, ?_, ?_, ?_⟩ <;> rw [← hwr] <;> simp [go_sem]
  obtain ⟨p0, p1, p2⟩ : _ ∧ _ ∧ _ := ⟨hD.r.c0, hD.r.c1, hD.r.c2⟩
  obtain ⟨ws, hws⟩ : ∃ ws, Pp.ways ⟨n, bs⟩ cs = ws := ⟨_, rfl⟩
  obtain ⟨F, hFe⟩ : ∃ F, wayP ⟨n, bs⟩ cs = F := ⟨_, rfl⟩
  obtain ⟨Ok, hOk⟩ : ∃ Ok, (fun ls => picksOk cs ls = true ∧ fitsW ⟨n, bs⟩ cs ls = true) = Ok := ⟨_, rfl⟩
  have hFl : Hid (∀ ls, Ok ls → (F ls).bs.length ≤ 2000000) := by
    intro ls h
    rw [← hOk] at h
    have h2 : fits (F ls) = true := by rw [← hFe]; exact h.2
    have := (planOk_iff.1 (planOk_of_fits h2)).2.1
    omega
  obtain ⟨L, hL⟩ : ∃ L, (fun ks => Pp.leastOf (F ks) f t) = L := ⟨_, rfl⟩
  have Hq : Hid (leastW L ws = (q, r)) := by rw [← hws, ← hL, ← hFe]; exact hq
  have HLs : Hid (∀ ks, Pp.leastOf (F ks) f t = L ks) := fun ks => by rw [← hL]
  clear hq hL
  have x0 : wr.cell? ⟨w.heap.size + 1 + 1 + 1 + 1 + 1, 0, none⟩ = some (.int .i64 0) := hF4.x0
  have y0 : wr.cell? ⟨w.heap.size + 1 + 1 + 1 + 1 + 1 + 1, 0, none⟩ = some (.bool false) := hF4.y0
  have f2 : wr.frozen? ⟨w.heap.size + 1 + 1 + 1 + 1 + 1, 0, none⟩ = false := hF4.f2
  have f3 : wr.frozen? ⟨w.heap.size + 1 + 1 + 1 + 1 + 1 + 1, 0, none⟩ = false := hF4.f3
  obtain ⟨wz, hwz⟩ : ∃ wz, (wr.setCell ⟨w.heap.size + 1 + 1 + 1 + 1 + 1, 0, none⟩ (.int .i64 0)).setCell ⟨w.heap.size + 1 + 1 + 1 + 1 + 1 + 1, 0, none⟩ (.bool false) = wz := ⟨_, rfl⟩
  have hF4z : F4 wz (w.heap.size + 3) (.int .i64 0) (.bool false) (0, false) := by rw [← hwz]; exact hF4.put2 0 false
  have hBz : Below w.heap.size w wz := by rw [← hwz]; exact (hD.bel.setCell (by dsimp only; omega) _).setCell (by dsimp only; omega) _
  have hFz : wz.cell? ⟨w.heap.size + 1, 0, none⟩ = some (.int .i64 f) := by rw [← hwz]; exact (set_other (by dsimp only; omega)).trans ((set_other (by dsimp only; omega)).trans hF)
  have hTz : wz.cell? ⟨w.heap.size + 2, 0, none⟩ = some (.int .i64 t) := by rw [← hwz]; exact (set_other (by dsimp only; omega)).trans ((set_other (by dsimp only; omega)).trans hT)
  have hsz : wz.heap.size = w.heap.size + 7 := by rw [← hwz]; simpa using hsr
  have q0 : wz.cell? ⟨w.heap.size, 0, none⟩ = some (.int .i64 n) := by rw [← hwz]; exact (set_other (by dsimp only; omega)).trans ((set_other (by dsimp only; omega)).trans p0)
  have q1 : wz.cell? ⟨w.heap.size, 1, none⟩ = some (.slice A bs.length c) := by rw [← hwz]; exact (set_other (by dsimp only; omega)).trans ((set_other (by dsimp only; omega)).trans p1)
  have q2 : wz.cell? ⟨w.heap.size, 2, none⟩ = some (.slice A2 cs.length c2) := by rw [← hwz]; exact (set_other (by dsimp only; omega)).trans ((set_other (by dsimp only; omega)).trans p2)
  refine callsIn_of_wp_marks Try.func47 rfl trivial ?_ rfl
  simp only [Try.ntmps47, List.size_toArray, List.length_cons, List.length_nil, Nat.reduceAdd, Nat.reduceSub, Array.replicate_succ, Array.replicate_zero, List.push_toArray, List.append_toArray, List.nil_append, List.cons_append]
  gi_wp2
  (try rw [hwr])
  (try rw [hwz])
  clear hwr hwz x0 y0 f2 f3 p0 p1 p2 q0 q1 q2 hD hF4 hsr hF hT
  simp only [Nat.add_assoc, Nat.reduceAdd]
  obtain ⟨X, hXe⟩ : ∃ X, w.heap.size + 3 = X := ⟨_, rfl⟩
  have hX4 : w.heap.size + 4 = X + 1 := by omega
  have hX5 : w.heap.size + 5 = X + 2 := by omega
  have hX6 : w.heap.size + 6 = X + 3 := by omega
  rw [hX4, hX5, hX6, hXe]
  rw [hXe] at hF4z
  have hXr : X + 4 ≤ wz.heap.size := by omega
  have hwX : w.heap.size + 3 ≤ X := by omega
  have hle : w.heap.size ≤ wz.heap.size := by omega
  clear hXe hX4 hX5 hX6
  have hZl : ZLow wz.heap.size (Z4 X) := fun _ _ _ _ _ h => h
  refine wp_rangeZ (n := 9) (by omega) (gf := 97) (d := .agg #[.int .i64 n, .slice A bs.length c, .slice A2 cs.length c2]) rfl (enters_of Try.func97 (by kernel_rfl) rfl) w.heap.size (Z4 X) F Ok hZl (fun xs => xs = ws) (fun xs => xs <+: ws) ?hit
    (fun xs W => JZ (Z4 X) w wz W ∧ xs.all (fun ks => (L ks).2) = true ∧ F4 W X (.int .i64 0) (.bool false) (spanW L xs))
    (fun cd xs W => cd = .ret ∧ JZ (Z4 X) w wz W ∧ xs.all (fun ks => (L ks).2) = false ∧ ∃ a, F4 W X (.int .i64 0) (.bool false) a) ?hI ?hIx ?hIZ ?h0
    (fun ls A' c' A4 c4 a1 W => ∃ P, a1 = { tmps := #[.agg #[.int .i64 n, .slice A bs.length c, .slice A2 cs.length c2], .int .i64 f, .int .i64 t, .pointer (some ⟨w.heap.size, 0, none⟩), .pointer (some ⟨w.heap.size + 1, 0, none⟩), .pointer (some ⟨w.heap.size + 2, 0, none⟩), .pointer (some ⟨X, 0, none⟩), .pointer (some ⟨X + 1, 0, none⟩), .pointer (some ⟨X + 2, 0, none⟩), .pointer (some ⟨X + 3, 0, none⟩), undef, .pointer (some ⟨P, 0, none⟩), undef, undef, .agg #[.int .i64 n, .slice A bs.length c, .slice A2 cs.length c2], .func (.func 97) #[.agg #[.int .i64 n, .slice A bs.length c, .slice A2 cs.length c2]] #[], .slice A' ls.length c', .agg #[.int .i64 (F ls).n, .slice A4 (F ls).bs.length c4], undef, undef, undef, undef, undef, undef, undef, undef, undef, undef, undef, undef, undef, undef, undef, undef, undef, undef, undef], defers := [] } ∧ W.cell? ⟨P, 0, none⟩ = some (.int .i64 (F ls).n) ∧ W.cell? ⟨P, 1, none⟩ = some (.slice A4 (F ls).bs.length c4))
    (fun _ _ _ _ _ _ _ _ h hk => by obtain ⟨P, h1, h2, h3⟩ := h; exact ⟨P, h1, hk.cell h2, hk.cell h3⟩) ?assign ?body ?done ?stop
  case hit =>
    intro l Inv Stop W hY hst hsz hI hb
    exact callsIn_wide.2 (ways_q n bs cs ws F Ok hws hFe hOk _ w.heap.size _ l Inv Stop b o b2 o2 c c2 A A2 W hn hn2 hn3 ⟨hY, hst, hsz, hZl.more hb.size, fun _ k h => by have := h.1; omega, Nat.le_trans hle hb.size⟩ hI ((hR.more hB).below (bthen hBz hb)) ((hC.more hB).below (bthen hBz hb)))
  case hI =>
    rintro pre A' B' ⟨hj, hw, hf⟩ hkc hb
    exact ⟨⟨hj.bel.trans (hb.mono hle), hj.kz.bel hZl (Nat.le_refl _) hb⟩, hw, hf.low hXr hkc.1 hb⟩
  case hIx =>
    rintro cd pre A' B' ⟨rfl, hj, hw, a, hf⟩ hkc hb
    exact ⟨rfl, ⟨hj.bel.trans (hb.mono hle), hj.kz.bel hZl (Nat.le_refl _) hb⟩, hw, a, hf.low hXr hkc.1 hb⟩
  case hIZ =>
    rintro pre A' ⟨hj, -⟩ k hk
    have := hk.2
    have := hj.kz.size
    omega
  case h0 => exact ⟨⟨hBz, KZ.refl _ _⟩, rfl, hF4z⟩
  case assign =>
    intro l ls A' c' A4 c4 W K hK
    gi_wp2
    exact hK _ _ (by go_grown) ⟨W.heap.size, rfl, by simp [go_sem], by simp [go_sem]⟩
  case stop =>
    rintro cd pre W hpre ⟨rfl, hj, hw, a, hf⟩ hm
    have HE : Hid (0 = q ∧ false = r) := by
      have e := Hq.out
      rw [leastW_no hpre hw] at e
      exact ⟨(Prod.mk.inj e).1, (Prod.mk.inj e).2⟩
    gi_wp2
    have hf5 := hf.low (B := X + 4) (Nat.le_refl _) (by simp) (below_putObj (l := wz.heap.size) (.deferred none) hXr)
    have hc5 := hf5.r0
    have hc6 := hf5.s0
    refine ⟨by simp, .inl ⟨_, _, rfl, run_takeDeferred hm, ?_⟩⟩
    refine ⟨.tuple #[.int .i64 0, .bool false], by simp [results, Try.f47, go_sem, hc5, hc6], ?_⟩
    obtain ⟨rfl, rfl⟩ := HE.out
    exact ⟨rfl, hj.bel.trans (below_putObj _ hle)⟩
  case done =>
    rintro xs W hxs ⟨hj, hw, hf⟩ hm
    have HE : Hid (spanW L xs = (q, r)) := by
      have e := Hq.out
      rw [← hxs, leastW_yes hw] at e
      exact e
    rw [HE.out] at hf
    have r0 := hf.r0
    have s0 := hf.s0
    have x0 := hf.x0
    have y0 := hf.y0
    have f0 := hf.f0
    have f1 := hf.f1
    dsimp only at x0 y0
    gi_wp2
    gi_region
    gi_wp2
    have hF5 := hf.put1 (.int .i64 q) (.bool r)
    have hm4 : ((W.setCell ⟨X, 0, none⟩ (.int .i64 q)).setCell ⟨X + 1, 0, none⟩ (.bool r)).drew.heap[wz.heap.size]? = some (.deferred (some [])) := (Below.heap_setCell _ ⟨X + 1, 0, none⟩ _ _ (by show wz.heap.size ≠ X + 1; omega)).trans ((Below.heap_setCell _ ⟨X, 0, none⟩ _ _ (by show wz.heap.size ≠ X; omega)).trans hm)
    have hb5 : Below w.heap.size w ((W.setCell ⟨X, 0, none⟩ (.int .i64 q)).setCell ⟨X + 1, 0, none⟩ (.bool r)) := (hj.bel.setCell (by dsimp only; omega) _).setCell (by dsimp only; omega) _
    have hs5 : wz.heap.size ≤ ((W.setCell ⟨X, 0, none⟩ (.int .i64 q)).setCell ⟨X + 1, 0, none⟩ (.bool r)).heap.size := by have := hj.kz.size; simpa using this
    generalize (W.setCell ⟨X, 0, none⟩ (.int .i64 q)).setCell ⟨X + 1, 0, none⟩ (.bool r) = W2 at hF5 hm4 hb5 hs5 ⊢
    have hd5 : Below W2.heap.size W2 W2.drew := by go_grown
    have hf6 := (hF5.low (B := X + 4) (Nat.le_refl _) hd5.size (hd5.mono hF5.ex)).low (B := X + 4) (Nat.le_refl _) (by simp) (below_putObj (l := wz.heap.size) (.deferred none) hXr)
    have hc5 := hf6.r0
    have hc6 := hf6.s0
    refine ⟨by simp, .inl ⟨_, _, rfl, run_takeDeferred hm4, ?_⟩⟩
    refine ⟨.tuple #[.int .i64 q, .bool r], by simp [results, Try.f47, go_sem, hc5, hc6], ?_⟩
    exact ⟨rfl, ((bthen hb5 hd5)).trans (below_putObj _ hle)⟩
  case body =>
    rintro l pre ls A' b' o' c' A4 b4 o4 c4 a1 W ⟨hj, hw, hF4⟩ hok hr hbX hr2 hbX2 hoz hsz ⟨P, rfl, hP0, hP1⟩
    have hXW : X + 4 ≤ W.heap.size := by omega
    have hql := hFl.out ls hok
    have hFc : W.cell? ⟨w.heap.size + 1, 0, none⟩ = some (.int .i64 f) := hj.kz.cell hFz (fun h => by have := h.1; dsimp only at this; omega)
    have hTc : W.cell? ⟨w.heap.size + 2, 0, none⟩ = some (.int .i64 t) := hj.kz.cell hTz (fun h => by have := h.1; dsimp only at this; omega)
    have HL : Hid (Pp.leastOf (F ls) f t = L ls) := HLs.out ls
    have Hsn : Hid (spanW L (pre ++ [ls]) = spanAcc (spanW L pre) (L ls).1) := spanW_snoc L pre ls
    have Hal : Hid ((pre ++ [ls]).all (fun ks => (L ks).2) = (L ls).2) := by unfold Hid; rw [List.all_append, hw]; simp
    generalize F ls = Q at hql hr2 hbX2 hP0 hP1 HL
    generalize L ls = v at HL Hsn Hal
    generalize spanW L pre = a at hF4 Hsn
    obtain ⟨lv, lok⟩ := v
    obtain ⟨av, aok⟩ := a
    have hk6 : ∀ w6, Below W.heap.size W w6 → JZ (Z4 X) w wz w6 ∧ KZ (Z4 X) W w6 := fun w6 hb => ⟨⟨hj.bel.trans (hb.mono (by omega)), hj.kz.trans (KZ.below hZl (by omega) hb)⟩, KZ.below hZl (by omega) hb⟩
    cases lok
    · gi_wp2_with (refine ⟨trivial, ?_⟩; gi_at_call 50; refine (CallsIn.inRound l (callsIn_wide.2 (leastOf_c Q f t A4 b4 o4 c4 _ W hql (Nat.le_refl _) hr2))).mono ?_; rw [HL.out]; rintro e w6 ⟨rfl, hb6⟩; have hF6 := hF4.low (Nat.le_refl _) hb6.size (hb6.mono hXW); have r0 := hF6.r0; have s0 := hF6.s0; have x0 := hF6.x0; have y0 := hF6.y0; have f0 := hF6.f0; have f1 := hF6.f1; have f2 := hF6.f2; have f3 := hF6.f3; dsimp only at x0 y0)
      have hF7 := hF6.put1 (.int .i64 0) (.bool false)
      obtain ⟨hj6, hkz6⟩ := hk6 w6 hb6
      have hkk := Z4.set2 (X := X) (i := 0) (j := 1) w6 (.int .i64 0) (.bool false) (by omega) (by omega)
      exact ⟨fun k hk => (Below.heap_setCell _ _ _ _ (by show k ≠ X + 1; omega)).trans ((Below.heap_setCell _ _ _ _ (by show k ≠ X; omega)).trans (hb6.block k (by omega))), hkz6.trans hkk, rfl, ⟨(hj6.bel.setCell (by dsimp only; omega) _).setCell (by dsimp only; omega) _, hj6.kz.trans hkk⟩, by rw [Hal.out], _, hF7⟩
    · have hyes : (aok = false ∨ lv < av) → Hid (spanW L (pre ++ [ls]) = (lv, true)) := fun h => by unfold Hid; rw [Hsn.out]; unfold spanAcc; rw [if_pos h]
      have hno : ¬ (aok = false ∨ lv < av) → Hid (spanW L (pre ++ [ls]) = (av, aok)) := fun h => by unfold Hid; rw [Hsn.out]; unfold spanAcc; rw [if_neg h]
      cases aok
      · have Hs2 := hyes (.inl rfl)
        clear hyes hno
        gi_wp2_with (refine ⟨trivial, ?_⟩; gi_at_call 50; refine (CallsIn.inRound l (callsIn_wide.2 (leastOf_c Q f t A4 b4 o4 c4 _ W hql (Nat.le_refl _) hr2))).mono ?_; rw [HL.out]; rintro e w6 ⟨rfl, hb6⟩; have hF6 := hF4.low (Nat.le_refl _) hb6.size (hb6.mono hXW); have r0 := hF6.r0; have s0 := hF6.s0; have x0 := hF6.x0; have y0 := hF6.y0; have f0 := hF6.f0; have f1 := hF6.f1; have f2 := hF6.f2; have f3 := hF6.f3; dsimp only at x0 y0)
        have hF7 := hF6.put2 lv true
        obtain ⟨hj6, hkz6⟩ := hk6 w6 hb6
        have hkk := Z4.set2 (X := X) (i := 2) (j := 3) w6 (.int .i64 lv) (.bool true) (by omega) (by omega)
        exact ⟨fun k hk => (Below.heap_setCell _ _ _ _ (by show k ≠ X + 3; omega)).trans ((Below.heap_setCell _ _ _ _ (by show k ≠ X + 2; omega)).trans (hb6.block k (by omega))), hkz6.trans hkk, ⟨(hj6.bel.setCell (by dsimp only; omega) _).setCell (by dsimp only; omega) _, hj6.kz.trans hkk⟩, by rw [Hal.out], by rw [Hs2.out]; exact hF7⟩
      · by_cases hlt : lv < av
        · have Hs2 := hyes (.inr hlt)
          clear hyes hno
          gi_wp2_with (refine ⟨trivial, ?_⟩; gi_at_call 50; refine (CallsIn.inRound l (callsIn_wide.2 (leastOf_c Q f t A4 b4 o4 c4 _ W hql (Nat.le_refl _) hr2))).mono ?_; rw [HL.out]; rintro e w6 ⟨rfl, hb6⟩; have hF6 := hF4.low (Nat.le_refl _) hb6.size (hb6.mono hXW); have r0 := hF6.r0; have s0 := hF6.s0; have x0 := hF6.x0; have y0 := hF6.y0; have f0 := hF6.f0; have f1 := hF6.f1; have f2 := hF6.f2; have f3 := hF6.f3; dsimp only at x0 y0)
          have hF7 := hF6.put2 lv true
          obtain ⟨hj6, hkz6⟩ := hk6 w6 hb6
          have hkk := Z4.set2 (X := X) (i := 2) (j := 3) w6 (.int .i64 lv) (.bool true) (by omega) (by omega)
          exact ⟨fun k hk => (Below.heap_setCell _ _ _ _ (by show k ≠ X + 3; omega)).trans ((Below.heap_setCell _ _ _ _ (by show k ≠ X + 2; omega)).trans (hb6.block k (by omega))), hkz6.trans hkk, ⟨(hj6.bel.setCell (by dsimp only; omega) _).setCell (by dsimp only; omega) _, hj6.kz.trans hkk⟩, by rw [Hal.out], by rw [Hs2.out]; exact hF7⟩
        · have Hs2 := hno (by simp [hlt])
          clear hyes hno
          gi_wp2_with (refine ⟨trivial, ?_⟩; gi_at_call 50; refine (CallsIn.inRound l (callsIn_wide.2 (leastOf_c Q f t A4 b4 o4 c4 _ W hql (Nat.le_refl _) hr2))).mono ?_; rw [HL.out]; rintro e w6 ⟨rfl, hb6⟩; have hF6 := hF4.low (Nat.le_refl _) hb6.size (hb6.mono hXW); have r0 := hF6.r0; have s0 := hF6.s0; have x0 := hF6.x0; have y0 := hF6.y0; have f0 := hF6.f0; have f1 := hF6.f1; have f2 := hF6.f2; have f3 := hF6.f3; dsimp only at x0 y0)
          obtain ⟨hj6, hkz6⟩ := hk6 w6 hb6
          exact ⟨fun k hk => hb6.block k (by omega), hkz6, hj6, by rw [Hal.out], by rw [Hs2.out]; exact hF6⟩
end Go.Proofs.Ytledgblepdjjlaa
