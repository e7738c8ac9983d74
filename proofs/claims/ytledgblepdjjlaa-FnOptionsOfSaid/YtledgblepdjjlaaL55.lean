/-
  impl.FirstWay.
-/
import Derived.Test.YtledgblepdjjlaaL54
namespace Go.Proofs.Ytledgblepdjjlaa
set_option linter.unusedVariables false
set_option linter.unusedSimpArgs false
open Go Go.RowKit Go.Shelf Pp
attribute [local go_sem] Oper.semAt_some

theorem IntsR.kc {W W' : World} {b o : Nat} {A : Option Addr} {xs : List Int} (h : IntsR W W.heap.size b o A xs) (hk : KC W W') : IntsR W' W'.heap.size b o A xs :=
  ⟨h.addr, fun hx => Nat.lt_of_lt_of_le (h.lt hx) hk.1, fun j hj => hk.cell (h.cell j hj)⟩
set_option maxHeartbeats 4000000 in
set_option maxRecDepth 100000 in
theorem firstWay_q (n : Int) (bs : List Bd) (cs : List (List Bd)) (q : List Int) (r : Bool) (hq : firstW ⟨n, bs⟩ cs = (q, r)) (A A2 : Option Addr) (b o c b2 o2 c2 B : Nat) (w : World) (hn : bs.length ≤ 2000000) (hn2 : cs.length ≤ 2000000) (hn3 : ∀ l ∈ cs, l.length ≤ 2000000) (hB : B ≤ w.heap.size) (hR : BdsR w B b o A bs) (hC : ChR w B b2 o2 A2 cs) :
    Calls Try.prog 49 #[.agg #[.int .i64 n, .slice A bs.length c, .slice A2 cs.length c2]] w fun e w' => ∃ A1 c1 b1 o1, e = .returned (.tuple #[.slice A1 q.length c1, .bool r]) ∧ IntsR w' w'.heap.size b1 o1 A1 q ∧ OwnI w.heap.size w' (.slice A1 q.length c1) q ∧ Below w.heap.size w w' := by
  refine (callsIn_wide (n := 9)).1 ?_
  have hD := ((cc_new (n := n) (c := c) (c2 := c2) (t := 37) hB hR hC).alloc (.cells #[.slice none 0 0] 28)).alloc (.cells #[.bool false] 4)
  obtain ⟨wr, hwr⟩ : ∃ wr, ((w.alloc (.cells #[.int .i64 n, .slice A bs.length c, .slice A2 cs.length c2] 37)).alloc (.cells #[.slice none 0 0] 28)).alloc (.cells #[.bool false] 4) = wr := ⟨_, rfl⟩
  rw [hwr] at hD
  have hsr : wr.heap.size = w.heap.size + 3 := by rw [← hwr]; simp
  have hX0 : wr.cell? ⟨w.heap.size + 1, 0, none⟩ = some (.slice none 0 0) := by rw [← hwr]; simp [go_sem]
  have hXf : wr.frozen? ⟨w.heap.size + 1, 0, none⟩ = false := by rw [← hwr]; simp [go_sem]
  have hY0 : wr.cell? ⟨w.heap.size + 2, 0, none⟩ = some (.bool false) := by rw [← hwr]; simp [go_sem]
  have hYf : wr.frozen? ⟨w.heap.size + 2, 0, none⟩ = false := by rw [← hwr]; simp [go_sem]
  obtain ⟨p0, p1, p2⟩ : _ ∧ _ ∧ _ := ⟨hD.r.c0, hD.r.c1, hD.r.c2⟩
  obtain ⟨ws, hws⟩ : ∃ ws, Pp.ways ⟨n, bs⟩ cs = ws := ⟨_, rfl⟩
  obtain ⟨F, hF⟩ : ∃ F, wayP ⟨n, bs⟩ cs = F := ⟨_, rfl⟩
  obtain ⟨Ok, hOk⟩ : ∃ Ok, (fun ls => picksOk cs ls = true ∧ fitsW ⟨n, bs⟩ cs ls = true) = Ok := ⟨_, rfl⟩
  have Hq : Hid (headW ws = (q, r)) := by rw [← hws]; exact hq
  clear hq
  refine callsIn_of_wp_marks Try.func49 rfl trivial ?_ rfl
  simp only [Try.ntmps49, List.size_toArray, List.length_cons, List.length_nil, Nat.reduceAdd, Nat.reduceSub, Array.replicate_succ, Array.replicate_zero, List.push_toArray, List.append_toArray, List.nil_append, List.cons_append]
  gi_wp2
  (try rw [hwr])
  clear hwr
  obtain ⟨X, hXe⟩ : ∃ X, w.heap.size + 1 = X := ⟨_, rfl⟩
  obtain ⟨Y, hYe⟩ : ∃ Y, w.heap.size + 2 = Y := ⟨_, rfl⟩
  have hYe' : w.heap.size + 1 + 1 = Y := by omega
  (try rw [hYe'])
  rw [hXe] at hX0 hXf ⊢
  rw [hYe] at hY0 hYf
  (try rw [hYe])
  have hXr : X < wr.heap.size := by omega
  have hYr : Y < wr.heap.size := by omega
  have hXY : X ≠ Y := by omega
  have hwX : w.heap.size ≤ X := by omega
  have hwY : w.heap.size ≤ Y := by omega
  have hle : w.heap.size ≤ wr.heap.size := by omega
  clear hXe hYe hYe'
  have hZl : ZLow wr.heap.size (fun _ k => k = X ∨ k = Y) := fun _ _ _ _ _ h => h
  refine wp_rangeZ (by omega) (gf := 97) (d := .agg #[.int .i64 n, .slice A bs.length c, .slice A2 cs.length c2]) rfl (enters_of Try.func97 (by kernel_rfl) rfl) w.heap.size (fun _ k => k = X ∨ k = Y) F Ok hZl (fun xs => xs = ws) (fun xs => xs <+: ws) ?hit
    (fun xs W => xs = [] ∧ JZ (fun _ k => k = X ∨ k = Y) w wr W ∧ W.cell? ⟨X, 0, none⟩ = some (.slice none 0 0) ∧ W.frozen? ⟨X, 0, none⟩ = false ∧ W.cell? ⟨Y, 0, none⟩ = some (.bool false) ∧ W.frozen? ⟨Y, 0, none⟩ = false)
    (fun cd xs W => cd = .ret ∧ JZ (fun _ k => k = X ∨ k = Y) w wr W ∧ ∃ ls A1 b1 o1 c1, xs = [ls] ∧ W.cell? ⟨X, 0, none⟩ = some (.slice A1 ls.length c1) ∧ W.cell? ⟨Y, 0, none⟩ = some (.bool true) ∧ IntsR W W.heap.size b1 o1 A1 ls ∧ OwnI w.heap.size W (.slice A1 ls.length c1) ls) ?hI ?hIx ?hIZ ?h0
    (fun ls A' c' A4 c4 a1 _ => a1 = { tmps := #[.agg #[.int .i64 n, .slice A bs.length c, .slice A2 cs.length c2], .pointer (some ⟨w.heap.size, 0, none⟩), .pointer (some ⟨X, 0, none⟩), .pointer (some ⟨Y, 0, none⟩), .slice A' ls.length c', .agg #[.int .i64 n, .slice A bs.length c, .slice A2 cs.length c2], .func (.func 97) #[.agg #[.int .i64 n, .slice A bs.length c, .slice A2 cs.length c2]] #[], .slice A' ls.length c', .agg #[.int .i64 (F ls).n, .slice A4 (F ls).bs.length c4], undef], defers := [] }) (fun _ _ _ _ _ _ _ _ h _ => h) ?assign ?body ?done ?stop
  case hit =>
    intro l Inv Stop W hY hst hsz hI hb
    exact callsIn_wide.2 (ways_q n bs cs ws F Ok hws hF hOk _ w.heap.size _ l Inv Stop b o b2 o2 c c2 A A2 W hn hn2 hn3 ⟨hY, hst, hsz, hZl.more hb.size, fun _ k h => by rcases h with h | h <;> rw [h] <;> assumption, Nat.le_trans hle hb.size⟩ hI ((hR.more hB).below (bthen hD.bel hb)) ((hC.more hB).below (bthen hD.bel hb)))
  case hI =>
    rintro pre A' B' ⟨rfl, hj, hc, hf, hc2, hf2⟩ hkc hb
    exact ⟨rfl, ⟨hj.bel.trans (hb.mono hle), hj.kz.bel hZl (Nat.le_refl _) hb⟩, (hb.cell (p := ⟨X, 0, none⟩) hXr).trans hc, (hb.frozen (p := ⟨X, 0, none⟩) hXr).trans hf, (hb.cell (p := ⟨Y, 0, none⟩) hYr).trans hc2, (hb.frozen (p := ⟨Y, 0, none⟩) hYr).trans hf2⟩
  case hIx =>
    rintro cd pre A' B' ⟨rfl, hj, ls, A1, b1, o1, c1, rfl, hc, hc2, hr, ho⟩ hkc hb
    exact ⟨rfl, ⟨hj.bel.trans (hb.mono hle), hj.kz.bel hZl (Nat.le_refl _) hb⟩, ls, A1, b1, o1, c1, rfl, (hb.cell (p := ⟨X, 0, none⟩) hXr).trans hc, (hb.cell (p := ⟨Y, 0, none⟩) hYr).trans hc2, hr.kc hkc, own_kc ho hkc⟩
  case hIZ =>
    rintro pre A' ⟨-, hj, -⟩ k (rfl | rfl)
    · exact Nat.lt_of_lt_of_le hXr hj.kz.size
    · exact Nat.lt_of_lt_of_le hYr hj.kz.size
  case h0 => exact ⟨rfl, ⟨hD.bel, KZ.refl _ _⟩, hX0, hXf, hY0, hYf⟩
  case assign =>
    intro l ls A' c' A4 c4 W K hK
    gi_wp2
    exact hK _ _ (Below.refl _ _) rfl
  case stop =>
    rintro cd pre W hpre ⟨rfl, hj, ls, A1, b1, o1, c1, rfl, hc, hc2, hr, ho⟩ hm
    have HE : Hid (ls = q ∧ true = r) := by
      obtain ⟨t, ht⟩ := hpre
      have e := Hq.out
      rw [← ht] at e
      exact ⟨(Prod.mk.inj e).1, (Prod.mk.inj e).2⟩
    gi_wp2
    have hc5 : (W.putObj wr.heap.size (.deferred none)).cell? ⟨X, 0, none⟩ = some (.slice A1 ls.length c1) := (World.cell?_of_block (World.putObj_heap_other (k := X) (by omega))).trans hc
    have hc6 : (W.putObj wr.heap.size (.deferred none)).cell? ⟨Y, 0, none⟩ = some (.bool true) := (World.cell?_of_block (World.putObj_heap_other (k := Y) (by omega))).trans hc2
    refine ⟨by simp, .inl ⟨_, _, rfl, run_takeDeferred hm, ?_⟩⟩
    refine ⟨.tuple #[.slice A1 ls.length c1, .bool true], by simp [results, Try.f49, go_sem, hc5, hc6], ?_⟩
    obtain ⟨rfl, rfl⟩ := HE.out
    exact ⟨A1, c1, b1, o1, rfl, hr.kc (KC.putObj _ hm rfl), own_kc ho (KC.putObj _ hm rfl), hj.bel.trans (below_putObj _ hle)⟩
  case done =>
    rintro xs W hxs ⟨rfl, hj, hc, hf, hc2, hf2⟩ hm
    have HE : Hid (([] : List Int) = q ∧ false = r) := by
      have e := Hq.out
      rw [← hxs] at e
      exact ⟨(Prod.mk.inj e).1, (Prod.mk.inj e).2⟩
    gi_wp2
    have hm4 : ((W.setCell ⟨X, 0, none⟩ (.slice none 0 0)).setCell ⟨Y, 0, none⟩ (.bool false)).heap[wr.heap.size]? = some (.deferred (some [])) := (Below.heap_setCell _ ⟨Y, 0, none⟩ _ _ (by show wr.heap.size ≠ Y; omega)).trans ((Below.heap_setCell W ⟨X, 0, none⟩ _ _ (by show wr.heap.size ≠ X; omega)).trans hm)
    have hc5 : (((W.setCell ⟨X, 0, none⟩ (.slice none 0 0)).setCell ⟨Y, 0, none⟩ (.bool false)).putObj wr.heap.size (.deferred none)).cell? ⟨X, 0, none⟩ = some (.slice none 0 0) :=
      (World.cell?_of_block (World.putObj_heap_other (k := X) (by omega))).trans ((set_other (by show Y ≠ X; omega)).trans (World.cell?_setCell_same' _ _ _ (by rw [hc]; rfl)))
    have hc6 : (((W.setCell ⟨X, 0, none⟩ (.slice none 0 0)).setCell ⟨Y, 0, none⟩ (.bool false)).putObj wr.heap.size (.deferred none)).cell? ⟨Y, 0, none⟩ = some (.bool false) :=
      (World.cell?_of_block (World.putObj_heap_other (k := Y) (by omega))).trans (World.cell?_setCell_same' _ _ _ (by rw [set_other (by show X ≠ Y; omega), hc2]; rfl))
    refine ⟨by simp, .inl ⟨_, _, rfl, run_takeDeferred hm4, ?_⟩⟩
    refine ⟨.tuple #[.slice none 0 0, .bool false], by simp [results, Try.f49, go_sem, hc5, hc6], ?_⟩
    obtain ⟨rfl, rfl⟩ := HE.out
    exact ⟨none, 0, 0, 0, rfl, IntsR.nil _ _ _, ⟨rfl, .inl ⟨rfl, rfl⟩⟩, ((hj.bel.setCell (p := ⟨X, 0, none⟩) hwX _).setCell (p := ⟨Y, 0, none⟩) hwY _).trans (below_putObj _ hle)⟩
  case body =>
    rintro l pre ls A' b' o' c' A4 b4 o4 c4 a1 W ⟨rfl, hj, hc, hf, hc2, hf2⟩ hok hr hbX hr2 hbX2 hoz hsz rfl
    have hXW : X < W.heap.size := by omega
    have hYW : Y < W.heap.size := by omega
    have k1 : KZ (fun _ k => k = X ∨ k = Y) W (W.setCell ⟨X, 0, none⟩ (.slice A' ls.length c')) := KZ.set _ _ (.inl rfl) (fun k h => .inl h)
    have k2 : KZ (fun _ k => k = X ∨ k = Y) (W.setCell ⟨X, 0, none⟩ (.slice A' ls.length c')) ((W.setCell ⟨X, 0, none⟩ (.slice A' ls.length c')).setCell ⟨Y, 0, none⟩ (.bool true)) := KZ.set _ _ (.inr rfl) (fun k h => .inl h)
    have k3 := k1.trans k2
    have c5 : ((W.setCell ⟨X, 0, none⟩ (.slice A' ls.length c')).setCell ⟨Y, 0, none⟩ (.bool true)).cell? ⟨X, 0, none⟩ = some (.slice A' ls.length c') := (set_other (by show Y ≠ X; omega)).trans (World.cell?_setCell_same' _ _ _ (by rw [hc]; rfl))
    have c6 : ((W.setCell ⟨X, 0, none⟩ (.slice A' ls.length c')).setCell ⟨Y, 0, none⟩ (.bool true)).cell? ⟨Y, 0, none⟩ = some (.bool true) := World.cell?_setCell_same' _ _ _ (by rw [set_other (by show X ≠ Y; omega), hc2]; rfl)
    gi_wp2
    exact ⟨fun k hk => (Below.heap_setCell _ _ _ _ (by show k ≠ Y; omega)).trans (Below.heap_setCell _ _ _ _ (by show k ≠ X; omega)), k3, rfl, ⟨(hj.bel.setCell (p := ⟨X, 0, none⟩) hwX _).setCell (p := ⟨Y, 0, none⟩) hwY _, hj.kz.trans k3⟩, ls, A', b', o', c', rfl, c5, c6, (hr.kz k3 hbX).1, own_kz hoz.own k3 hoz.no⟩
end Go.Proofs.Ytledgblepdjjlaa
