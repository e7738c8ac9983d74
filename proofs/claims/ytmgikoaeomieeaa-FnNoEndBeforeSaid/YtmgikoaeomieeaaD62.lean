/-
  The draws of the reference: projects, hands and orders.
-/
import Derived.Test.YtmgikoaeomieeaaD60
import Derived.Test.YtmgikoaeomieeaaD61
namespace Go.Proofs.Ytmgikoaeomieeaa
set_option linter.unusedVariables false
set_option linter.unusedSimpArgs false
open Go.RowKit Pp

theorem own_takeI {base : Nat} {w : World} {A : Option Addr} {c m : Nat} {xs : List Int} (h : OwnI base w (.slice A xs.length c) xs) (h0 : 0 < m) (hm : m ≤ xs.length) : OwnI base w (.slice A m c) (xs.take m) ∧ m ≤ c := by
  obtain ⟨g, hr⟩ := own_IntsR h
  have hA := hr.addr (by omega)
  subst hA
  have h' := h
  unfold OwnI at h'
  obtain ⟨f, hf, hxx, hb, hnc, hcm⟩ := own_row h'
  have hl : (xs.take m).length = m := by rw [List.length_take]; omega
  have h2 := row_own (n := m) (base := base) (size := 1) (xs := (xs.take m).map (Value.int .i64)) hf (fun j hj => ?_) (by rw [List.length_map, hl]; omega) hb (by omega) hcm
  · unfold OwnI
    rw [hl]
    exact ⟨h2, by omega⟩
  · rw [List.map_take, List.getElem?_take, if_pos (by omega)]
    exact hxx j (by omega)
theorem PR.cut {w0 wr : World} {g P m : Nat} {K : Int} {A1 A2 : Option Addr} {c1 c2 : Nat} {L F : List Int} (h : PR w0 wr g P K A1 c1 L A2 c2 F) (h0 : 0 < m) (hL : m ≤ L.length) (hF : m ≤ F.length) :
    PR w0 ((wr.setCell ⟨P, 0, none⟩ (.slice A1 m c1)).setCell ⟨P, 1, none⟩ (.slice A2 m c2)) g P K A1 c1 (L.take m) A2 c2 (F.take m) := by
  have hl1 : (L.take m).length = m := by rw [List.length_take]; omega
  have hl2 : (F.take m).length = m := by rw [List.length_take]; omega
  obtain ⟨o1, -⟩ := own_takeI h.o1 h0 hL
  obtain ⟨o2, -⟩ := own_takeI h.o2 h0 hF
  obtain ⟨e0, e1⟩ := two_cells (a := .slice A1 m c1) (b := .slice A2 m c2) h.f0 h.f1
  have n1 : (Value.slice A1 m c1).ownBlock ≠ some P := by have := h.n1; cases A1 <;> exact this
  have n2 : (Value.slice A2 m c2).ownBlock ≠ some P := by have := h.n2; cases A2 <;> exact this
  have n12 : ∀ q, (Value.slice A1 m c1).ownBlock = some q → (Value.slice A2 m c2).ownBlock ≠ some q := by have := h.n12; cases A1 <;> cases A2 <;> exact this
  have h1 := h.P0; have h2 := h.lt
  refine ⟨(h.rd.set _ (by dsimp only; omega) _).set _ (by dsimp only; omega) _, gr_set (gr_set h.gr _ (.inl (by dsimp only; omega)) _) _ (.inl (by dsimp only; omega)) _, h.lt, h.P0, by simpa using h.P1, by rw [hl1]; exact e0, by rw [hl2]; exact e1, fun i => by rw [← h.cf i]; simp, ?_, ?_, by rw [hl1]; exact n1, by rw [hl2]; exact n2, by rw [hl1, hl2]; exact n12⟩
  · rw [hl1]; exact own_set (own_set o1 n1 _) n1 _
  · rw [hl2]; exact own_set (own_set o2 n2 _) n2 _
/-- A drawn project beside the box of the result. -/
structure DQ (w w1 wr : World) (Z g P : Nat) (K : Int) (A1 : Option Addr) (c1 : Nat) (L : List Int) (A2 : Option Addr) (c2 : Nat) (F : List Int) : Prop where
  pr : PR w1 wr g P K A1 c1 L A2 c2 F
  be : Below w.heap.size w w1
  gw : w.heap.size ≤ g
  Zl : w.heap.size ≤ Z
  Zx : Z < w1.heap.size
  Zg : Z ≠ g
  z0 : wr.cell? ⟨Z, 0, none⟩ = some (.slice none 0 0)
  z1 : wr.cell? ⟨Z, 1, none⟩ = some (.slice none 0 0)
  zf : ∀ i, wr.frozen? ⟨Z, i, none⟩ = false
section
variable {w w1 wr w' : World} {Z g P : Nat} {K K' : Int} {A1 A2 : Option Addr} {c1 c2 : Nat} {L F : List Int}
theorem DQ.more (h : DQ w w1 wr Z g P K A1 c1 L A2 c2 F) (hK : K ≤ K') : DQ w w1 wr Z g P K' A1 c1 L A2 c2 F := { h with pr := h.pr.more hK }
theorem DQ.pick (h : DQ w w1 wr Z g P K A1 c1 L A2 c2 F) (hR : RdO w' g K') (hg : wr.grownBy w' (some g)) : DQ w w1 w' Z g P K' A1 c1 L A2 c2 F :=
  { h with
    pr := h.pr.pick hR hg
    z0 := far_cell hg h.z0 h.Zg
    z1 := far_cell hg h.z1 h.Zg
    zf := fun i => far_frozen hg (h.zf i) (Nat.lt_of_lt_of_le h.Zx h.pr.gr.size) h.Zg }
theorem DQ.below (h : DQ w w1 wr Z g P K A1 c1 L A2 c2 F) (hb : Below wr.heap.size wr w') : DQ w w1 w' Z g P K A1 c1 L A2 c2 F :=
  have hx := Nat.lt_of_lt_of_le h.Zx h.pr.gr.size
  { h with
    pr := h.pr.below hb
    z0 := ((bcell hb).1 _ _ hx).trans h.z0
    z1 := ((bcell hb).1 _ _ hx).trans h.z1
    zf := fun i => ((bcell hb).2 _ _ hx).trans (h.zf i) }
theorem DQ.cut {m : Nat} (h : DQ w w1 wr Z g P K A1 c1 L A2 c2 F) (h0 : 0 < m) (hL : m ≤ L.length) (hF : m ≤ F.length) :
    DQ w w1 ((wr.setCell ⟨P, 0, none⟩ (.slice A1 m c1)).setCell ⟨P, 1, none⟩ (.slice A2 m c2)) Z g P K A1 c1 (L.take m) A2 c2 (F.take m) := by
  have hP := h.pr.P0; have hZ := h.Zx
  refine { h with pr := h.pr.cut h0 hL hF, z0 := ?_, z1 := ?_, zf := fun i => by rw [← h.zf i]; simp }
  · rw [World.cell?_setCell_other _ _ _ _ (by simp <;> omega), World.cell?_setCell_other _ _ _ _ (by simp <;> omega)]; exact h.z0
  · rw [World.cell?_setCell_other _ _ _ _ (by simp <;> omega), World.cell?_setCell_other _ _ _ _ (by simp <;> omega)]; exact h.z1
/-- The result is stored. -/
theorem DQ.fin (h : DQ w w1 wr Z g P K A1 c1 L A2 c2 F) (u v : Value) :
    ((wr.setCell ⟨Z, 0, none⟩ u).setCell ⟨Z, 1, none⟩ v).cell? ⟨Z, 0, none⟩ = some u ∧ ((wr.setCell ⟨Z, 0, none⟩ u).setCell ⟨Z, 1, none⟩ v).cell? ⟨Z, 1, none⟩ = some v ∧
    OwnI w1.heap.size ((wr.setCell ⟨Z, 0, none⟩ u).setCell ⟨Z, 1, none⟩ v) (.slice A1 L.length c1) L ∧ OwnI w1.heap.size ((wr.setCell ⟨Z, 0, none⟩ u).setCell ⟨Z, 1, none⟩ v) (.slice A2 F.length c2) F ∧
    Below w.heap.size w ((wr.setCell ⟨Z, 0, none⟩ u).setCell ⟨Z, 1, none⟩ v) := by
  obtain ⟨e0, e1⟩ := two_cells (a := u) (b := v) h.z0 h.z1
  have hZ := h.Zx
  exact ⟨e0, e1, own_set_low (own_set_low h.pr.o1 (by dsimp only; omega) _) (by dsimp only; omega) _, own_set_low (own_set_low h.pr.o2 (by dsimp only; omega) _) (by dsimp only; omega) _,
    (((h.be.grown h.pr.gr h.be.size (fun q hq => by injection hq with hq; have := h.gw; omega)).setCell h.Zl _).setCell h.Zl _)⟩
theorem pick_dq (m : Int) (wr : World) (h : DQ w w1 wr Z g P K A1 c1 L A2 c2 F) (hK : 0 ≤ K ∧ K ≤ 1000000000) (hm : -1000000000 ≤ m ∧ m ≤ 1000000000) :
    Calls Try.prog 44 #[.pointer (some ⟨g, 0, none⟩), .int .i64 m] wr fun e w' =>
      ∃ v : Int, e = .returned (.int .i64 v) ∧ 0 ≤ v ∧ (1 ≤ m → v < m) ∧ DQ w w1 w' Z g P (K + 1) A1 c1 L A2 c2 F := by
  refine (pick_c g K m wr hK hm h.pr.rd).mono ?_
  rintro e w' ⟨v, rfl, h1, h2, h3, h4, h5, h6⟩
  exact ⟨v, rfl, h1, h2, h.pick h4 h5⟩
end

--BEGIN plan
set_option maxHeartbeats 2000000 in
set_option maxRecDepth 100000 in
theorem drawPlanOf_c (A0 : Option Addr) (n0 c0 : Nat) (zs : List Int) (w : World) (hn0 : n0 ≤ 1048576) (hc0 : n0 ≤ c0) (hA0 : n0 = 0 ∨ A0.isSome = true) (hb0 : BytesAt w w.heap.size A0 n0 zs) :
    Calls Try.prog 10 #[.slice A0 n0 c0] w fun e w' =>
      ∃ A1 c1 L A2 c2 F, e = .returned (.agg #[.slice A1 L.length c1, .slice A2 F.length c2]) ∧ L.length ≤ 7 ∧ F.length ≤ 7 ∧ (∃ b1, IntsR w' w'.heap.size b1 0 A1 L) ∧ (∃ b2, IntsR w' w'.heap.size b2 0 A2 F) ∧ Below w.heap.size w w' := by
  go_enter Try.func10, Try.ntmps10
  go_upto_region 3 with (first
    | (go_at_call 42; go_fit (open_c A0 n0 c0 zs _ hn0 hc0 hA0 (hb0.below (show Below w.heap.size w _ by go_grown) (by simp))); rintro e w1 ⟨rfl, hR1, hb1, hs1⟩; simp only [World.size_alloc] at hR1 hs1; have hW1 : Below w.heap.size w w1 := bthen (by go_grown) hb1; have s0 := ((bcell hb1).1 w.heap.size 0 (by simp)).trans (show _ = some (Value.slice none 0 0) by simp [go_sem]); have s1 := ((bcell hb1).1 w.heap.size 1 (by simp)).trans (show _ = some (Value.slice none 0 0) by simp [go_sem]); have sf := fun i => ((bcell hb1).2 w.heap.size i (by simp)).trans (show _ = false by simp [go_sem]))
    | (go_at_call 43; go_fit (project_c _ 0 9 _ (by omega) (by omega) hR1); rintro e w2 ⟨A1, c1, L, A2, c2, F, rfl, hL7, hF7, o1, o2, o12, hR2, G2⟩; have hQ : DQ w w1 (w2.alloc (.cells #[.slice A1 L.length c1, .slice A2 F.length c2] 25)) w.heap.size (w.heap.size + 1) w2.heap.size (0 + 100) A1 c1 L A2 c2 F := ⟨pr_new hR2 G2 (by omega) o1 o2 o12, hW1, by omega, Nat.le_refl _, by omega, by omega, ((bcell (show Below w2.heap.size w2 (w2.alloc (.cells #[.slice A1 L.length c1, .slice A2 F.length c2] 25)) by go_grown)).1 _ _ (Nat.lt_of_lt_of_le (by omega) G2.size)).trans (far_cell G2 s0 (by omega)), ((bcell (show Below w2.heap.size w2 (w2.alloc (.cells #[.slice A1 L.length c1, .slice A2 F.length c2] 25)) by go_grown)).1 _ _ (Nat.lt_of_lt_of_le (by omega) G2.size)).trans (far_cell G2 s1 (by omega)), fun i => ((bcell (show Below w2.heap.size w2 (w2.alloc (.cells #[.slice A1 L.length c1, .slice A2 F.length c2] 25)) by go_grown)).2 _ _ (Nat.lt_of_lt_of_le (by omega) G2.size)).trans (far_frozen G2 (sf i) (by omega) (by omega))⟩; clear hR1 hb1 s0 s1 sf hR2 G2 o1 o2 o12))
  clear hA0 hb0 hc0 hn0 hW1
  generalize w2.alloc (.cells #[.slice A1 L.length c1, .slice A2 F.length c2] 25) = wp at hQ ⊢
  generalize w2.heap.size = P at hQ ⊢
  have p0 := hQ.pr.f0
  have p1 := hQ.pr.f1
  have s0 := hQ.z0
  have s1 := hQ.z1
  have sf0 := hQ.zf 0
  have sf1 := hQ.zf 1
  by_cases hb1 : 4 < L.length
  · have hl1 : (4 : Int) < (L.length : Int) := by omega
    by_cases hb2 : 4 < F.length
    · have hc1 := (own_takeI hQ.pr.o1 (by omega : 0 < 4) (by omega)).2
      have hc2 := (own_takeI hQ.pr.o2 (by omega : 0 < 4) (by omega)).2
      have hl2 : (4 : Int) < (F.length : Int) := by omega
      have hk1 : (4 : Int) ≤ (c1 : Int) := by omega
      have hk2 : (4 : Int) ≤ (c2 : Int) := by omega
      go_upto_if 23 with (go_at_call 44; go_fit (pick_dq _ _ hQ (by omega) (by omega)); rintro e w3 ⟨v, rfl, a1, a2, hQ3⟩; have q0 := hQ3.pr.f0; have q1 := hQ3.pr.f1; have r0 := hQ3.z0; have r1 := hQ3.z1; have rf0 := hQ3.zf 0; have rf1 := hQ3.zf 1)
      clear hQ p0 p1 s0 s1 sf0 sf1
      by_cases hv : 0 < v
      · go_upto_region 4 with fail
        go_region
        go_wp2_with fail
        obtain ⟨r0, r1, o1, o2, hb⟩ := hQ3.fin (.slice A1 4 c1) (.slice A2 4 c2)
        have t1 := (own_takeI o1 (by omega : 0 < 4) (by omega)).1
        have t2 := (own_takeI o2 (by omega : 0 < 4) (by omega)).1
        have e1 : (L.take 4).length = 4 := by rw [List.length_take]; omega
        have e2 : (F.take 4).length = 4 := by rw [List.length_take]; omega
        obtain ⟨b1, i1⟩ := own_IntsR (xs := L.take 4) (by rw [e1]; exact t1)
        obtain ⟨b2, i2⟩ := own_IntsR (xs := F.take 4) (by rw [e2]; exact t2)
        refine bodyPost_ret (v := .agg #[.slice A1 4 c1, .slice A2 4 c2]) (by simp [results, Try.results10, go_sem, r0, r1]) rfl ?_
        exact ⟨A1, c1, L.take 4, A2, c2, F.take 4, by rw [e1, e2], by omega, by omega, ⟨b1, i1.below (by go_grown)⟩, ⟨b2, i2.below (by go_grown)⟩, bthen hb (by go_grown)⟩
      · go_wp2_with fail
        obtain ⟨r0, r1, o1, o2, hb⟩ := hQ3.fin (.slice A1 L.length c1) (.slice A2 F.length c2)
        obtain ⟨b1, i1⟩ := own_IntsR o1
        obtain ⟨b2, i2⟩ := own_IntsR o2
        refine bodyPost_ret (v := .agg #[.slice A1 L.length c1, .slice A2 F.length c2]) (by simp [results, Try.results10, go_sem, r0, r1]) rfl ?_
        exact ⟨A1, c1, L, A2, c2, F, rfl, hL7, hF7, ⟨b1, i1⟩, ⟨b2, i2⟩, hb⟩
    · have hl2 : ¬ (4 : Int) < (F.length : Int) := by omega
      go_wp2_with fail
      obtain ⟨r0, r1, o1, o2, hb⟩ := hQ.fin (.slice A1 L.length c1) (.slice A2 F.length c2)
      obtain ⟨b1, i1⟩ := own_IntsR o1
      obtain ⟨b2, i2⟩ := own_IntsR o2
      refine bodyPost_ret (v := .agg #[.slice A1 L.length c1, .slice A2 F.length c2]) (by simp [results, Try.results10, go_sem, r0, r1]) rfl ?_
      exact ⟨A1, c1, L, A2, c2, F, rfl, hL7, hF7, ⟨b1, i1⟩, ⟨b2, i2⟩, hb⟩
  · have hl1 : ¬ (4 : Int) < (L.length : Int) := by omega
    go_wp2_with fail
    obtain ⟨r0, r1, o1, o2, hb⟩ := hQ.fin (.slice A1 L.length c1) (.slice A2 F.length c2)
    obtain ⟨b1, i1⟩ := own_IntsR o1
    obtain ⟨b2, i2⟩ := own_IntsR o2
    refine bodyPost_ret (v := .agg #[.slice A1 L.length c1, .slice A2 F.length c2]) (by simp [results, Try.results10, go_sem, r0, r1]) rfl ?_
    exact ⟨A1, c1, L, A2, c2, F, rfl, hL7, hF7, ⟨b1, i1⟩, ⟨b2, i2⟩, hb⟩
--END plan

--BEGIN least
set_option maxHeartbeats 4000000 in
set_option maxRecDepth 100000 in
theorem drawLeast_c (A0 : Option Addr) (n0 c0 : Nat) (zs : List Int) (w : World) (hn0 : n0 ≤ 1048576) (hc0 : n0 ≤ c0) (hA0 : n0 = 0 ∨ A0.isSome = true) (hb0 : BytesAt w w.heap.size A0 n0 zs) :
    Calls Try.prog 27 #[.slice A0 n0 c0] w fun e w' =>
      ∃ A1 c1 L A2 c2 F h, e = .returned (.tuple #[.agg #[.slice A1 L.length c1, .slice A2 F.length c2], .int .i64 h]) ∧ L.length ≤ 7 ∧ F.length ≤ 7 ∧ (0 ≤ h ∧ h ≤ 10) ∧ (∃ b1, IntsR w' w'.heap.size b1 0 A1 L) ∧ (∃ b2, IntsR w' w'.heap.size b2 0 A2 F) ∧ Below w.heap.size w w' := by
  go_enter Try.func27, Try.ntmps27
  go_upto_region 3 with (first
    | (go_at_call 42; go_fit (open_c A0 n0 c0 zs _ hn0 hc0 hA0 (hb0.below (show Below w.heap.size w _ by go_grown) (by simp))); rintro e w1 ⟨rfl, hR1, hb1, hs1⟩; simp only [World.size_alloc] at hR1 hs1; have hW1 : Below w.heap.size w w1 := bthen (by go_grown) hb1; have s0 := ((bcell hb1).1 w.heap.size 0 (by simp)).trans (show _ = some (Value.slice none 0 0) by simp [go_sem]); have s1 := ((bcell hb1).1 w.heap.size 1 (by simp)).trans (show _ = some (Value.slice none 0 0) by simp [go_sem]); have sf := fun i => ((bcell hb1).2 w.heap.size i (by simp)).trans (show _ = false by simp [go_sem]))
    | (go_at_call 43; go_fit (project_c _ 0 12 _ (by omega) (by omega) hR1); rintro e w2 ⟨A1, c1, L, A2, c2, F, rfl, hL7, hF7, o1, o2, o12, hR2, G2⟩; have hQ : DQ w w1 (w2.alloc (.cells #[.slice A1 L.length c1, .slice A2 F.length c2] 25)) w.heap.size (w.heap.size + 1) w2.heap.size (0 + 100) A1 c1 L A2 c2 F := ⟨pr_new hR2 G2 (by omega) o1 o2 o12, hW1, by omega, Nat.le_refl _, by omega, by omega, ((bcell (show Below w2.heap.size w2 (w2.alloc (.cells #[.slice A1 L.length c1, .slice A2 F.length c2] 25)) by go_grown)).1 _ _ (Nat.lt_of_lt_of_le (by omega) G2.size)).trans (far_cell G2 s0 (by omega)), ((bcell (show Below w2.heap.size w2 (w2.alloc (.cells #[.slice A1 L.length c1, .slice A2 F.length c2] 25)) by go_grown)).1 _ _ (Nat.lt_of_lt_of_le (by omega) G2.size)).trans (far_cell G2 s1 (by omega)), fun i => ((bcell (show Below w2.heap.size w2 (w2.alloc (.cells #[.slice A1 L.length c1, .slice A2 F.length c2] 25)) by go_grown)).2 _ _ (Nat.lt_of_lt_of_le (by omega) G2.size)).trans (far_frozen G2 (sf i) (by omega) (by omega))⟩; clear hR1 hb1 s0 s1 sf hR2 G2 o1 o2 o12))
  clear hA0 hb0 hc0 hn0 hW1
  generalize w2.alloc (.cells #[.slice A1 L.length c1, .slice A2 F.length c2] 25) = wp at hQ ⊢
  generalize w2.heap.size = P at hQ ⊢
  have p0 := hQ.pr.f0
  have p1 := hQ.pr.f1
  go_cut [24] (fun s wx => ∃ b, s = .bool b ∧ (b = true → 4 < L.length ∧ 4 < F.length) ∧ DQ w w1 wx w.heap.size (w.heap.size + 1) P 101 A1 c1 L A2 c2 F)
  case first =>
    by_cases hb1 : 4 < L.length
    · have hl1 : (4 : Int) < (L.length : Int) := by omega
      by_cases hb2 : 4 < F.length
      · have hl2 : (4 : Int) < (F.length : Int) := by omega
        go_wp2_with (go_at_call 44; go_fit (pick_dq _ _ hQ (by omega) (by omega)); rintro e w3 ⟨v, rfl, a1, a2, hQ3⟩)
        go_meet
        case rel => exact ⟨_, rfl, fun _ => ⟨hb1, hb2⟩, hQ3⟩
      · have hl2 : ¬ (4 : Int) < (F.length : Int) := by omega
        go_wp2_with fail
        go_meet
        case rel => exact ⟨_, rfl, fun h => by simp at h, hQ.more (by omega)⟩
    · have hl1 : ¬ (4 : Int) < (L.length : Int) := by omega
      go_wp2_with fail
      go_meet
      case rel => exact ⟨_, rfl, fun h => by simp at h, hQ.more (by omega)⟩
  case rest =>
    clear hQ p0 p1
    obtain ⟨b, rfl, hbb, hQ⟩ := hcut
    have p0 := hQ.pr.f0
    have p1 := hQ.pr.f1
    have pf0 := hQ.pr.cf 0
    have pf1 := hQ.pr.cf 1
    go_upto_if 24 with fail
    go_cut [] (fun wx => ∃ L' F', L'.length ≤ 7 ∧ F'.length ≤ 7 ∧ DQ w w1 wx w.heap.size (w.heap.size + 1) P 101 A1 c1 L' A2 c2 F')
    case first =>
      cases b
      · go_wp2_with fail
        go_meet
        case rel => exact ⟨L, F, hL7, hF7, hQ⟩
      · obtain ⟨hb1, hb2⟩ := hbb rfl
        have hc1 := (own_takeI hQ.pr.o1 (by omega : 0 < 4) (by omega)).2
        have hc2 := (own_takeI hQ.pr.o2 (by omega : 0 < 4) (by omega)).2
        have hk1 : (4 : Int) ≤ (c1 : Int) := by omega
        have hk2 : (4 : Int) ≤ (c2 : Int) := by omega
        go_upto_region 4 with fail
        go_region
        go_wp2_with fail
        go_meet
        case rel => exact ⟨L.take 4, F.take 4, by rw [List.length_take]; omega, by rw [List.length_take]; omega, (hQ.cut (by omega : 0 < 4) (by omega) (by omega)).below (by go_grown)⟩
    case rest =>
      clear hQ p0 p1 pf0 pf1 hbb hL7 hF7
      obtain ⟨L', F', hL7, hF7, hQ⟩ := hcut
      clear L F
      have p0 := hQ.pr.f0
      have p1 := hQ.pr.f1
      go_upto_region 5 with fail
      refine wp_regionE (fun w' => w'.cell? ⟨P, 0, none⟩ = some (.slice A1 L'.length c1) ∧ w'.cell? ⟨P, 1, none⟩ = some (.slice A2 F'.length c2)) 10 (by kernel_rfl) ?_
      change wpE _ _ _ _ _ _ 11 #[false, false, false, false, false, false, false, false, false, false, false] _ _
      have hS0 : wc.drew.cell? ⟨P, 0, none⟩ = some (.slice A1 L'.length c1) ∧ wc.drew.cell? ⟨P, 1, none⟩ = some (.slice A2 F'.length c2) := ⟨p0, p1⟩
      have hQd := hQ.below (show Below wc.heap.size wc wc.drew by go_grown)
      refine wpE_take' (v := ?_) 0 [10] (of_decide_eq_true (by kernel_rfl)) (by kernel_rfl) (by kernel_rfl) (by kernel_rfl) (by kernel_rfl) (fun _ _ _ h => h) (by kernel_rfl) ?_ hS0 ?_
      rotate_left
      · intro w' hSw
        simp only [List.getElem_toArray, List.getElem_cons_succ, List.getElem_cons_zero]
        go_simp
        all_goals with_reducible rfl
      simp only [List.getElem_toArray, List.getElem_cons_succ, List.getElem_cons_zero, Act.put, List.setIfInBounds_toArray, List.set_cons_zero, List.set_cons_succ]
      refine wpE_take' (v := ?_) 1 [10] (of_decide_eq_true (by kernel_rfl)) (by kernel_rfl) (by kernel_rfl) (by kernel_rfl) (by kernel_rfl) (fun _ _ _ h => h) (by kernel_rfl) ?_ hS0 ?_
      rotate_left
      · intro w' hSw
        simp only [List.getElem_toArray, List.getElem_cons_succ, List.getElem_cons_zero]
        go_simp
        all_goals with_reducible rfl
      simp only [List.getElem_toArray, List.getElem_cons_succ, List.getElem_cons_zero, Act.put, List.setIfInBounds_toArray, List.set_cons_zero, List.set_cons_succ]
      refine wpE_take' (v := ?_) 4 [10] (of_decide_eq_true (by kernel_rfl)) (by kernel_rfl) (by kernel_rfl) (by kernel_rfl) (by kernel_rfl) (fun _ _ _ h => h) (by kernel_rfl) ?_ hS0 ?_
      rotate_left
      · intro w' hSw
        simp only [List.getElem_toArray, List.getElem_cons_succ, List.getElem_cons_zero]
        go_simp
        all_goals with_reducible rfl
      simp only [List.getElem_toArray, List.getElem_cons_succ, List.getElem_cons_zero, Act.put, List.setIfInBounds_toArray, List.set_cons_zero, List.set_cons_succ]
      refine wpE_step' 2 (of_decide_eq_true (by kernel_rfl)) (by kernel_rfl) (by kernel_rfl) (fun K hK => ?_)
      simp only [List.getElem_toArray, List.getElem_cons_succ, List.getElem_cons_zero]
      go_simp
      go_at_call 44
      refine (pick_dq 3 _ hQd (by omega) (by omega)).mono ?_
      rintro e w5 ⟨v1, rfl, a1, a2, hQ5⟩
      replace a2 := a2 (by omega)
      refine hK.out _ _ (.inr ⟨hQ5.pr.f0, hQ5.pr.f1⟩) ?_
      clear hK K
      simp only [Act.put, List.setIfInBounds_toArray, List.set_cons_zero, List.set_cons_succ]
      clear hS0
      have aa1 := a1
      have aa2 := a2
      clear a1 a2
      have hS0 : w5.cell? ⟨P, 0, none⟩ = some (.slice A1 L'.length c1) ∧ w5.cell? ⟨P, 1, none⟩ = some (.slice A2 F'.length c2) := ⟨hQ5.pr.f0, hQ5.pr.f1⟩
      have hw1 : IntKind.i64.wrap (1 + v1) = 1 + v1 := IntWalk.i64_in _ (by omega)
      refine wpE_take' (v := ?_) 3 [10] (of_decide_eq_true (by kernel_rfl)) (by kernel_rfl) (by kernel_rfl) (by kernel_rfl) (by kernel_rfl) (fun _ _ _ h => h) (by kernel_rfl) ?_ hS0 ?_
      rotate_left
      · intro w' hSw
        simp only [List.getElem_toArray, List.getElem_cons_succ, List.getElem_cons_zero]
        go_simp
        all_goals with_reducible rfl
      simp only [List.getElem_toArray, List.getElem_cons_succ, List.getElem_cons_zero, Act.put, List.setIfInBounds_toArray, List.set_cons_zero, List.set_cons_succ]
      refine wpE_step' 5 (of_decide_eq_true (by kernel_rfl)) (by kernel_rfl) (by kernel_rfl) (fun K hK => ?_)
      simp only [List.getElem_toArray, List.getElem_cons_succ, List.getElem_cons_zero]
      go_simp
      go_at_call 44
      refine (pick_dq 40 _ hQ5 (by omega) (by omega)).mono ?_
      rintro e w6 ⟨v2, rfl, a1, a2, hQ6⟩
      replace a2 := a2 (by omega)
      refine hK.out _ _ (.inr ⟨hQ6.pr.f0, hQ6.pr.f1⟩) ?_
      clear hK K
      simp only [Act.put, List.setIfInBounds_toArray, List.set_cons_zero, List.set_cons_succ]
      clear hS0
      have hS0 : w6.cell? ⟨P, 0, none⟩ = some (.slice A1 L'.length c1) ∧ w6.cell? ⟨P, 1, none⟩ = some (.slice A2 F'.length c2) := ⟨hQ6.pr.f0, hQ6.pr.f1⟩
      have hq : 0 ≤ v2.tdiv 39 ∧ v2.tdiv 39 ≤ 1 := by rw [Int.tdiv_eq_ediv_of_nonneg (by omega)]; omega
      obtain ⟨v3, hv3⟩ : ∃ v3, v2.tdiv 39 = v3 := ⟨_, rfl⟩
      rw [hv3] at hq
      have hw2 : IntKind.i64.wrap v3 = v3 := IntWalk.i64_in _ (by omega)
      have hw3 : IntKind.i64.wrap (v3 * 3) = v3 * 3 := IntWalk.i64_in _ (by omega)
      have hw4 : IntKind.i64.wrap (1 + v1 + v3 * 3) = 1 + v1 + v3 * 3 := IntWalk.i64_in _ (by omega)
      refine wpE_take' (v := ?_) 6 [10] (of_decide_eq_true (by kernel_rfl)) (by kernel_rfl) (by kernel_rfl) (by kernel_rfl) (by kernel_rfl) (fun _ _ _ h => h) (by kernel_rfl) ?_ hS0 ?_
      rotate_left
      · intro w' hSw
        simp only [List.getElem_toArray, List.getElem_cons_succ, List.getElem_cons_zero]
        go_simp
        all_goals with_reducible rfl
      simp only [List.getElem_toArray, List.getElem_cons_succ, List.getElem_cons_zero, Act.put, List.setIfInBounds_toArray, List.set_cons_zero, List.set_cons_succ]
      refine wpE_take' (v := ?_) 7 [10] (of_decide_eq_true (by kernel_rfl)) (by kernel_rfl) (by kernel_rfl) (by kernel_rfl) (by kernel_rfl) (fun _ _ _ h => h) (by kernel_rfl) ?_ hS0 ?_
      rotate_left
      · intro w' hSw
        simp only [List.getElem_toArray, List.getElem_cons_succ, List.getElem_cons_zero]
        go_simp
        all_goals with_reducible rfl
      simp only [List.getElem_toArray, List.getElem_cons_succ, List.getElem_cons_zero, Act.put, List.setIfInBounds_toArray, List.set_cons_zero, List.set_cons_succ]
      refine wpE_take' (v := ?_) 8 [10] (of_decide_eq_true (by kernel_rfl)) (by kernel_rfl) (by kernel_rfl) (by kernel_rfl) (by kernel_rfl) (fun _ _ _ h => h) (by kernel_rfl) ?_ hS0 ?_
      rotate_left
      · intro w' hSw
        simp only [List.getElem_toArray, List.getElem_cons_succ, List.getElem_cons_zero]
        go_simp
        all_goals with_reducible rfl
      simp only [List.getElem_toArray, List.getElem_cons_succ, List.getElem_cons_zero, Act.put, List.setIfInBounds_toArray, List.set_cons_zero, List.set_cons_succ]
      obtain ⟨r0, r1, o1, o2, hb⟩ := hQ6.fin (.slice A1 L'.length c1) (.slice A2 F'.length c2)
      have z0 := hQ6.z0
      have z1 := hQ6.z1
      have zf0 := hQ6.zf 0
      have zf1 := hQ6.zf 1
      have hZP := Nat.lt_of_lt_of_le hQ6.Zx hQ6.pr.P0
      clear hS0
      refine wpE_step' 9 (of_decide_eq_true (by kernel_rfl)) (by kernel_rfl) (by kernel_rfl) (fun K hK => ?_)
      simp only [List.getElem_toArray, List.getElem_cons_succ, List.getElem_cons_zero]
      go_simp
      refine hK.out _ _ (.inr ⟨by rw [World.cell?_setCell_other _ _ _ _ (by simp), World.cell?_setCell_other _ _ _ _ (by simp)]; exact hQ6.pr.f0, by rw [World.cell?_setCell_other _ _ _ _ (by simp), World.cell?_setCell_other _ _ _ _ (by simp)]; exact hQ6.pr.f1⟩) ?_
      clear hK K
      simp only [Act.put, List.setIfInBounds_toArray, List.set_cons_zero, List.set_cons_succ]
      clear z0 z1 zf0 zf1
      refine wpE_step' 10 (of_decide_eq_true (by kernel_rfl)) (by kernel_rfl) (by kernel_rfl) (fun K hK => ?_)
      simp only [List.getElem_toArray, List.getElem_cons_succ, List.getElem_cons_zero]
      go_simp
      refine hK.out _ _ (.inl rfl) ?_
      clear hK K
      simp only [Act.put, List.setIfInBounds_toArray, List.set_cons_zero, List.set_cons_succ]
      refine wpE_done (by kernel_rfl) ?_ _
      go_wp2_with fail
      obtain ⟨b1, i1⟩ := own_IntsR o1
      obtain ⟨b2, i2⟩ := own_IntsR o2
      refine bodyPost_ret (v := .tuple #[.agg #[.slice A1 L'.length c1, .slice A2 F'.length c2], .int .i64 (1 + v1 + v3 * 3)]) (by simp [results, Try.results27, go_sem, r0, r1]) rfl ?_
      exact ⟨A1, c1, L', A2, c2, F', _, rfl, hL7, hF7, by omega, ⟨b1, i1⟩, ⟨b2, i2⟩, hb⟩
--END least

--BEGIN by
set_option maxHeartbeats 4000000 in
set_option maxRecDepth 100000 in
theorem drawBy_c (A0 : Option Addr) (n0 c0 : Nat) (zs : List Int) (w : World) (hn0 : n0 ≤ 1048576) (hc0 : n0 ≤ c0) (hA0 : n0 = 0 ∨ A0.isSome = true) (hb0 : BytesAt w w.heap.size A0 n0 zs) :
    Calls Try.prog 28 #[.slice A0 n0 c0] w fun e w' =>
      ∃ A1 c1 L A2 c2 F h A3 c3 xs, e = .returned (.tuple #[.agg #[.slice A1 L.length c1, .slice A2 F.length c2], .int .i64 h, .slice A3 xs.length c3]) ∧ L.length ≤ 7 ∧ F.length ≤ 7 ∧ (0 ≤ h ∧ h ≤ 10) ∧ xs.length ≤ 10 ∧ xs.length ≤ c3 ∧ OwnI w.heap.size w' (.slice A1 L.length c1) L ∧ OwnI w.heap.size w' (.slice A2 F.length c2) F ∧ OwnI w.heap.size w' (.slice A3 xs.length c3) xs ∧ Below w.heap.size w w' := by
  go_enter Try.func28, Try.ntmps28
  go_upto_region 3 with (first
    | (go_at_call 42; go_fit (open_c A0 n0 c0 zs _ hn0 hc0 hA0 (hb0.below (show Below w.heap.size w _ by go_grown) (by simp))); rintro e w1 ⟨rfl, hR1, hb1, hs1⟩; simp only [World.size_alloc] at hR1 hs1; have hW1 : Below w.heap.size w w1 := bthen (by go_grown) hb1; have s0 := ((bcell hb1).1 w.heap.size 0 (by simp)).trans (show _ = some (Value.slice none 0 0) by simp [go_sem]); have s1 := ((bcell hb1).1 w.heap.size 1 (by simp)).trans (show _ = some (Value.slice none 0 0) by simp [go_sem]); have sf := fun i => ((bcell hb1).2 w.heap.size i (by simp)).trans (show _ = false by simp [go_sem]))
    | (go_at_call 43; go_fit (project_c _ 0 12 _ (by omega) (by omega) hR1); rintro e w2 ⟨A1, c1, L, A2, c2, F, rfl, hL7, hF7, o1, o2, o12, hR2, G2⟩; have hQ : DQ w w1 (w2.alloc (.cells #[.slice A1 L.length c1, .slice A2 F.length c2] 25)) w.heap.size (w.heap.size + 1) w2.heap.size (0 + 100) A1 c1 L A2 c2 F := ⟨pr_new hR2 G2 (by omega) o1 o2 o12, hW1, by omega, Nat.le_refl _, by omega, by omega, ((bcell (show Below w2.heap.size w2 (w2.alloc (.cells #[.slice A1 L.length c1, .slice A2 F.length c2] 25)) by go_grown)).1 _ _ (Nat.lt_of_lt_of_le (by omega) G2.size)).trans (far_cell G2 s0 (by omega)), ((bcell (show Below w2.heap.size w2 (w2.alloc (.cells #[.slice A1 L.length c1, .slice A2 F.length c2] 25)) by go_grown)).1 _ _ (Nat.lt_of_lt_of_le (by omega) G2.size)).trans (far_cell G2 s1 (by omega)), fun i => ((bcell (show Below w2.heap.size w2 (w2.alloc (.cells #[.slice A1 L.length c1, .slice A2 F.length c2] 25)) by go_grown)).2 _ _ (Nat.lt_of_lt_of_le (by omega) G2.size)).trans (far_frozen G2 (sf i) (by omega) (by omega))⟩; clear hR1 hb1 s0 s1 sf hR2 G2 o1 o2 o12))
  clear hA0 hb0 hc0 hn0 hW1
  generalize w2.alloc (.cells #[.slice A1 L.length c1, .slice A2 F.length c2] 25) = wp at hQ ⊢
  generalize w2.heap.size = P at hQ ⊢
  have p0 := hQ.pr.f0
  have p1 := hQ.pr.f1
  refine wp_regionE (fun w' => w'.cell? ⟨P, 0, none⟩ = some (.slice A1 L.length c1) ∧ w'.cell? ⟨P, 1, none⟩ = some (.slice A2 F.length c2)) 21 (by kernel_rfl) ?_
  change wpE _ _ _ _ _ _ 22 #[false, false, false, false, false, false, false, false, false, false, false, false, false, false, false, false, false, false, false, false, false, false] _ _
  have hS0 : wp.drew.cell? ⟨P, 0, none⟩ = some (.slice A1 L.length c1) ∧ wp.drew.cell? ⟨P, 1, none⟩ = some (.slice A2 F.length c2) := ⟨p0, p1⟩
  have hQd := hQ.below (show Below wp.heap.size wp wp.drew by go_grown)
  have hl7 : ¬ (7 : Int) < (L.length : Int) := by omega
  refine wpE_take' (v := ?_) 0 [21] (of_decide_eq_true (by kernel_rfl)) (by kernel_rfl) (by kernel_rfl) (by kernel_rfl) (by kernel_rfl) (fun _ _ _ h => h) (by kernel_rfl) ?_ hS0 ?_
  rotate_left
  · intro w' hSw
    simp only [List.getElem_toArray, List.getElem_cons_succ, List.getElem_cons_zero]
    go_simp
    all_goals with_reducible rfl
  simp only [List.getElem_toArray, List.getElem_cons_succ, List.getElem_cons_zero, Act.put, List.setIfInBounds_toArray, List.set_cons_zero, List.set_cons_succ]
  refine wpE_take' (v := ?_) 1 [21] (of_decide_eq_true (by kernel_rfl)) (by kernel_rfl) (by kernel_rfl) (by kernel_rfl) (by kernel_rfl) (fun _ _ _ h => h) (by kernel_rfl) ?_ hS0 ?_
  rotate_left
  · intro w' hSw
    simp only [List.getElem_toArray, List.getElem_cons_succ, List.getElem_cons_zero]
    go_simp
    all_goals with_reducible rfl
  simp only [List.getElem_toArray, List.getElem_cons_succ, List.getElem_cons_zero, Act.put, List.setIfInBounds_toArray, List.set_cons_zero, List.set_cons_succ]
  refine wpE_take' (v := ?_) 4 [21] (of_decide_eq_true (by kernel_rfl)) (by kernel_rfl) (by kernel_rfl) (by kernel_rfl) (by kernel_rfl) (fun _ _ _ h => h) (by kernel_rfl) ?_ hS0 ?_
  rotate_left
  · intro w' hSw
    simp only [List.getElem_toArray, List.getElem_cons_succ, List.getElem_cons_zero]
    go_simp
    all_goals with_reducible rfl
  simp only [List.getElem_toArray, List.getElem_cons_succ, List.getElem_cons_zero, Act.put, List.setIfInBounds_toArray, List.set_cons_zero, List.set_cons_succ]
  refine wpE_take' (v := ?_) 9 [21] (of_decide_eq_true (by kernel_rfl)) (by kernel_rfl) (by kernel_rfl) (by kernel_rfl) (by kernel_rfl) (fun _ _ _ h => h) (by kernel_rfl) ?_ hS0 ?_
  rotate_left
  · intro w' hSw
    simp only [List.getElem_toArray, List.getElem_cons_succ, List.getElem_cons_zero]
    go_simp
    all_goals with_reducible rfl
  simp only [List.getElem_toArray, List.getElem_cons_succ, List.getElem_cons_zero, Act.put, List.setIfInBounds_toArray, List.set_cons_zero, List.set_cons_succ]
  refine wpE_take' (v := ?_) 10 [21] (of_decide_eq_true (by kernel_rfl)) (by kernel_rfl) (by kernel_rfl) (by kernel_rfl) (by kernel_rfl) (fun _ _ _ h => h) (by kernel_rfl) ?_ hS0 ?_
  rotate_left
  · intro w' hSw
    simp only [List.getElem_toArray, List.getElem_cons_succ, List.getElem_cons_zero]
    go_simp
    all_goals with_reducible rfl
  simp only [List.getElem_toArray, List.getElem_cons_succ, List.getElem_cons_zero, Act.put, List.setIfInBounds_toArray, List.set_cons_zero, List.set_cons_succ]
  refine wpE_take' (v := ?_) 11 [21] (of_decide_eq_true (by kernel_rfl)) (by kernel_rfl) (by kernel_rfl) (by kernel_rfl) (by kernel_rfl) (fun _ _ _ h => h) (by kernel_rfl) ?_ hS0 ?_
  rotate_left
  · intro w' hSw
    simp only [List.getElem_toArray, List.getElem_cons_succ, List.getElem_cons_zero]
    go_simp
    all_goals with_reducible rfl
  simp only [List.getElem_toArray, List.getElem_cons_succ, List.getElem_cons_zero, Act.put, List.setIfInBounds_toArray, List.set_cons_zero, List.set_cons_succ]
  refine wpE_take' (v := ?_) 12 [21] (of_decide_eq_true (by kernel_rfl)) (by kernel_rfl) (by kernel_rfl) (by kernel_rfl) (by kernel_rfl) (fun _ _ _ h => h) (by kernel_rfl) ?_ hS0 ?_
  rotate_left
  · intro w' hSw
    simp only [List.getElem_toArray, List.getElem_cons_succ, List.getElem_cons_zero]
    go_simp
    all_goals with_reducible rfl
  simp only [List.getElem_toArray, List.getElem_cons_succ, List.getElem_cons_zero, Act.put, List.setIfInBounds_toArray, List.set_cons_zero, List.set_cons_succ]
  refine wpE_take' (v := ?_) 13 [21] (of_decide_eq_true (by kernel_rfl)) (by kernel_rfl) (by kernel_rfl) (by kernel_rfl) (by kernel_rfl) (fun _ _ _ h => h) (by kernel_rfl) ?_ hS0 ?_
  rotate_left
  · intro w' hSw
    simp only [List.getElem_toArray, List.getElem_cons_succ, List.getElem_cons_zero]
    go_simp
    all_goals with_reducible rfl
  simp only [List.getElem_toArray, List.getElem_cons_succ, List.getElem_cons_zero, Act.put, List.setIfInBounds_toArray, List.set_cons_zero, List.set_cons_succ]
  refine wpE_take' (v := ?_) 14 [21] (of_decide_eq_true (by kernel_rfl)) (by kernel_rfl) (by kernel_rfl) (by kernel_rfl) (by kernel_rfl) (fun _ _ _ h => h) (by kernel_rfl) ?_ hS0 ?_
  rotate_left
  · intro w' hSw
    simp only [List.getElem_toArray, List.getElem_cons_succ, List.getElem_cons_zero]
    go_simp
    all_goals with_reducible rfl
  simp only [List.getElem_toArray, List.getElem_cons_succ, List.getElem_cons_zero, Act.put, List.setIfInBounds_toArray, List.set_cons_zero, List.set_cons_succ]
  refine wpE_step' 2 (of_decide_eq_true (by kernel_rfl)) (by kernel_rfl) (by kernel_rfl) (fun K hK => ?_)
  simp only [List.getElem_toArray, List.getElem_cons_succ, List.getElem_cons_zero]
  go_simp
  go_at_call 44
  refine (pick_dq 3 _ hQd (by omega) (by omega)).mono ?_
  rintro e w5 ⟨v1, rfl, a1, a2, hQ5⟩
  replace a2 := a2 (by omega)
  refine hK.out _ _ (.inr ⟨hQ5.pr.f0, hQ5.pr.f1⟩) ?_
  clear hK K
  simp only [Act.put, List.setIfInBounds_toArray, List.set_cons_zero, List.set_cons_succ]
  clear hS0
  have aa1 := a1
  have aa2 := a2
  clear a1 a2
  have hS0 : w5.cell? ⟨P, 0, none⟩ = some (.slice A1 L.length c1) ∧ w5.cell? ⟨P, 1, none⟩ = some (.slice A2 F.length c2) := ⟨hQ5.pr.f0, hQ5.pr.f1⟩
  have hw1 : IntKind.i64.wrap (1 + v1) = 1 + v1 := IntWalk.i64_in _ (by omega)
  refine wpE_take' (v := ?_) 3 [21] (of_decide_eq_true (by kernel_rfl)) (by kernel_rfl) (by kernel_rfl) (by kernel_rfl) (by kernel_rfl) (fun _ _ _ h => h) (by kernel_rfl) ?_ hS0 ?_
  rotate_left
  · intro w' hSw
    simp only [List.getElem_toArray, List.getElem_cons_succ, List.getElem_cons_zero]
    go_simp
    all_goals with_reducible rfl
  simp only [List.getElem_toArray, List.getElem_cons_succ, List.getElem_cons_zero, Act.put, List.setIfInBounds_toArray, List.set_cons_zero, List.set_cons_succ]
  refine wpE_step' 5 (of_decide_eq_true (by kernel_rfl)) (by kernel_rfl) (by kernel_rfl) (fun K hK => ?_)
  simp only [List.getElem_toArray, List.getElem_cons_succ, List.getElem_cons_zero]
  go_simp
  go_at_call 44
  refine (pick_dq 40 _ hQ5 (by omega) (by omega)).mono ?_
  rintro e w6 ⟨v2, rfl, a1, a2, hQ6⟩
  replace a2 := a2 (by omega)
  refine hK.out _ _ (.inr ⟨hQ6.pr.f0, hQ6.pr.f1⟩) ?_
  clear hK K
  simp only [Act.put, List.setIfInBounds_toArray, List.set_cons_zero, List.set_cons_succ]
  clear hS0
  have hS0 : w6.cell? ⟨P, 0, none⟩ = some (.slice A1 L.length c1) ∧ w6.cell? ⟨P, 1, none⟩ = some (.slice A2 F.length c2) := ⟨hQ6.pr.f0, hQ6.pr.f1⟩
  have hq : 0 ≤ v2.tdiv 39 ∧ v2.tdiv 39 ≤ 1 := by rw [Int.tdiv_eq_ediv_of_nonneg (by omega)]; omega
  obtain ⟨v3, hv3⟩ : ∃ v3, v2.tdiv 39 = v3 := ⟨_, rfl⟩
  rw [hv3] at hq
  have hw2 : IntKind.i64.wrap v3 = v3 := IntWalk.i64_in _ (by omega)
  have hw3 : IntKind.i64.wrap (v3 * 3) = v3 * 3 := IntWalk.i64_in _ (by omega)
  have hw4 : IntKind.i64.wrap (1 + v1 + v3 * 3) = 1 + v1 + v3 * 3 := IntWalk.i64_in _ (by omega)
  refine wpE_take' (v := ?_) 6 [21] (of_decide_eq_true (by kernel_rfl)) (by kernel_rfl) (by kernel_rfl) (by kernel_rfl) (by kernel_rfl) (fun _ _ _ h => h) (by kernel_rfl) ?_ hS0 ?_
  rotate_left
  · intro w' hSw
    simp only [List.getElem_toArray, List.getElem_cons_succ, List.getElem_cons_zero]
    go_simp
    all_goals with_reducible rfl
  simp only [List.getElem_toArray, List.getElem_cons_succ, List.getElem_cons_zero, Act.put, List.setIfInBounds_toArray, List.set_cons_zero, List.set_cons_succ]
  refine wpE_take' (v := ?_) 7 [21] (of_decide_eq_true (by kernel_rfl)) (by kernel_rfl) (by kernel_rfl) (by kernel_rfl) (by kernel_rfl) (fun _ _ _ h => h) (by kernel_rfl) ?_ hS0 ?_
  rotate_left
  · intro w' hSw
    simp only [List.getElem_toArray, List.getElem_cons_succ, List.getElem_cons_zero]
    go_simp
    all_goals with_reducible rfl
  simp only [List.getElem_toArray, List.getElem_cons_succ, List.getElem_cons_zero, Act.put, List.setIfInBounds_toArray, List.set_cons_zero, List.set_cons_succ]
  refine wpE_take' (v := ?_) 8 [21] (of_decide_eq_true (by kernel_rfl)) (by kernel_rfl) (by kernel_rfl) (by kernel_rfl) (by kernel_rfl) (fun _ _ _ h => h) (by kernel_rfl) ?_ hS0 ?_
  rotate_left
  · intro w' hSw
    simp only [List.getElem_toArray, List.getElem_cons_succ, List.getElem_cons_zero]
    go_simp
    all_goals with_reducible rfl
  simp only [List.getElem_toArray, List.getElem_cons_succ, List.getElem_cons_zero, Act.put, List.setIfInBounds_toArray, List.set_cons_zero, List.set_cons_succ]
  have hh2 : 0 ≤ 1 + v1 + v3 * 3 ∧ 1 + v1 + v3 * 3 ≤ 10 := by omega
  clear hw2 hw3 hw4 hv3 hq hw1 aa1 aa2 a1 a2
  refine wpE_step' 15 (of_decide_eq_true (by kernel_rfl)) (by kernel_rfl) (by kernel_rfl) (fun K hK => ?_)
  simp only [List.getElem_toArray, List.getElem_cons_succ, List.getElem_cons_zero]
  go_simp
  go_at_call 44
  refine (pick_dq 30 _ hQ6 (by omega) (by omega)).mono ?_
  rintro e w7 ⟨v4, rfl, a1, a2, hQ7⟩
  replace a2 := a2 (by omega)
  refine hK.out _ _ (.inr ⟨hQ7.pr.f0, hQ7.pr.f1⟩) ?_
  clear hK K
  simp only [Act.put, List.setIfInBounds_toArray, List.set_cons_zero, List.set_cons_succ]
  clear hS0
  have hS0 : w7.cell? ⟨P, 0, none⟩ = some (.slice A1 L.length c1) ∧ w7.cell? ⟨P, 1, none⟩ = some (.slice A2 F.length c2) := ⟨hQ7.pr.f0, hQ7.pr.f1⟩
  have hq : 0 ≤ v4.tdiv 29 ∧ v4.tdiv 29 ≤ 1 := by rw [Int.tdiv_eq_ediv_of_nonneg (by omega)]; omega
  obtain ⟨v5, hv5⟩ : ∃ v5, v4.tdiv 29 = v5 := ⟨_, rfl⟩
  rw [hv5] at hq
  have hw2 : IntKind.i64.wrap v5 = v5 := IntWalk.i64_in _ (by omega)
  obtain ⟨m, hm2, hw3⟩ : ∃ m : Nat, m ≤ 10 ∧ IntKind.i64.wrap ((L.length : Int) + v5) = (m : Int) := ⟨((L.length : Int) + v5).toNat, by omega, by rw [IntWalk.i64_in _ (by omega)]; omega⟩
  refine wpE_take' (v := ?_) 16 [21] (of_decide_eq_true (by kernel_rfl)) (by kernel_rfl) (by kernel_rfl) (by kernel_rfl) (by kernel_rfl) (fun _ _ _ h => h) (by kernel_rfl) ?_ hS0 ?_
  rotate_left
  · intro w' hSw
    simp only [List.getElem_toArray, List.getElem_cons_succ, List.getElem_cons_zero]
    go_simp
    all_goals with_reducible rfl
  simp only [List.getElem_toArray, List.getElem_cons_succ, List.getElem_cons_zero, Act.put, List.setIfInBounds_toArray, List.set_cons_zero, List.set_cons_succ]
  refine wpE_take' (v := ?_) 17 [21] (of_decide_eq_true (by kernel_rfl)) (by kernel_rfl) (by kernel_rfl) (by kernel_rfl) (by kernel_rfl) (fun _ _ _ h => h) (by kernel_rfl) ?_ hS0 ?_
  rotate_left
  · intro w' hSw
    simp only [List.getElem_toArray, List.getElem_cons_succ, List.getElem_cons_zero]
    go_simp
    all_goals with_reducible rfl
  simp only [List.getElem_toArray, List.getElem_cons_succ, List.getElem_cons_zero, Act.put, List.setIfInBounds_toArray, List.set_cons_zero, List.set_cons_succ]
  clear hw2 hw3 hv5 hq a1 a2
  clear hS0
  refine wpE_step' 18 (of_decide_eq_true (by kernel_rfl)) (by kernel_rfl) (by kernel_rfl) (fun K hK => ?_)
  simp only [List.getElem_toArray, List.getElem_cons_succ, List.getElem_cons_zero]
  go_simp
  go_at_call 64
  have hgs7 := hQ7.pr.gr.size
  refine (shuffle_c _ m _ _ (by omega) (by omega) hQ7.pr.rd).mono ?_
  rintro e w8 ⟨A3, c3, xs, rfl, hxl, hxc, o3, hR8, G8⟩
  have hQ8 := hQ7.pick hR8 G8
  refine hK.out _ _ (.inr ⟨hQ8.pr.f0, hQ8.pr.f1⟩) ?_
  clear hK K
  simp only [Act.put, List.setIfInBounds_toArray, List.set_cons_zero, List.set_cons_succ]
  obtain ⟨r0, r1, o1, o2, hb⟩ := hQ8.fin (.slice A1 L.length c1) (.slice A2 F.length c2)
  have z0 := hQ8.z0
  have z1 := hQ8.z1
  have zf0 := hQ8.zf 0
  have zf1 := hQ8.zf 1
  have hZx := hQ8.Zx
  have hZP := Nat.lt_of_lt_of_le hQ8.Zx hQ8.pr.P0
  have o3' := own_set_low (p := ⟨w.heap.size, 1, none⟩) (own_set_low (p := ⟨w.heap.size, 0, none⟩) o3 (by dsimp only; omega) (.slice A1 L.length c1)) (by dsimp only; omega) (.slice A2 F.length c2)
  have hS0 : ((w8.setCell ⟨w.heap.size, 0, none⟩ (.slice A1 L.length c1)).setCell ⟨w.heap.size, 1, none⟩ (.slice A2 F.length c2)).cell? ⟨P, 0, none⟩ = some (.slice A1 L.length c1) ∧ ((w8.setCell ⟨w.heap.size, 0, none⟩ (.slice A1 L.length c1)).setCell ⟨w.heap.size, 1, none⟩ (.slice A2 F.length c2)).cell? ⟨P, 1, none⟩ = some (.slice A2 F.length c2) := ⟨by rw [World.cell?_setCell_other _ _ _ _ (by simp <;> omega), World.cell?_setCell_other _ _ _ _ (by simp <;> omega)]; exact hQ8.pr.f0, by rw [World.cell?_setCell_other _ _ _ _ (by simp <;> omega), World.cell?_setCell_other _ _ _ _ (by simp <;> omega)]; exact hQ8.pr.f1⟩
  refine wpE_step' 19 (of_decide_eq_true (by kernel_rfl)) (by kernel_rfl) (by kernel_rfl) (fun K hK => ?_)
  simp only [List.getElem_toArray, List.getElem_cons_succ, List.getElem_cons_zero]
  go_simp
  refine hK.out _ _ (.inr hS0) ?_
  clear hK K
  simp only [Act.put, List.setIfInBounds_toArray, List.set_cons_zero, List.set_cons_succ]
  clear z0 z1 zf0 zf1
  refine wpE_take' (v := ?_) 20 [21] (of_decide_eq_true (by kernel_rfl)) (by kernel_rfl) (by kernel_rfl) (by kernel_rfl) (by kernel_rfl) (fun _ _ _ h => h) (by kernel_rfl) ?_ hS0 ?_
  rotate_left
  · intro w' hSw
    simp only [List.getElem_toArray, List.getElem_cons_succ, List.getElem_cons_zero]
    go_simp
    all_goals with_reducible rfl
  simp only [List.getElem_toArray, List.getElem_cons_succ, List.getElem_cons_zero, Act.put, List.setIfInBounds_toArray, List.set_cons_zero, List.set_cons_succ]
  refine wpE_step' 21 (of_decide_eq_true (by kernel_rfl)) (by kernel_rfl) (by kernel_rfl) (fun K hK => ?_)
  simp only [List.getElem_toArray, List.getElem_cons_succ, List.getElem_cons_zero]
  go_simp
  refine hK.out _ _ (.inl rfl) ?_
  clear hK K
  simp only [Act.put, List.setIfInBounds_toArray, List.set_cons_zero, List.set_cons_succ]
  refine wpE_done (by kernel_rfl) ?_ _
  go_wp2_with fail
  have hbs := hQ.be.size
  refine bodyPost_ret (v := .tuple #[.agg #[.slice A1 L.length c1, .slice A2 F.length c2], .int .i64 (1 + v1 + v3 * 3), .slice A3 xs.length c3]) (by simp [results, Try.results28, go_sem, r0, r1, hxl]) rfl ?_
  exact ⟨A1, c1, L, A2, c2, F, _, A3, c3, xs, rfl, hL7, hF7, by omega, by omega, by omega, own_less o1 hbs, own_less o2 hbs, own_less o3' (by omega), hb⟩
--END by

--BEGIN greedy
theorem drawGreedy_c (A0 : Option Addr) (n0 c0 : Nat) (zs : List Int) (w : World) (hn0 : n0 ≤ 1048576) (hc0 : n0 ≤ c0) (hA0 : n0 = 0 ∨ A0.isSome = true) (hb0 : BytesAt w w.heap.size A0 n0 zs) :
    Calls Try.prog 36 #[.slice A0 n0 c0] w fun e w' =>
      ∃ A1 c1 L A2 c2 F h A3 c3 xs, e = .returned (.tuple #[.agg #[.slice A1 L.length c1, .slice A2 F.length c2], .int .i64 h, .slice A3 xs.length c3]) ∧ L.length ≤ 7 ∧ F.length ≤ 7 ∧ (0 ≤ h ∧ h ≤ 10) ∧ xs.length ≤ 10 ∧ xs.length ≤ c3 ∧ OwnI w.heap.size w' (.slice A1 L.length c1) L ∧ OwnI w.heap.size w' (.slice A2 F.length c2) F ∧ OwnI w.heap.size w' (.slice A3 xs.length c3) xs ∧ Below w.heap.size w w' := by
  go_enter Try.func36, Try.ntmps36
  go_wp2_with (go_at_call 28; go_fit (drawBy_c A0 n0 c0 zs _ hn0 hc0 hA0 (hb0.below (show Below w.heap.size w _ by go_grown) (by simp))); rintro e w1 ⟨A1, c1, L, A2, c2, F, h, A3, c3, xs, rfl, hL7, hF7, hh, hx1, hx2, o1, o2, o3, hb1⟩; have s0 := ((bcell hb1).1 w.heap.size 0 (by simp)).trans (show _ = some (Value.slice none 0 0) by simp [go_sem]); have s1 := ((bcell hb1).1 w.heap.size 1 (by simp)).trans (show _ = some (Value.slice none 0 0) by simp [go_sem]); have sf0 := ((bcell hb1).2 w.heap.size 0 (by simp)).trans (show _ = false by simp [go_sem]); have sf1 := ((bcell hb1).2 w.heap.size 1 (by simp)).trans (show _ = false by simp [go_sem]))
  obtain ⟨r0, r1⟩ := two_cells (a := .slice A1 L.length c1) (b := .slice A2 F.length c2) s0 s1
  refine bodyPost_ret (v := .tuple #[.agg #[.slice A1 L.length c1, .slice A2 F.length c2], .int .i64 h, .slice A3 xs.length c3]) (by simp [results, Try.results36, go_sem, r0, r1]) rfl ?_
  simp only [World.size_alloc] at o1 o2 o3
  have low := fun {A : Option Addr} {c : Nat} {ys : List Int} (o : OwnI (w.heap.size + 1) w1 (.slice A ys.length c) ys) => own_less (base' := w.heap.size) (own_set_low (p := ⟨w.heap.size, 1, none⟩) (own_set_low (p := ⟨w.heap.size, 0, none⟩) o (by dsimp only; omega) (.slice A1 L.length c1)) (by dsimp only; omega) (.slice A2 F.length c2)) (by omega)
  exact ⟨A1, c1, L, A2, c2, F, h, A3, c3, xs, rfl, hL7, hF7, hh, hx1, hx2, low o1, low o2, low o3, ((Below.trans (show Below w.heap.size w _ by go_grown) (hb1.mono (by simp))).setCell (Nat.le_refl _) _).setCell (Nat.le_refl _) _⟩
--END greedy
end Go.Proofs.Ytmgikoaeomieeaa
