/-
  The draws of the reference: for WideOf.
-/
import Derived.Test.YtjlaljnffmncpaaD5
namespace Go.Proofs.Ytjlaljnffmncpaa
set_option linter.unusedVariables false
set_option linter.unusedSimpArgs false
open Go.RowKit Pp

theorem RdO.bytes {w : World} {g : Nat} {K : Int} (h : RdO w g K) : g < w.heap.size := h.lt
/-- A reader that a call has made: what is older stays. -/
theorem below_gr {w w1 w2 : World} {g : Nat} (hb : Below w.heap.size w w1) (hg : w1.grownBy w2 (some g)) (h : w.heap.size ≤ g) : Below w.heap.size w w2 :=
  hb.grown hg hb.size (fun k e => by injection e with e; omega)

set_option maxHeartbeats 4000000 in
set_option maxRecDepth 100000 in
theorem drawWide_c (A0 : Option Addr) (n0 c0 : Nat) (zs : List Int) (w : World) (hn0 : n0 ≤ 1048576) (hc0 : n0 ≤ c0) (hA0 : n0 = 0 ∨ A0.isSome = true) (hb0 : BytesAt w w.heap.size A0 n0 zs) :
    Calls Try.prog 22 #[.slice A0 n0 c0] w fun e w' =>
      ∃ n A c bs b f t, e = .returned (.tuple #[.agg #[.int .i64 n, .slice A bs.length c], .int .i64 f, .int .i64 t]) ∧ (0 ≤ n ∧ n ≤ 7) ∧ bs.length ≤ 16 ∧ (∀ x ∈ bs, Sm x) ∧ (0 ≤ f ∧ f ≤ 10) ∧ (0 ≤ t ∧ t ≤ 10) ∧ BdsR w' w'.heap.size b 0 A bs ∧ Below w.heap.size w w' := by
  go_enter Try.func22, Try.ntmps22
  go_upto_region 3 with (first
    | (go_at_call 80; go_fit (open_c A0 n0 c0 zs _ hn0 hc0 hA0 (hb0.below (show Below w.heap.size w _ by go_grown) (by simp))); rintro e w1 ⟨rfl, hR1, hb1, hs1⟩; simp only [World.size_alloc] at hR1 hs1; have hb1' : Below w.heap.size w w1 := bthen (by go_grown) hb1; have s0 := ((bcell hb1).1 w.heap.size 0 (by simp)).trans (show _ = some (Value.int .i64 0) by simp [go_sem]); have s1 := ((bcell hb1).1 w.heap.size 1 (by simp)).trans (show _ = some (Value.slice none 0 0) by simp [go_sem]); have sf0 := ((bcell hb1).2 w.heap.size 0 (by simp)).trans (show _ = false by simp [go_sem]); have sf1 := ((bcell hb1).2 w.heap.size 1 (by simp)).trans (show _ = false by simp [go_sem]))
    | (go_at_call 88; go_fit (joined_c _ 0 _ _ (by omega) (by omega) hR1); rintro e w2 ⟨n, A, c, bs, rfl, hn, hlen, hsm, hown, hR2, G2⟩))
  have hS : w.heap.size < w1.heap.size := by omega
  have hg2 : w.heap.size + 1 < w2.heap.size := by have := G2.size; omega
  have a0 := far_cell G2 s0 (by omega)
  have a1 := far_cell G2 s1 (by omega)
  have af0 := far_frozen G2 sf0 hS (by omega)
  have af1 := far_frozen G2 sf1 hS (by omega)
  have hW2 : Below w.heap.size w w2 := below_gr hb1' G2 (by omega)
  obtain ⟨wa, hwa⟩ : ∃ wa, w2.alloc (.cells #[.int .i64 n, .slice A bs.length c] 25) = wa := ⟨_, rfl⟩
  have b0 : wa.cell? ⟨w.heap.size, 0, none⟩ = some (.int .i64 0) := by rw [← hwa, World.cell?_alloc_past _ _ _ (by omega)]; exact a0
  have b1 : wa.cell? ⟨w.heap.size, 1, none⟩ = some (.slice none 0 0) := by rw [← hwa, World.cell?_alloc_past _ _ _ (by omega)]; exact a1
  have bf0 : wa.frozen? ⟨w.heap.size, 0, none⟩ = false := by rw [← hwa, World.frozen?_alloc_past _ _ _ (by omega)]; exact af0
  have bf1 : wa.frozen? ⟨w.heap.size, 1, none⟩ = false := by rw [← hwa, World.frozen?_alloc_past _ _ _ (by omega)]; exact af1
  have p0 : wa.cell? ⟨w2.heap.size, 0, none⟩ = some (.int .i64 n) := by rw [← hwa]; simp [go_sem]
  have p1 : wa.cell? ⟨w2.heap.size, 1, none⟩ = some (.slice A bs.length c) := by rw [← hwa]; simp [go_sem]
  have hRa : RdO wa (w.heap.size + 1) (0 + 200) := by rw [← hwa]; exact hR2.alloc _
  have hWa : Below w.heap.size w wa := by rw [← hwa]; exact hW2.alloc hW2.size _
  have hoa : OwnB w1.heap.size wa (.slice A bs.length c) bs := by rw [← hwa]; exact hown.alloc _
  have hsa : wa.heap.size = w2.heap.size + 1 := by rw [← hwa]; simp
  rw [hwa]
  clear hwa a0 a1 af0 af1 s0 s1 sf0 sf1 hown hR2
  obtain ⟨hn0', hn7⟩ := hn
  have hwn : IntKind.i64.wrap (n + 1) = n + 1 := by rw [IntWalk.i64_left, IntWalk.wrap64_in _ (by omega)]
  have hwn2 : IntKind.i64.wrap 2 = 2 := by decide
  obtain ⟨hw3, hw4⟩ : 1 ≤ IntKind.i64.wrap ((if n < 1 then 1 else n) + 1) ∧ IntKind.i64.wrap ((if n < 1 then 1 else n) + 1) ≤ 9 := by
    split
    · rw [show (1 : Int) + 1 = 2 from rfl, hwn2]; omega
    · rw [hwn]; omega
  rcases Int.lt_or_le n 1 with hn1 | hn1
  all_goals (
    go_region_held3 (fun w' => w'.cell? ⟨w2.heap.size, 0, none⟩ = some (.int .i64 n) ∧ w'.cell? ⟨w2.heap.size, 1, none⟩ = some (.slice A bs.length c))
      (first
        | (go_split_ands; (repeat' apply And.intro) <;> assumption)
        | (go_split_ands; (repeat' apply And.intro) <;> exact (set_other (by dsimp only; omega)).trans ((set_other (by dsimp only; omega)).trans (by assumption)))
        | (go_keep; done))
      (first
        | (go_at_call 89; go_fit (pick_c _ (0 + 200) _ _ (by omega) (by omega) hRa.drew); rintro e w4 ⟨x1, rfl, d1, d2, _, hR4, G4, hs4⟩; have d2' := d2 (by omega); have q0 := far_cell (undrew G4) p0 (by omega); have q1 := far_cell (undrew G4) p1 (by omega))
        | (go_at_call 89; go_fit (pick_c _ _ _ _ (by omega) (by omega) hR4); rintro e w5 ⟨x2, rfl, e1, e2, _, hR5, G5, hs5⟩; have e2' := e2 (by omega); have r0 := far_cell G5 q0 (by omega); have r1 := far_cell G5 q1 (by omega); have G6 := gr_pick (undrew G4) G5; have v0 := far_cell G6 b0 (by omega); have v1 := far_cell G6 b1 (by omega); have vf0 := far_frozen G6 bf0 (by omega) (by omega); have vf1 := far_frozen G6 bf1 (by omega) (by omega)))
    all_goals (
      go_wp2_with fail
      obtain ⟨u0, u1⟩ := two_cells (a := .int .i64 n) (b := .slice A bs.length c) v0 v1
      refine bodyPost_ret (v := .tuple #[.agg #[.int .i64 n, .slice A bs.length c], .int .i64 x1, .int .i64 x2]) (by simp [results, Try.results22, go_sem, u0, u1]) rfl ?_
      have ho := own_set_low (p := ⟨w.heap.size, 1, none⟩) (own_set_low (p := ⟨w.heap.size, 0, none⟩) (own_far hoa G6 (by omega)) (by dsimp only; omega) (.int .i64 n)) (by dsimp only; omega) (.slice A bs.length c)
      obtain ⟨b, hrd⟩ := OwnB.readsA ho
      exact ⟨n, A, c, bs, b, x1, x2, rfl, ⟨hn0', hn7⟩, hlen, hsm, ⟨d1, by omega⟩, ⟨e1, by omega⟩, hrd, ((below_gr hWa G6 (by omega)).setCell (Nat.le_refl _) _).setCell (Nat.le_refl _) _⟩))
end Go.Proofs.Ytjlaljnffmncpaa
