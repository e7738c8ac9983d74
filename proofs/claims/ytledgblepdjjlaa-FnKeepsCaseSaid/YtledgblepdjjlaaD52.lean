/-
  The draws of the reference: DrawLeastSpan.
-/
import Derived.Test.YtledgblepdjjlaaD51
namespace Go.Proofs.Ytledgblepdjjlaa
set_option linter.unusedVariables false
set_option linter.unusedSimpArgs false
open Go.RowKit Pp

theorem far3 {W : World} {a D i : Nat} {x y z u : Value} (h : W.cell? ⟨D, i, none⟩ = some u) (hne : a ≠ D) : (((W.setCell ⟨a, 0, none⟩ x).setCell ⟨a, 1, none⟩ y).setCell ⟨a, 2, none⟩ z).cell? ⟨D, i, none⟩ = some u := by
  rw [set_other hne, set_other hne, set_other hne]; exact h
set_option maxHeartbeats 4000000 in
set_option maxRecDepth 100000 in
theorem drawSpan_c (A0 : Option Addr) (n0 c0 : Nat) (zs : List Int) (w : World) (hn0 : n0 ≤ 1048576) (hc0 : n0 ≤ c0) (hA0 : n0 = 0 ∨ A0.isSome = true) (hb0 : BytesAt w w.heap.size A0 n0 zs) :
    Calls Try.prog 46 #[.slice A0 n0 c0] w fun e w' =>
      ∃ n A c bs A2 c2 cs b b2 f t, e = .returned (.tuple #[.agg #[.int .i64 n, .slice A bs.length c, .slice A2 cs.length c2], .int .i64 f, .int .i64 t]) ∧ (0 ≤ n ∧ n ≤ 7) ∧ bs.length ≤ 8 ∧ cs.length ≤ 4 ∧ Hid (∀ l ∈ cs, l.length ≤ 3) ∧ cs.length ≤ c2 ∧ (0 ≤ f ∧ f ≤ 7) ∧ (0 ≤ t ∧ t ≤ 20) ∧ BdsR w' w'.heap.size b 0 A bs ∧ ChR w' w'.heap.size b2 0 A2 cs ∧ Below w.heap.size w w' := by
  go_enter Try.func46, Try.ntmps46
  go_upto_region 3 with (first
    | (go_at_call 79; go_fit (open_c A0 n0 c0 zs _ hn0 hc0 hA0 (hb0.below (show Below w.heap.size w _ by go_grown) (by simp))); rintro e w1 ⟨rfl, hR1, hb1, hs1⟩; simp only [World.size_alloc] at hR1 hs1)
    | (go_at_call 87; go_fit (case_c _ 0 14 _ (by omega) (by omega) hR1); rintro e w2 ⟨n, A, c, bs, A2, c2, cs, rfl, hn, hlb, hsm, hlc, HL, hoB, hoC, hcp, hR2, G2⟩))
  have hRD := hR2.alloc (.cells #[.int .i64 n, .slice A bs.length c, .slice A2 cs.length c2] 37)
  have hGD := gr_alloc G2 (.cells #[.int .i64 n, .slice A bs.length c, .slice A2 cs.length c2] 37)
  have hoBD := hoB.alloc (.cells #[.int .i64 n, .slice A bs.length c, .slice A2 cs.length c2] 37)
  have hoCD := hoC.below (show Below w2.heap.size w2 (w2.alloc (.cells #[.int .i64 n, .slice A bs.length c, .slice A2 cs.length c2] 37)) by go_grown)
  have d0 : (w2.alloc (.cells #[.int .i64 n, .slice A bs.length c, .slice A2 cs.length c2] 37)).cell? ⟨w2.heap.size, 0, none⟩ = some (.int .i64 n) := by simp [go_sem]
  have d1 : (w2.alloc (.cells #[.int .i64 n, .slice A bs.length c, .slice A2 cs.length c2] 37)).cell? ⟨w2.heap.size, 1, none⟩ = some (.slice A bs.length c) := by simp [go_sem]
  have d2 : (w2.alloc (.cells #[.int .i64 n, .slice A bs.length c, .slice A2 cs.length c2] 37)).cell? ⟨w2.heap.size, 2, none⟩ = some (.slice A2 cs.length c2) := by simp [go_sem]
  have hs2 : w1.heap.size ≤ w2.heap.size := G2.size
  generalize w2.alloc (.cells #[.int .i64 n, .slice A bs.length c, .slice A2 cs.length c2] 37) = wD at hRD hGD hoBD hoCD d0 d1 d2 ⊢
  generalize w2.heap.size = D at d0 d1 d2 hs2 ⊢
  clear hR2 G2 hoB hoC hR1 hb0
  have hZD : w.heap.size ≠ D := by omega
  obtain ⟨pt, hpt, hpt0, hpt1⟩ : ∃ pt, (if n < 1 then (1 : Int) else n) = pt ∧ 1 ≤ pt ∧ pt ≤ 7 := ⟨_, rfl, by split <;> omega, by split <;> omega⟩
  have hRD' := hRD.drew
  have hGD' := grown_drew hGD
  have hoB' := own_below hoBD (show Below wD.heap.size wD wD.drew by go_grown)
  have hoC' := hoCD.below (show Below wD.heap.size wD wD.drew by go_grown)
  clear hRD hGD hoBD hoCD
  go_region_held3 (fun w' => w'.cell? ⟨D, 0, none⟩ = some (.int .i64 n) ∧ w'.cell? ⟨D, 1, none⟩ = some (.slice A bs.length c) ∧ w'.cell? ⟨D, 2, none⟩ = some (.slice A2 cs.length c2))
    (first
      | (go_split_ands; (repeat' apply And.intro) <;> assumption)
      | exact ⟨e0, e1, e2⟩
      | exact ⟨f0, f1, f2⟩
      | exact ⟨g0, g1, g2⟩
      | exact ⟨far3 g0 hZD, far3 g1 hZD, far3 g2 hZD⟩
      | (go_keep; done))
    (first
      | (go_at_call 88; go_fit (pick_c (w.heap.size + 1) _ pt _ (by omega) (by omega) hRD'); rintro e w3 ⟨x1, rfl, b1, b2, -, hR3, G3, -⟩; replace b2 := b2 (by omega); have e0 := far_cell G3 (x := .int .i64 n) d0 (by omega); have e1 := far_cell G3 (x := .slice A bs.length c) d1 (by omega); have e2 := far_cell G3 (x := .slice A2 cs.length c2) d2 (by omega); have hG3 := gr_pick hGD' G3; have hoB3 := own_far hoB' G3 (by omega); have hoC3 := hoC'.far G3 (by omega); clear hRD' hGD' hoB' hoC')
      | (go_at_call 88; go_fit (pick_c (w.heap.size + 1) _ pt _ (by omega) (by omega) hR3); rintro e w4 ⟨x2, rfl, b3, b4, -, hR4, G4, -⟩; replace b4 := b4 (by omega); have f0 := far_cell G4 (x := .int .i64 n) e0 (by omega); have f1 := far_cell G4 (x := .slice A bs.length c) e1 (by omega); have f2 := far_cell G4 (x := .slice A2 cs.length c2) e2 (by omega); have hG4 := gr_pick hG3 G4; have hoB4 := own_far hoB3 G4 (by omega); have hoC4 := hoC3.far G4 (by omega); clear hR3 hG3 hoB3 hoC3)
      | (go_at_call 88; go_fit (pick_c (w.heap.size + 1) _ 40 _ (by omega) (by omega) hR4); rintro e w5 ⟨x3, rfl, b5, b6, -, hR5, G5, -⟩; replace b6 := b6 (by omega); have g0 := far_cell G5 (x := .int .i64 n) f0 (by omega); have g1 := far_cell G5 (x := .slice A bs.length c) f1 (by omega); have g2 := far_cell G5 (x := .slice A2 cs.length c2) f2 (by omega); have hG5 := gr_pick hG4 G5; have hoB5 := own_far hoB4 G5 (by omega); have hoC5 := hoC4.far G5 (by omega); clear hR4 hG4 hoB4 hoC4; obtain ⟨⟨_, a0⟩, ⟨_, a1⟩, ⟨_, a2⟩, af, r0, r1, r2, hW, hS⟩ := box3 (x := .int .i64 n) (y := .slice A bs.length c) (z := .slice A2 cs.length c2) hb1 rfl hs1 hG5 _ rfl; have af0 := af 0; have af1 := af 1; have af2 := af 2))
  all_goals
    go_wp2_with fail
    have hy : ∃ yy, IntKind.i64.wrap (x2 + IntKind.i64.wrap (IntKind.i64.wrap (x3.tdiv 39) * 7)) = yy ∧ 0 ≤ yy ∧ yy ≤ 20 := by
      have h1 : x3.tdiv 39 = x3 / 39 := Int.tdiv_eq_ediv_of_nonneg b5
      rw [h1, IntWalk.i64_in (x3 / 39) (by omega), IntWalk.i64_in (x3 / 39 * 7) (by omega), IntWalk.i64_in (x2 + x3 / 39 * 7) (by omega)]
      exact ⟨_, rfl, by omega, by omega⟩
    obtain ⟨yy, hyy, hy0, hy1⟩ := hy
    rw [hyy]
    refine bodyPost_ret (v := .tuple #[.agg #[.int .i64 n, .slice A bs.length c, .slice A2 cs.length c2], .int .i64 x1, .int .i64 yy]) (by simp [results, Try.results46, go_sem, r0, r1, r2]) rfl ?_
    obtain ⟨b, hb⟩ := OwnB.readsA (own_set_low (own_set_low (own_set_low hoB5 (p := ⟨w.heap.size, 0, none⟩) (by dsimp only; omega) (.int .i64 n)) (p := ⟨w.heap.size, 1, none⟩) (by dsimp only; omega) (.slice A bs.length c)) (p := ⟨w.heap.size, 2, none⟩) (by dsimp only; omega) (.slice A2 cs.length c2))
    obtain ⟨b2', hb2⟩ := (((hoC5.set_low (p := ⟨w.heap.size, 0, none⟩) (by dsimp only; omega) (.int .i64 n)).set_low (p := ⟨w.heap.size, 1, none⟩) (by dsimp only; omega) (.slice A bs.length c)).set_low (p := ⟨w.heap.size, 2, none⟩) (by dsimp only; omega) (.slice A2 cs.length c2)).reads
    exact ⟨n, A, c, bs, A2, c2, cs, b, b2', _, _, rfl, hn, hlb, hlc, HL, hcp, ⟨by omega, by omega⟩, ⟨hy0, hy1⟩, hb, hb2, hW⟩
end Go.Proofs.Ytledgblepdjjlaa
