/-
  The draws of the reference: DrawSpareOf.
-/
import Derived.Test.YtledgblepdjjlaaD3
import Derived.Test.YtledgblepdjjlaaL11a
namespace Go.Proofs.Ytledgblepdjjlaa
set_option linter.unusedVariables false
set_option linter.unusedSimpArgs false
open Go.RowKit Pp

set_option maxHeartbeats 2000000 in
set_option maxRecDepth 100000 in
theorem drawSpare_c (A0 : Option Addr) (n0 c0 : Nat) (zs : List Int) (w : World) (hn0 : n0 ≤ 1048576) (hc0 : n0 ≤ c0) (hA0 : n0 = 0 ∨ A0.isSome = true) (hb0 : BytesAt w w.heap.size A0 n0 zs) :
    Calls Try.prog 27 #[.slice A0 n0 c0] w fun e w' =>
      ∃ n A c bs b, e = .returned (.agg #[.int .i64 n, .slice A bs.length c]) ∧ (0 ≤ n ∧ n ≤ 7) ∧ bs.length ≤ 9 ∧ BdsR w' w'.heap.size b 0 A bs ∧ Below w.heap.size w w' := by
  go_enter Try.func27, Try.ntmps27
  go_wp2_with (first
    | (go_at_call 79; go_fit (open_c A0 n0 c0 zs _ hn0 hc0 hA0 (hb0.below (show Below w.heap.size w _ by go_grown) (by simp))); rintro e w1 ⟨rfl, hR1, hb1, hs1⟩; simp only [World.size_alloc] at hR1 hs1)
    | (go_at_call 78; go_fit (plan_c _ 0 9 _ (by omega) (by omega) hR1); rintro e w2 ⟨n, A, c, bs, rfl, hn, hlb, hsm, hown, hR2, G2⟩; have hW1 : Below w.heap.size w w1 := bthen (by go_grown) hb1; have s0 := far_cell G2 (((bcell hb1).1 w.heap.size 0 (by simp)).trans (show _ = some (Value.int .i64 0) by simp [go_sem])) (by omega); have s1 := far_cell G2 (((bcell hb1).1 w.heap.size 1 (by simp)).trans (show _ = some (Value.slice none 0 0) by simp [go_sem])) (by omega); have sf := fun i => far_frozen G2 (((bcell hb1).2 w.heap.size i (by simp)).trans (show _ = false by simp [go_sem])) (by omega) (by omega); have sf0 := sf 0; have sf1 := sf 1; have hW2 : Below w.heap.size w w2 := hW1.grown G2 (by omega) (fun q hq => by cases hq; omega); obtain ⟨r0, r1⟩ := two_cells (a := .int .i64 n) (b := .slice A bs.length c) s0 s1))
  refine bodyPost_ret (v := .agg #[.int .i64 n, .slice A bs.length c]) (by simp [results, Try.results27, go_sem, r0, r1]) rfl ?_
  obtain ⟨b, hb⟩ := OwnB.readsA (own_set_low (own_set_low hown (p := ⟨w.heap.size, 0, none⟩) (by dsimp only; omega) (.int .i64 n)) (p := ⟨w.heap.size, 1, none⟩) (by dsimp only; omega) (.slice A bs.length c))
  exact ⟨n, A, c, bs, b, rfl, hn, hlb, hb, (hW2.setCell (Nat.le_refl _) _).setCell (Nat.le_refl _) _⟩
end Go.Proofs.Ytledgblepdjjlaa
