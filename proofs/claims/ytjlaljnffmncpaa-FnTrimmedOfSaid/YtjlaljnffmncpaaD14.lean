/-
  The draws of the reference: for TrimmedOf.
-/
import Derived.Test.YtjlaljnffmncpaaD13
import Derived.Test.YtjlaljnffmncpaaD6
namespace Go.Proofs.Ytjlaljnffmncpaa
set_option linter.unusedVariables false
set_option linter.unusedSimpArgs false
open Go.RowKit Pp

set_option maxHeartbeats 4000000 in
set_option maxRecDepth 100000 in
theorem drawTrimmed_c (A0 : Option Addr) (n0 c0 : Nat) (zs : List Int) (w : World) (hn0 : n0 ≤ 1048576) (hc0 : n0 ≤ c0) (hA0 : n0 = 0 ∨ A0.isSome = true) (hb0 : BytesAt w w.heap.size A0 n0 zs) :
    Calls Try.prog 40 #[.slice A0 n0 c0] w fun e w' =>
      ∃ n A c bs b, e = .returned (.agg #[.int .i64 n, .slice A bs.length c]) ∧ (0 ≤ n ∧ n ≤ 7) ∧ bs.length ≤ 16 ∧ (∀ x ∈ bs, Sm x) ∧ BdsR w' w'.heap.size b 0 A bs ∧ Below w.heap.size w w' := by
  go_enter Try.func40, Try.ntmps40
  go_wp2_with (first
    | (go_at_call 80; go_fit (open_c A0 n0 c0 zs _ hn0 hc0 hA0 (hb0.below (show Below w.heap.size w _ by go_grown) (by simp))); rintro e w1 ⟨rfl, hR1, hb1, hs1⟩; simp only [World.size_alloc] at hR1 hs1; have hb1' : Below w.heap.size w w1 := bthen (by go_grown) hb1; have s0 := ((bcell hb1).1 w.heap.size 0 (by simp)).trans (show _ = some (Value.int .i64 0) by simp [go_sem]); have s1 := ((bcell hb1).1 w.heap.size 1 (by simp)).trans (show _ = some (Value.slice none 0 0) by simp [go_sem]); have sf0 := ((bcell hb1).2 w.heap.size 0 (by simp)).trans (show _ = false by simp [go_sem]); have sf1 := ((bcell hb1).2 w.heap.size 1 (by simp)).trans (show _ = false by simp [go_sem]))
    | (go_at_call 108; go_fit (tight_c _ 0 _ _ (by omega) (by omega) hR1); rintro e w2 ⟨n, A, c, bs, rfl, hn, hlen, hsm, hown, hR2, G2⟩; have a0 := far_cell G2 s0 (by omega); have a1 := far_cell G2 s1 (by omega); have af0 := far_frozen G2 sf0 (by omega) (by omega); have af1 := far_frozen G2 sf1 (by omega) (by omega)))
  obtain ⟨u0, u1⟩ := two_cells (a := .int .i64 n) (b := .slice A bs.length c) a0 a1
  refine bodyPost_ret (v := .agg #[.int .i64 n, .slice A bs.length c]) (by simp [results, Try.results40, go_sem, u0, u1]) rfl ?_
  have ho := own_set_low (p := ⟨w.heap.size, 1, none⟩) (own_set_low (p := ⟨w.heap.size, 0, none⟩) hown (by dsimp only; omega) (.int .i64 n)) (by dsimp only; omega) (.slice A bs.length c)
  obtain ⟨b, hrd⟩ := OwnB.readsA ho
  exact ⟨n, A, c, bs, b, rfl, hn, hlen, hsm, hrd, ((below_gr hb1' G2 (by omega)).setCell (Nat.le_refl _) _).setCell (Nat.le_refl _) _⟩
end Go.Proofs.Ytjlaljnffmncpaa
