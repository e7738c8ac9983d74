/-
  impl.CommonOf: the number of both tables.
-/
import Derived.Test.YtjlaljnffmncpaaI1
import Derived.Test.YtjlaljnffmncpaaP7
namespace Go.Proofs.Ytjlaljnffmncpaa
set_option linter.unusedVariables false
set_option linter.unusedSimpArgs false
open Go.RowKit Pp

set_option maxHeartbeats 2000000 in
set_option maxRecDepth 100000 in
theorem common1_c (T U : Tb) (n i k X Y ob ob' B c c' : Nat) (rb rc rb' rc' : Nat → Nat) (w : World) (hT : TabR w B ob rb rc n T) (hU : TabR w B ob' rb' rc' n U) (hi : i < n) (hk : k < n) (x0 : w.cell? ⟨X, 0, none⟩ = some (.slice (some ⟨ob, 0, none⟩) n c)) (y0 : w.cell? ⟨Y, 0, none⟩ = some (.slice (some ⟨ob', 0, none⟩) n c')) :
    Calls Try.prog 83 #[.int .i64 i, .int .i64 k, .pointer (some ⟨X, 0, none⟩), .pointer (some ⟨Y, 0, none⟩)] w fun e w' => e = .returned (.int .i64 (maxT T U i k)) ∧ Below w.heap.size w w' := by
  have hi' : (i : Int) < (n : Int) := by omega
  have hk' : (k : Int) < (n : Int) := by omega
  have t0 := hT.top i hi
  have t1 := hT.row i k hi hk
  have u0 := hU.top i hi
  have u1 := hU.row i k hi hk
  obtain ⟨m, hm⟩ : ∃ m, maxT T U i k = m := ⟨_, rfl⟩
  rw [hm]
  unfold maxT at hm
  generalize T i k = a at t1 hm
  generalize U i k = b at u1 hm
  by_cases hab : a < b
  · obtain rfl : m = b := by omega
    clear hm
    go_enter Try.func83, Try.ntmps83
    go_upto_region 1 with fail
    go_region
    go_wp2_with fail
    go_ret
    exact ⟨rfl, Below.drew (Below.refl _ _)⟩
  · obtain rfl : m = a := by omega
    clear hm
    go_enter Try.func83, Try.ntmps83
    go_upto_region 1 with fail
    go_region
    go_wp2_with fail
    go_ret
    exact ⟨rfl, Below.drew (Below.refl _ _)⟩
end Go.Proofs.Ytjlaljnffmncpaa
