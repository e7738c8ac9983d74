/-
  What the laws' walks share: rows of numbers that are the same.
-/
import Derived.Test.YtmgikoaeomieeaaW0
namespace Go.Proofs.Ytmgikoaeomieeaa
set_option linter.unusedVariables false
set_option linter.unusedSimpArgs false
open Go.RowKit Pp

set_option maxHeartbeats 4000000 in
set_option maxRecDepth 100000 in
theorem sameInts_yes (xs : List Int) (A A' : Option Addr) (b o c b' o' c' B : Nat) (w : World) (hn : xs.length ≤ 2000000) (hB : B ≤ w.heap.size) (hR : IntsR w B b o A xs) (hR' : IntsR w B b' o' A' xs) :
    Calls Try.prog 31 #[.slice A xs.length c, .slice A' xs.length c'] w fun e w' => e = .returned (.bool true) ∧ Below w.heap.size w w' := by
  go_enter Try.func31, Try.ntmps31
  go_wp2_with fail
  go_loopg [5] xs.length (fun gh i wr => ∃ k : Nat, k ≤ xs.length ∧ gh = xs.length - k ∧ i = .int .i64 k ∧ Below w.heap.size w wr)
  case atStart => exact ⟨0, Nat.zero_le _, rfl, rfl, Below.refl _ _⟩
  case round =>
    obtain ⟨k, hk, rfl, rfl, hW⟩ := hrel
    by_cases hlt : k < xs.length
    · have hz : (k : Int) < (xs.length : Int) := by omega
      obtain rfl := hR.addr (by omega)
      obtain rfl := hR'.addr (by omega)
      have d0 := (hR.below (hW.mono hB)).cell k hlt
      have e0 := (hR'.below (hW.mono hB)).cell k hlt
      generalize xs.getD k 0 = x at d0 e0
      go_upto_region 6 with fail
      go_region
      go_wp2_with fail
      go_roundg (xs.length - (k + 1))
      case measure => go_light; omega
      case rel => go_light; exact ⟨k + 1, by omega, rfl, by go_num, hW.drew⟩
    · go_wp2_with fail
      go_ret
      exact ⟨rfl, hW⟩
end Go.Proofs.Ytmgikoaeomieeaa
