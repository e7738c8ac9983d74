/-
  Arguments of the exact laws opened: a state.
-/
import Derived.Test.YtjlaljnffmncpaaO1
namespace Go.Proofs.Ytjlaljnffmncpaa
set_option linter.unusedVariables false
set_option linter.unusedSimpArgs false
open Go.ChangeShapes Go.WideShapes Go.Deep Go.Joins Go.RowKit Pp

theorem stateR {H : Type} {enc : TypeId × Value → H} {w : World} {fuel : Nat} {cs : List Value} {x : DataW H × List MemPlace}
    (h : DataW.trod enc Try.prog w 0 (fun _ => true) true fuel 82 cs = some x) :
    ∃ (n : Int) (A : Option Addr) (b o c : Nat) (xs : List Int), cs = [.int .i64 n, .slice A xs.length c] ∧ xs.length ≤ c ∧ c ≤ 9223372036854775807 ∧ IntsR w w.heap.size b o A xs ∧ -9223372036854775808 ≤ n ∧ n ≤ 9223372036854775807 := by
  have hl := structLen Try.underlying82 h 2 (by kernel_rfl)
  obtain ⟨_, _, g0⟩ := fieldR Try.underlying82 h 0 _ 1 rfl (by kernel_rfl)
  obtain ⟨_, _, g1⟩ := fieldR Try.underlying82 h 1 _ 1 rfl (by kernel_rfl)
  match cs, hl with
  | [u0, u1], _ =>
    obtain ⟨n, e0, hn⟩ := intR g0
    obtain ⟨A, b, o, c, xs, e1, h1, h2, h3, _⟩ := intsR g1
    simp at e0 e1
    subst e0 e1
    exact ⟨n, A, b, o, c, xs, rfl, h1, h2, h3, hn⟩
end Go.Proofs.Ytjlaljnffmncpaa
