/-
  Arguments of the exact laws opened: a project.
-/
import Derived.Test.YtmgikoaeomieeaaO1
namespace Go.Proofs.Ytmgikoaeomieeaa
set_option linter.unusedVariables false
set_option linter.unusedSimpArgs false
open Go.ChangeShapes Go.WideShapes Go.Deep Go.Joins Go.RowKit Pp

theorem projectR {H : Type} {enc : TypeId × Value → H} {w : World} {fuel : Nat} {cs : List Value} {x : DataW H × List MemPlace}
    (h : DataW.trod enc Try.prog w 0 (fun _ => true) true fuel 41 cs = some x) :
    ∃ (A : Option Addr) (b o c : Nat) (xs : List Int) (A2 : Option Addr) (b2 o2 c2 : Nat) (ys : List Int), cs = [.slice A xs.length c, .slice A2 ys.length c2] ∧ xs.length ≤ c ∧ c ≤ 9223372036854775807 ∧ IntsR w w.heap.size b o A xs ∧ ys.length ≤ c2 ∧ c2 ≤ 9223372036854775807 ∧ IntsR w w.heap.size b2 o2 A2 ys := by
  have hl := structLen Try.underlying41 h 2 (by kernel_rfl)
  obtain ⟨_, _, g0⟩ := fieldR Try.underlying41 h 0 _ 1 rfl (by kernel_rfl)
  obtain ⟨_, _, g1⟩ := fieldR Try.underlying41 h 1 _ 1 rfl (by kernel_rfl)
  match cs, hl with
  | [u0, u1], _ =>
    obtain ⟨A, b, o, c, xs, e0, h1, h2, h3, _⟩ := intsR g0
    obtain ⟨A2, b2, o2, c2, ys, e1, k1, k2, k3, _⟩ := intsR g1
    simp at e0 e1
    subst e0 e1
    exact ⟨A, b, o, c, xs, A2, b2, o2, c2, ys, rfl, h1, h2, h3, k1, k2, k3⟩
end Go.Proofs.Ytmgikoaeomieeaa
