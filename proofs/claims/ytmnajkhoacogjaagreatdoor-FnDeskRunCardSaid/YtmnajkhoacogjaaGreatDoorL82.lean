/-
 impl: how long a part may last.
 impl: LengthsOf, TermOk, StepsOf.
-/
import Derived.Test.YtmnajkhoacogjaaGreatDoorL80
namespace Go.Proofs.YtmnajkhoacogjaaGreatDoor
set_option linter.unusedVariables false
set_option linter.unusedSimpArgs false
open Go Go.RowKit Pp

theorem bel_drewN (w : World) (n : Nat) : Below w.heap.size w (w.drewN n) := ⟨rfl, rfl, rfl, Nat.le_refl _, fun _ _ => rfl⟩
/-- What is told of the lengths. -/
def LenV (o : Option (Int × Int)) (v : Value) : Prop := ∃ x y, v = .tuple #[.int .i64 x, .int .i64 y, .bool o.isSome] ∧ ∀ u v, o = some (u, v) → x = u ∧ y = v
theorem lenV_no (x y : Int) {o : Option (Int × Int)} (h : o = none) : LenV o (.tuple #[.int .i64 x, .int .i64 y, .bool false]) := by subst h; exact ⟨x, y, rfl, fun u v h => by cases h⟩
theorem lenV_yes {x y : Int} {o : Option (Int × Int)} (h : o = some (x, y)) : LenV o (.tuple #[.int .i64 x, .int .i64 y, .bool true]) := by subst h; exact ⟨x, y, rfl, fun u v h => by injection h with h; injection h with h1 h2; exact ⟨h1, h2⟩⟩
open Go Go.RowKit Pp

namespace Pp
def termOk (t : List Mk) : Bool := (termOf t).isSome
def stepsOf (t : List Mk) : Int := if termOk t then (cntK 0 t : Int) else -1
end Pp
end Go.Proofs.YtmnajkhoacogjaaGreatDoor
