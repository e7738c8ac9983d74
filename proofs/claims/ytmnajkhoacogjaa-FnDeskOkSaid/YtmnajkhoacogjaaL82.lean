/-
  impl: how long a part may last.
  impl: LengthsOf, TermOk, StepsOf.
-/
import Derived.Test.YtmnajkhoacogjaaL80
namespace Go.Proofs.Ytmnajkhoacogjaa
set_option linter.unusedVariables false
set_option linter.unusedSimpArgs false
open Go Go.RowKit Pp

theorem bel_drewN (w : World) (n : Nat) : Below w.heap.size w (w.drewN n) := ⟨rfl, rfl, rfl, Nat.le_refl _, fun _ _ => rfl⟩
theorem lens_small {a : Tm} {u v : Int} (hf : a.fine) (hs : a.size ≤ 20) (hl : a.lens = some (u, v)) : 0 ≤ u ∧ u ≤ v ∧ v ≤ 400 := by
  have h := lens_le hf hl
  have h2 : ∀ a : Tm, a.steps ≤ a.size := fun a => by
    induction a with
    | step l h => simp [Tm.steps, Tm.size]
    | wth a h ih => simp only [Tm.steps, Tm.size]; omega
    | thn a b iha ihb => simp only [Tm.steps, Tm.size]; omega
    | bth a b iha ihb => simp only [Tm.steps, Tm.size]; omega
  have := h2 a
  omega
/-- What is told of the lengths. -/
def LenV (o : Option (Int × Int)) (v : Value) : Prop := ∃ x y, v = .tuple #[.int .i64 x, .int .i64 y, .bool o.isSome] ∧ ∀ u v, o = some (u, v) → x = u ∧ y = v
theorem lenV_no (x y : Int) {o : Option (Int × Int)} (h : o = none) : LenV o (.tuple #[.int .i64 x, .int .i64 y, .bool false]) := by subst h; exact ⟨x, y, rfl, fun u v h => by cases h⟩
theorem lenV_yes {x y : Int} {o : Option (Int × Int)} (h : o = some (x, y)) : LenV o (.tuple #[.int .i64 x, .int .i64 y, .bool true]) := by subst h; exact ⟨x, y, rfl, fun u v h => by injection h with h; injection h with h1 h2; exact ⟨h1, h2⟩⟩
theorem lenV_if {x y : Int} {o : Option (Int × Int)} (h : o = if x ≤ y then some (x, y) else none) : LenV o (.tuple #[.int .i64 x, .int .i64 y, .bool (decide (x ≤ y))]) := by
  by_cases h1 : x ≤ y
  · rw [if_pos h1] at h; rw [decide_eq_true h1]; exact lenV_yes h
  · rw [if_neg h1] at h; rw [decide_eq_false h1]; exact lenV_no _ _ h

open Go Go.RowKit Pp

namespace Pp
def lensOf (t : List Mk) : Option (Int × Int) := (termOf t).bind Tm.lens
def termOk (t : List Mk) : Bool := (termOf t).isSome
def stepsOf (t : List Mk) : Int := if termOk t then (cntK 0 t : Int) else -1
theorem cntK_le (k : Int) : ∀ t : List Mk, cntK k t ≤ t.length
  | [] => Nat.le_refl _
  | m :: l => by have := cntK_le k l; simp only [cntK, List.length_cons]; split <;> omega
theorem cntK_take (k : Int) {t : List Mk} {j : Nat} {x : Mk} (h : t[j]? = some x) : cntK k (t.take (j + 1)) = cntK k (t.take j) + (if x.k = k then 1 else 0) := by
  obtain ⟨hj, rfl⟩ := List.getElem?_eq_some_iff.1 h
  rw [List.take_succ_eq_append_getElem hj, cntK_append]
  simp [cntK]
end Pp
end Go.Proofs.Ytmnajkhoacogjaa
