/-
  Terms: where a part begins (no program).
-/
import Derived.Test.YtofodhdpppjaoaaP54
namespace Go.Proofs.Ytofodhdpppjaoaa.Pp
set_option linter.unusedVariables false
set_option linter.unusedSimpArgs false

def wgt (m : Mk) : Int := if m.k = 0 then -1 else if m.k = 3 then 0 else 1
def sumW : List Mk → Int
  | [] => 0
  | m :: l => wgt m + sumW l
theorem sumW_append : ∀ (a b : List Mk), sumW (a ++ b) = sumW a + sumW b
  | [], b => by simp [sumW]
  | m :: a, b => by simp only [List.cons_append, sumW, sumW_append a b]; omega
theorem sumW_marks : ∀ a : Tm, sumW a.marks = -1
  | .step l h => by simp [Tm.marks, sumW, wgt]
  | .wth a h => by simp [Tm.marks, sumW_append, sumW_marks a, sumW, wgt]
  | .thn a b => by simp [Tm.marks, sumW_append, sumW_marks a, sumW_marks b, sumW, wgt]
  | .bth a b => by simp [Tm.marks, sumW_append, sumW_marks a, sumW_marks b, sumW, wgt]
theorem split_last {p s l : List Mk} {m : Mk} (h : l ++ [m] = p ++ s) (hs : s ≠ []) : ∃ s', s = s' ++ [m] ∧ l = p ++ s' := by
  obtain ⟨s', x, rfl⟩ : ∃ s' x, s = s' ++ [x] := ⟨s.dropLast, s.getLast hs, (List.dropLast_concat_getLast hs).symm⟩
  rw [← List.append_assoc] at h
  have := List.append_inj' h rfl
  have e := this.2
  simp only [List.cons.injEq, and_true] at e
  subst e
  exact ⟨s', rfl, this.1⟩
/-- The marks behind some of a part ask for no less. -/
theorem sumW_back : ∀ (a : Tm) (p s : List Mk), a.marks = p ++ s → p ≠ [] → 0 ≤ sumW s
  | .step l h, p, s, e, hp => by
    cases p with
    | nil => exact absurd rfl hp
    | cons x p =>
      simp only [Tm.marks, List.cons_append, List.cons.injEq] at e
      have : s = [] := by have := e.2; simp at this; exact this.2
      subst this
      exact Int.le_refl _
  | .wth a h, p, s, e, hp => by
    by_cases hs : s = []
    · subst hs; exact Int.le_refl _
    · obtain ⟨s', rfl, e2⟩ := split_last e hs
      have := sumW_back a p s' e2 hp
      rw [sumW_append]
      simp [sumW, wgt]; omega
  | .thn a b, p, s, e, hp => by
    by_cases hs : s = []
    · subst hs; exact Int.le_refl _
    · obtain ⟨s', rfl, e2⟩ := split_last e hs
      rw [sumW_append]
      have h1 : sumW [(⟨1, 0, 0⟩ : Mk)] = 1 := by simp [sumW, wgt]
      rw [h1]
      rcases List.append_eq_append_iff.1 e2 with ⟨q, e3, e4⟩ | ⟨q, e3, e4⟩
      · by_cases hq : q = []
        · subst hq
          simp only [List.nil_append] at e4
          rw [← e4, sumW_marks]
          omega
        · have := sumW_back b q s' e4 hq
          omega
      · have := sumW_back a p q e3 hp
        rw [e4, sumW_append, sumW_marks]; omega
  | .bth a b, p, s, e, hp => by
    by_cases hs : s = []
    · subst hs; exact Int.le_refl _
    · obtain ⟨s', rfl, e2⟩ := split_last e hs
      rw [sumW_append]
      have h1 : sumW [(⟨2, 0, 0⟩ : Mk)] = 1 := by simp [sumW, wgt]
      rw [h1]
      rcases List.append_eq_append_iff.1 e2 with ⟨q, e3, e4⟩ | ⟨q, e3, e4⟩
      · by_cases hq : q = []
        · subst hq
          simp only [List.nil_append] at e4
          rw [← e4, sumW_marks]
          omega
        · have := sumW_back b q s' e4 hq
          omega
      · have := sumW_back a p q e3 hp
        rw [e4, sumW_append, sumW_marks]; omega
/-- How many marks of a kind. -/
def cntK (k : Int) : List Mk → Nat
  | [] => 0
  | m :: l => (if m.k = k then 1 else 0) + cntK k l
theorem cntK_append (k : Int) : ∀ (a b : List Mk), cntK k (a ++ b) = cntK k a + cntK k b
  | [], b => by simp [cntK]
  | m :: a, b => by simp only [List.cons_append, cntK, cntK_append k a b]; omega
theorem cntK_marks : ∀ a : Tm, cntK 0 a.marks = a.steps ∧ cntK 1 a.marks = a.thens ∧ cntK 3 a.marks = a.withs
  | .step l h => by simp [Tm.marks, cntK, Tm.steps, Tm.thens, Tm.withs]
  | .wth a h => by
    obtain ⟨h1, h2, h3⟩ := cntK_marks a
    simp [Tm.marks, cntK_append, cntK, Tm.steps, Tm.thens, Tm.withs, h1, h2, h3]
  | .thn a b => by
    obtain ⟨h1, h2, h3⟩ := cntK_marks a
    obtain ⟨g1, g2, g3⟩ := cntK_marks b
    simp [Tm.marks, cntK_append, cntK, Tm.steps, Tm.thens, Tm.withs, h1, h2, h3, g1, g2, g3]
    omega
  | .bth a b => by
    obtain ⟨h1, h2, h3⟩ := cntK_marks a
    obtain ⟨g1, g2, g3⟩ := cntK_marks b
    simp [Tm.marks, cntK_append, cntK, Tm.steps, Tm.thens, Tm.withs, h1, h2, h3, g1, g2, g3]
end Go.Proofs.Ytofodhdpppjaoaa.Pp
