/-
  spec: l11Ok, TermOk, StepsOf, l11Starts.
-/
import Derived.Test.YtofodhdpppjaoaaL83
import Derived.Test.YtofodhdpppjaoaaS1
namespace Go.Proofs.Ytofodhdpppjaoaa
set_option linter.unusedVariables false
set_option linter.unusedSimpArgs false
open Go Go.RowKit Pp

def mkOk (m : Mk) : Bool := decide (0 ≤ partsN m)
theorem mkOk_iff (m : Mk) : mkOk m = true ↔ (m.k = 0 ∧ inB m.h 0 19 = true ∧ inB m.l 0 m.h = true) ∨ ((m.k = 1 ∨ m.k = 2) ∧ m.l = 0 ∧ m.h = 0) ∨ (m.k = 3 ∧ m.l = 0 ∧ inB m.h 0 19 = true) := by
  unfold mkOk partsN
  rw [decide_eq_true_eq]
  split
  · rename_i h; exact ⟨fun _ => .inl h, fun _ => by omega⟩
  · rename_i h
    split
    · rename_i h2; exact ⟨fun _ => .inr (.inl h2), fun _ => by omega⟩
    · rename_i h2
      split
      · rename_i h3; exact ⟨fun _ => .inr (.inr h3), fun _ => by omega⟩
      · rename_i h3
        refine ⟨fun x => by omega, fun x => ?_⟩
        rcases x with x | x | x
        · exact absurd x h
        · exact absurd x h2
        · exact absurd x h3
theorem bool_iff {a b : Bool} (h : a = true ↔ b = true) : a = b := by cases a <;> cases b <;> simp_all
theorem mkOk_step (l h : Int) : mkOk ⟨0, l, h⟩ = (inB l 0 h && decide (h ≤ 19)) := bool_iff (by
  rw [mkOk_iff]
  simp [inB]
  omega)
theorem mkOk_wth (l h : Int) : mkOk ⟨3, l, h⟩ = (decide (l = 0) && inB h 0 19) := bool_iff (by
  rw [mkOk_iff]
  simp [inB])
theorem mkOk_two {k l h : Int} (h0 : k ≠ 0) (h3 : k ≠ 3) : mkOk ⟨k, l, h⟩ = (decide (k = 1 ∧ l = 0 ∧ h = 0) || decide (k = 2 ∧ l = 0 ∧ h = 0)) := bool_iff (by
  rw [mkOk_iff]
  simp only [Bool.or_eq_true, decide_eq_true_eq]
  constructor
  · rintro (x | ⟨x | x, y⟩ | x)
    · exact absurd x.1 h0
    · exact .inl ⟨x, y⟩
    · exact .inr ⟨x, y⟩
    · exact absurd x.1 h3
  · rintro (x | x)
    · exact .inr (.inl ⟨.inl x.1, x.2⟩)
    · exact .inr (.inl ⟨.inr x.1, x.2⟩))
set_option maxHeartbeats 2000000 in
theorem l11Ok_c (m : Mk) (w : World) : Calls Try.prog 62 #[.agg #[.int .i64 m.k, .int .i64 m.l, .int .i64 m.h]] w fun e w' => e = .returned (.bool (mkOk m)) ∧ Below w.heap.size w w' := by
  obtain ⟨k, l, h⟩ := m
  dsimp only
  by_cases k0 : k = 0
  · subst k0
    obtain ⟨a, ha⟩ : ∃ a, inB l 0 h = a := ⟨_, rfl⟩
    have hR := mkOk_step l h
    rw [ha] at hR
    have HR := hide hR
    have Ha := hide ha
    clear ha hR
    cases a
    · go_enter Try.func62, Try.ntmps62
      go_wp2_with (go_at_call 75; refine (l1In_c _ _ _ _).mono ?_; rintro e w' ⟨rfl, rfl⟩; rw [Ha.out])
      go_ret
      exact ⟨by rw [HR.out]; rfl, by go_grown⟩
    · go_enter Try.func62, Try.ntmps62
      go_wp2_with (go_at_call 75; refine (l1In_c _ _ _ _).mono ?_; rintro e w' ⟨rfl, rfl⟩; rw [Ha.out])
      go_ret
      exact ⟨by rw [HR.out]; rfl, by go_grown⟩
  · have k0' : (k == 0) = false := by simpa using k0
    by_cases k3 : k = 3
    · subst k3
      obtain ⟨a, ha⟩ : ∃ a, inB h 0 19 = a := ⟨_, rfl⟩
      have hR := mkOk_wth l h
      rw [ha] at hR
      have HR := hide hR
      have Ha := hide ha
      clear ha hR
      by_cases hl : l = 0
      · subst hl
        go_enter Try.func62, Try.ntmps62
        go_wp2_with (go_at_call 75; refine (l1In_c _ _ _ _).mono ?_; rintro e w' ⟨rfl, rfl⟩; rw [Ha.out])
        go_ret
        exact ⟨by rw [HR.out]; cases a <;> rfl, by go_grown⟩
      · have hl' : (l == 0) = false := by simpa using hl
        go_enter Try.func62, Try.ntmps62
        go_wp2_with (go_at_call 75; refine (l1In_c _ _ _ _).mono ?_; rintro e w' ⟨rfl, rfl⟩; rw [Ha.out])
        go_ret
        exact ⟨by rw [HR.out]; simp [hl], by go_grown⟩
    · have k3' : (k == 3) = false := by simpa using k3
      have HR := hide (mkOk_two (l := l) (h := h) k0 k3)
      clear k0 k3
      by_cases hl : l = 0
      all_goals by_cases hh : h = 0
      all_goals by_cases h1 : k = 1
      all_goals by_cases h2 : k = 2
      all_goals (try (exfalso; omega))
      all_goals (try (have hl' : (l == 0) = false := (by simpa using hl)))
      all_goals (try (have hh' : (h == 0) = false := (by simpa using hh)))
      all_goals (try (have h1' : (k == 1) = false := (by simpa using h1)))
      all_goals (try (have h2' : (k == 2) = false := (by simpa using h2)))
      all_goals (try subst hl)
      all_goals (try subst hh)
      all_goals (try subst h1)
      all_goals (try subst h2)
      all_goals
        go_enter Try.func62, Try.ntmps62
        go_wp2_with fail
        go_ret
        exact ⟨by rw [HR.out]; simp [*], by go_grown⟩
end Go.Proofs.Ytofodhdpppjaoaa
