/-
  Terms: how many points and bounds; terms back (no program).
-/
import Derived.Test.YtofodhdpppjaoaaP53
namespace Go.Proofs.Ytofodhdpppjaoaa.Pp
set_option linter.unusedVariables false
set_option linter.unusedSimpArgs false

def Tm.thens : Tm → Nat
  | step _ _ => 0
  | wth a _ => a.thens
  | thn a b => a.thens + b.thens + 1
  | bth a b => a.thens + b.thens
def Tm.withs : Tm → Nat
  | step _ _ => 0
  | wth a _ => a.withs + 1
  | thn a b => a.withs + b.withs
  | bth a b => a.withs + b.withs
/-- Time runs the other way. -/
def Tm.back : Tm → Tm
  | step l h => .step l h
  | wth a h => .wth a.back h
  | thn a b => .thn b.back a.back
  | bth a b => .bth a.back b.back
theorem tmB_next : ∀ (a : Tm) (b e f : Nat), (tmB a b e f).2 = f + a.thens
  | .step l h, b, e, f => rfl
  | .wth a h, b, e, f => tmB_next a b e f
  | .thn a c, b, e, f => by simp only [tmB, Tm.thens, tmB_next]; omega
  | .bth a c, b, e, f => by simp only [tmB, Tm.thens, tmB_next]; omega
theorem tmB_len : ∀ (a : Tm) (b e f : Nat), (tmB a b e f).1.length = 2 * a.steps + a.withs
  | .step l h, b, e, f => rfl
  | .wth a h, b, e, f => by simp only [tmB, Tm.withs, Tm.steps, List.length_append, List.length_singleton, tmB_len a]; omega
  | .thn a c, b, e, f => by simp only [tmB, Tm.withs, Tm.steps, List.length_append, tmB_len a, tmB_len c]; omega
  | .bth a c, b, e, f => by simp only [tmB, Tm.withs, Tm.steps, List.length_append, tmB_len a, tmB_len c]; omega
theorem back_steps : ∀ (a : Tm), a.back.steps = a.steps ∧ a.back.thens = a.thens ∧ a.back.withs = a.withs ∧ a.back.marks.length = a.marks.length
  | .step l h => ⟨rfl, rfl, rfl, rfl⟩
  | .wth a h => by
    obtain ⟨h1, h2, h3, h4⟩ := back_steps a
    simp only [Tm.back, Tm.steps, Tm.thens, Tm.withs, Tm.marks, List.length_append]
    omega
  | .thn a b => by
    obtain ⟨h1, h2, h3, h4⟩ := back_steps a
    obtain ⟨g1, g2, g3, g4⟩ := back_steps b
    simp only [Tm.back, Tm.steps, Tm.thens, Tm.withs, Tm.marks, List.length_append]
    omega
  | .bth a b => by
    obtain ⟨h1, h2, h3, h4⟩ := back_steps a
    obtain ⟨g1, g2, g3, g4⟩ := back_steps b
    simp only [Tm.back, Tm.steps, Tm.thens, Tm.withs, Tm.marks, List.length_append]
    omega
theorem back_fine : ∀ {a : Tm}, a.fine → a.back.fine
  | .step l h, hf => hf
  | .wth a h, hf => ⟨back_fine hf.1, hf.2⟩
  | .thn a b, hf => ⟨back_fine hf.2, back_fine hf.1⟩
  | .bth a b, hf => ⟨back_fine hf.1, back_fine hf.2⟩
theorem back_lens : ∀ (a : Tm), a.back.lens = a.lens
  | .step l h => rfl
  | .wth a h => by simp only [Tm.back, Tm.lens, back_lens a]
  | .thn a b => by
    simp only [Tm.back, Tm.lens, back_lens a, back_lens b]
    cases a.lens with
    | none => cases b.lens <;> rfl
    | some x =>
      cases b.lens with
      | none => rfl
      | some y => simp only [Option.some.injEq, Prod.mk.injEq]; omega
  | .bth a b => by simp only [Tm.back, Tm.lens, back_lens a, back_lens b]
theorem tmB_small : ∀ (a : Tm) (b e f : Nat), a.fine → ∀ x ∈ (tmB a b e f).1, -99 ≤ x.m ∧ x.m ≤ 99
  | .step l h, b, e, f, hf, x, hx => by
    obtain ⟨h1, h2, h3⟩ := hf
    simp only [tmB, List.mem_cons, List.not_mem_nil, or_false] at hx
    rcases hx with rfl | rfl <;> dsimp only <;> omega
  | .wth a h, b, e, f, hf, x, hx => by
    obtain ⟨h1, h2, h3⟩ := hf
    simp only [tmB, List.mem_append, List.mem_singleton] at hx
    rcases hx with hx | rfl
    · exact tmB_small a b e f h1 x hx
    · dsimp only; omega
  | .thn a c, b, e, f, hf, x, hx => by
    simp only [tmB, List.mem_append] at hx
    rcases hx with hx | hx
    · exact tmB_small a _ _ _ hf.1 x hx
    · exact tmB_small c _ _ _ hf.2 x hx
  | .bth a c, b, e, f, hf, x, hx => by
    simp only [tmB, List.mem_append] at hx
    rcases hx with hx | hx
    · exact tmB_small a _ _ _ hf.1 x hx
    · exact tmB_small c _ _ _ hf.2 x hx
theorem tm_ok {a : Tm} (hf : a.fine) : planOk (tmP a) = true ↔ a.thens ≤ 4 ∧ 2 * a.steps + a.withs ≤ 16 := by
  have hn : (tmP a).n = ((2 + a.thens : Nat) : Int) := by show ((tmB a 0 1 2).2 : Int) = _; rw [tmB_next]
  have hl : (tmP a).bs.length = 2 * a.steps + a.withs := tmB_len a 0 1 2
  rw [planOk_iff, hl]
  constructor
  · rintro ⟨h1, h2, -⟩
    rw [hn] at h1
    omega
  · rintro ⟨h1, h2⟩
    refine ⟨by rw [hn]; omega, h2, fun x hx => ?_⟩
    obtain ⟨i, j, e1, e2, h3, h4⟩ := tmB_lt a 0 1 2 (by omega) (by omega) x hx
    rw [tmB_next] at h3 h4
    have := tmB_small a 0 1 2 hf x hx
    rw [bdOk_iff, hn, e1, e2]
    omega
theorem tm_back {a : Tm} (hf : a.fine) : planOk (tmP a.back) = planOk (tmP a) := by
  obtain ⟨h1, h2, h3, h4⟩ := back_steps a
  rw [Bool.eq_iff_iff, tm_ok (back_fine hf), tm_ok hf, h1, h2, h3]
end Go.Proofs.Ytofodhdpppjaoaa.Pp
