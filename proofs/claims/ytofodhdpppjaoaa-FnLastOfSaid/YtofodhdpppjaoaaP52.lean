/-
  Terms: lengths of steps, narrowed terms (no program).
-/
import Derived.Test.YtofodhdpppjaoaaP51
namespace Go.Proofs.Ytofodhdpppjaoaa.Pp
set_option linter.unusedVariables false
set_option linter.unusedSimpArgs false

/-- How long a part lasts, whether that may be, and the next step. -/
def lastV : Tm → List Int → Nat → Int × Bool × Nat
  | .step l h, xs, i => (xs.getD i 0, inB (xs.getD i 0) l h, i + 1)
  | .wth a h, xs, i => ((lastV a xs i).1, (lastV a xs i).2.1 && decide ((lastV a xs i).1 ≤ h), (lastV a xs i).2.2)
  | .thn a b, xs, i => ((lastV a xs i).1 + (lastV b xs (lastV a xs i).2.2).1, (lastV a xs i).2.1 && (lastV b xs (lastV a xs i).2.2).2.1, (lastV b xs (lastV a xs i).2.2).2.2)
  | .bth a b, xs, i => ((lastV a xs i).1, (lastV a xs i).2.1 && (lastV b xs (lastV a xs i).2.2).2.1 && decide ((lastV a xs i).1 = (lastV b xs (lastV a xs i).2.2).1), (lastV b xs (lastV a xs i).2.2).2.2)
theorem lastV_next : ∀ (a : Tm) (xs : List Int) (i : Nat), (lastV a xs i).2.2 = i + a.steps
  | .step l h, xs, i => rfl
  | .wth a h, xs, i => lastV_next a xs i
  | .thn a b, xs, i => by simp only [lastV, Tm.steps]; rw [lastV_next b, lastV_next a]; omega
  | .bth a b, xs, i => by simp only [lastV, Tm.steps]; rw [lastV_next b, lastV_next a]; omega
/-- What the steps make is a length that may be. -/
theorem last_lens : ∀ {a : Tm} {xs : List Int} {i : Nat}, (lastV a xs i).2.1 = true → ∃ u v, a.lens = some (u, v) ∧ u ≤ (lastV a xs i).1 ∧ (lastV a xs i).1 ≤ v
  | .step l h, xs, i, ho => by
    have := inB_iff.1 ho
    exact ⟨l, h, rfl, this.1, this.2⟩
  | .wth a h, xs, i, ho => by
    simp only [lastV, Bool.and_eq_true, decide_eq_true_eq] at ho ⊢
    obtain ⟨u, v, hl, h1, h2⟩ := last_lens ho.1
    refine ⟨u, min v h, ?_, h1, by omega⟩
    simp only [Tm.lens, hl]
    rw [if_pos (by omega)]
  | .thn a b, xs, i, ho => by
    simp only [lastV, Bool.and_eq_true] at ho ⊢
    obtain ⟨u, v, hl, h1, h2⟩ := last_lens ho.1
    obtain ⟨u', v', hl', h3, h4⟩ := last_lens ho.2
    exact ⟨u + u', v + v', by simp only [Tm.lens, hl, hl'], by omega, by omega⟩
  | .bth a b, xs, i, ho => by
    simp only [lastV, Bool.and_eq_true, decide_eq_true_eq] at ho ⊢
    obtain ⟨u, v, hl, h1, h2⟩ := last_lens ho.1.1
    obtain ⟨u', v', hl', h3, h4⟩ := last_lens ho.1.2
    refine ⟨max u u', min v v', ?_, by omega, by omega⟩
    simp only [Tm.lens, hl, hl']
    rw [if_pos (by omega)]

/-- The lengths, 0 and 0 for none. -/
def lensD (a : Tm) : Int × Int := a.lens.getD (0, 0)
/-- A part with its steps narrowed. -/
def nar : Tm → Int → Int → Tm
  | .step l h, lo, hi => .step (max lo l) (min hi h)
  | .wth a h, lo, hi => .wth (nar a (max lo (lensD (.wth a h)).1) (min hi (lensD (.wth a h)).2)) h
  | .thn a b, lo, hi => .thn (nar a (max lo (lensD (.thn a b)).1 - (lensD b).2) (min hi (lensD (.thn a b)).2 - (lensD b).1)) (nar b (max lo (lensD (.thn a b)).1 - (lensD a).2) (min hi (lensD (.thn a b)).2 - (lensD a).1))
  | .bth a b, lo, hi => .bth (nar a (max lo (lensD (.bth a b)).1) (min hi (lensD (.bth a b)).2)) (nar b (max lo (lensD (.bth a b)).1) (min hi (lensD (.bth a b)).2))
theorem nar_next : ∀ (a : Tm) (lo hi : Int) (b e f : Nat), (tmB (nar a lo hi) b e f).2 = (tmB a b e f).2
  | .step l h, lo, hi, b, e, f => rfl
  | .wth a h, lo, hi, b, e, f => by simp only [nar, tmB]; exact nar_next a _ _ b e f
  | .thn a c, lo, hi, b, e, f => by simp only [nar, tmB, nar_next]
  | .bth a c, lo, hi, b, e, f => by simp only [nar, tmB, nar_next]
/-- A narrowed part is kept by fewer times. -/
theorem nar_imp : ∀ {a : Tm} {lo hi : Int} {b e f : Nat} {y : Nat → Int}, Sol (tmB (nar a lo hi) b e f).1 y → Sol (tmB a b e f).1 y
  | .step l h, lo, hi, b, e, f, y, hs => by
    have h1 := hs ⟨b, e, min hi h⟩ (by simp [nar, tmB])
    have h2 := hs ⟨e, b, -max lo l⟩ (by simp [nar, tmB])
    intro x hx
    simp only [tmB, List.mem_cons, List.not_mem_nil, or_false] at hx
    simp only [Int.toNat_natCast] at h1 h2
    rcases hx with rfl | rfl <;> simp only [Int.toNat_natCast] <;> omega
  | .wth a h, lo, hi, b, e, f, y, hs => by
    simp only [nar, tmB, sol_app, sol_bd] at hs ⊢
    exact ⟨nar_imp hs.1, hs.2⟩
  | .thn a c, lo, hi, b, e, f, y, hs => by
    simp only [nar, tmB, sol_app, nar_next] at hs ⊢
    exact ⟨nar_imp hs.1, nar_imp hs.2⟩
  | .bth a c, lo, hi, b, e, f, y, hs => by
    simp only [nar, tmB, sol_app, nar_next] at hs ⊢
    exact ⟨nar_imp hs.1, nar_imp hs.2⟩
/-- Times that keep a part and last within the numbers keep the narrowed part. -/
theorem nar_sol : ∀ {a : Tm} {lo hi : Int} {b e f : Nat} {y : Nat → Int}, Sol (tmB a b e f).1 y → lo ≤ y e - y b → y e - y b ≤ hi → Sol (tmB (nar a lo hi) b e f).1 y
  | .step l h, lo, hi, b, e, f, y, hs, h3, h4 => by
    have h1 := hs ⟨b, e, h⟩ (by simp [tmB])
    have h2 := hs ⟨e, b, -l⟩ (by simp [tmB])
    intro x hx
    simp only [nar, tmB, List.mem_cons, List.not_mem_nil, or_false] at hx
    simp only [Int.toNat_natCast] at h1 h2
    rcases hx with rfl | rfl <;> simp only [Int.toNat_natCast] <;> omega
  | .wth a h, lo, hi, b, e, f, y, hs, h3, h4 => by
    obtain ⟨u, v, hl, h5, h6⟩ := tm_low hs
    have hd : lensD (.wth a h) = (u, v) := by unfold lensD; rw [hl]; rfl
    simp only [nar, tmB, sol_app, sol_bd, hd] at hs ⊢
    exact ⟨nar_sol hs.1 (by omega) (by omega), hs.2⟩
  | .thn a c, lo, hi, b, e, f, y, hs, h3, h4 => by
    obtain ⟨u, v, hl, h5, h6⟩ := tm_low hs
    have hd : lensD (.thn a c) = (u, v) := by unfold lensD; rw [hl]; rfl
    simp only [tmB, sol_app] at hs
    obtain ⟨u1, v1, hl1, g1, g2⟩ := tm_low hs.1
    obtain ⟨u2, v2, hl2, g3, g4⟩ := tm_low hs.2
    have hd1 : lensD a = (u1, v1) := by unfold lensD; rw [hl1]; rfl
    have hd2 : lensD c = (u2, v2) := by unfold lensD; rw [hl2]; rfl
    simp only [nar, tmB, sol_app, nar_next, hd, hd1, hd2]
    exact ⟨nar_sol hs.1 (by omega) (by omega), nar_sol hs.2 (by omega) (by omega)⟩
  | .bth a c, lo, hi, b, e, f, y, hs, h3, h4 => by
    obtain ⟨u, v, hl, h5, h6⟩ := tm_low hs
    have hd : lensD (.bth a c) = (u, v) := by unfold lensD; rw [hl]; rfl
    simp only [nar, tmB, sol_app, nar_next, hd] at hs ⊢
    exact ⟨nar_sol hs.1 (by omega) (by omega), nar_sol hs.2 (by omega) (by omega)⟩
/-- A term that is narrowed to its own lengths is kept by the same times. -/
theorem nar_alike {a : Tm} {u v : Int} (hl : a.lens = some (u, v)) {b e f : Nat} {y : Nat → Int} : Sol (tmB (nar a u v) b e f).1 y ↔ Sol (tmB a b e f).1 y := by
  refine ⟨nar_imp, fun hs => ?_⟩
  obtain ⟨u', v', hl', h1, h2⟩ := tm_low hs
  rw [hl] at hl'
  simp only [Option.some.injEq, Prod.mk.injEq] at hl'
  exact nar_sol hs (by omega) (by omega)
theorem nar_fine : ∀ {a : Tm} {lo hi u v : Int}, a.fine → a.lens = some (u, v) → lo ≤ v → u ≤ hi → lo ≤ hi → (nar a lo hi).fine
  | .step l h, lo, hi, u, v, hf, hl, h1, h2, h3 => by
    obtain ⟨g1, g2, g3⟩ := hf
    simp only [Tm.lens, Option.some.injEq, Prod.mk.injEq] at hl
    show 0 ≤ max lo l ∧ max lo l ≤ min hi h ∧ min hi h ≤ 19
    omega
  | .wth a h, lo, hi, u, v, hf, hl, h1, h2, h3 => by
    have huv := lens_le hf hl
    have hd : lensD (.wth a h) = (u, v) := by unfold lensD; rw [hl]; rfl
    simp only [Tm.lens] at hl
    split at hl
    · rename_i x y hx
      split at hl
      · simp only [Option.some.injEq, Prod.mk.injEq] at hl
        simp only [nar, hd]
        exact ⟨nar_fine hf.1 hx (by omega) (by omega) (by omega), hf.2⟩
      · simp at hl
    · simp at hl
  | .thn a b, lo, hi, u, v, hf, hl, h1, h2, h3 => by
    have huv := lens_le hf hl
    have hd : lensD (.thn a b) = (u, v) := by unfold lensD; rw [hl]; rfl
    simp only [Tm.lens] at hl
    split at hl
    · rename_i x1 v1 x2 v2 hx1 hx2
      simp only [Option.some.injEq, Prod.mk.injEq] at hl
      have l1 := lens_le hf.1 hx1
      have l2 := lens_le hf.2 hx2
      have hd1 : lensD a = (x1, v1) := by unfold lensD; rw [hx1]; rfl
      have hd2 : lensD b = (x2, v2) := by unfold lensD; rw [hx2]; rfl
      simp only [nar, hd, hd1, hd2]
      exact ⟨nar_fine hf.1 hx1 (by omega) (by omega) (by omega), nar_fine hf.2 hx2 (by omega) (by omega) (by omega)⟩
    · simp at hl
  | .bth a b, lo, hi, u, v, hf, hl, h1, h2, h3 => by
    have huv := lens_le hf hl
    have hd : lensD (.bth a b) = (u, v) := by unfold lensD; rw [hl]; rfl
    simp only [Tm.lens] at hl
    split at hl
    · rename_i x1 v1 x2 v2 hx1 hx2
      split at hl
      · simp only [Option.some.injEq, Prod.mk.injEq] at hl
        simp only [nar, hd]
        exact ⟨nar_fine hf.1 hx1 (by omega) (by omega) (by omega), nar_fine hf.2 hx2 (by omega) (by omega) (by omega)⟩
      · simp at hl
    · simp at hl
theorem nar_marks : ∀ (a : Tm) (lo hi : Int), (nar a lo hi).marks.length = a.marks.length
  | .step l h, lo, hi => rfl
  | .wth a h, lo, hi => by simp [nar, Tm.marks, nar_marks a]
  | .thn a b, lo, hi => by simp [nar, Tm.marks, nar_marks a, nar_marks b]
  | .bth a b, lo, hi => by simp [nar, Tm.marks, nar_marks a, nar_marks b]
end Go.Proofs.Ytofodhdpppjaoaa.Pp
