/-
  Terms (no program).
-/
import Derived.Test.YtofodhdpppjaoaaP2
namespace Go.Proofs.Ytofodhdpppjaoaa.Pp
set_option linter.unusedVariables false
set_option linter.unusedSimpArgs false

structure Mk where
  k : Int
  l : Int
  h : Int
deriving DecidableEq, Repr
inductive Tm where
  | step (l h : Int)
  | wth (a : Tm) (h : Int)
  | thn (a b : Tm)
  | bth (a b : Tm)
deriving DecidableEq, Repr
namespace Tm
/-- The marks of a part. -/
def marks : Tm → List Mk
  | step l h => [⟨0, l, h⟩]
  | wth a h => a.marks ++ [⟨3, 0, h⟩]
  | thn a b => a.marks ++ b.marks ++ [⟨1, 0, 0⟩]
  | bth a b => a.marks ++ b.marks ++ [⟨2, 0, 0⟩]
def fine : Tm → Prop
  | step l h => 0 ≤ l ∧ l ≤ h ∧ h ≤ 19
  | wth a h => a.fine ∧ 0 ≤ h ∧ h ≤ 19
  | thn a b => a.fine ∧ b.fine
  | bth a b => a.fine ∧ b.fine
/-- From how long up to how long it may last. -/
def lens : Tm → Option (Int × Int)
  | step l h => some (l, h)
  | wth a h => match a.lens with
    | some (x, y) => if x ≤ h then some (x, min y h) else none
    | none => none
  | thn a b => match a.lens, b.lens with
    | some (x, y), some (u, v) => some (x + u, y + v)
    | _, _ => none
  | bth a b => match a.lens, b.lens with
    | some (x, y), some (u, v) => if max x u ≤ min y v then some (max x u, min y v) else none
    | _, _ => none
def steps : Tm → Nat
  | step _ _ => 1
  | wth a _ => a.steps
  | thn a b => a.steps + b.steps
  | bth a b => a.steps + b.steps
end Tm
/-- One mark behind parts (the last part first). -/
def pushM (st : List Tm) (m : Mk) : Option (List Tm) :=
  if m.k = 0 then (if 0 ≤ m.l ∧ m.l ≤ m.h ∧ m.h ≤ 19 then some (.step m.l m.h :: st) else none)
  else if m.k = 3 then (if m.l = 0 ∧ 0 ≤ m.h ∧ m.h ≤ 19 then (match st with | a :: st => some (.wth a m.h :: st) | _ => none) else none)
  else if m.k = 1 then (if m.l = 0 ∧ m.h = 0 then (match st with | b :: a :: st => some (.thn a b :: st) | _ => none) else none)
  else if m.k = 2 then (if m.l = 0 ∧ m.h = 0 then (match st with | b :: a :: st => some (.bth a b :: st) | _ => none) else none)
  else none
def runM : List Mk → List Tm → Option (List Tm)
  | [], st => some st
  | m :: t, st => match pushM st m with
    | some st => runM t st
    | none => none
/-- The part of a whole term. -/
def termOf (t : List Mk) : Option Tm :=
  if t.length ≤ 11 then (match runM t [] with | some [a] => some a | _ => none) else none
theorem runM_append : ∀ (t u : List Mk) (st : List Tm), runM (t ++ u) st = (runM t st).bind (runM u)
  | [], u, st => rfl
  | m :: t, u, st => by
    simp only [List.cons_append, runM]
    cases pushM st m with
    | none => rfl
    | some s => exact runM_append t u s
theorem run_marks : ∀ (a : Tm), a.fine → ∀ st, runM a.marks st = some (a :: st)
  | .step l h, hf, st => by
    have hf' : 0 ≤ l ∧ l ≤ h ∧ h ≤ 19 := hf
    simp [Tm.marks, runM, pushM, hf']
  | .wth a h, hf, st => by
    obtain ⟨h1, h2, h3⟩ := hf
    simp [Tm.marks, runM_append, run_marks a h1, runM, pushM, h2, h3]
  | .thn a b, hf, st => by
    simp [Tm.marks, runM_append, run_marks a hf.1, run_marks b hf.2, runM, pushM]
  | .bth a b, hf, st => by
    simp [Tm.marks, runM_append, run_marks a hf.1, run_marks b hf.2, runM, pushM]
/-- What lies on the stack are fine parts, and their marks are what was read. -/
theorem run_back : ∀ (t : List Mk) (st st' : List Tm), runM t st = some st' → (∀ a ∈ st, a.fine) → (∀ a ∈ st', a.fine) ∧ (st'.reverse.map Tm.marks).flatten = (st.reverse.map Tm.marks).flatten ++ t
  | [], st, st', h, hf => by
    simp only [runM, Option.some.injEq] at h
    subst h
    exact ⟨hf, by simp⟩
  | m :: t, st, st', h, hf => by
    simp only [runM] at h
    cases hp : pushM st m with
    | none => rw [hp] at h; simp at h
    | some s =>
      rw [hp] at h
      have key : (∀ a ∈ s, a.fine) ∧ (s.reverse.map Tm.marks).flatten = (st.reverse.map Tm.marks).flatten ++ [m] := by
        obtain ⟨mk, ml, mh⟩ := m
        unfold pushM at hp
        dsimp only at hp
        split at hp
        · rename_i e; subst e
          split at hp
          · rename_i e2
            simp only [Option.some.injEq] at hp
            subst hp
            refine ⟨fun a ha => ?_, by simp [Tm.marks]⟩
            rcases List.mem_cons.1 ha with rfl | ha
            · exact e2
            · exact hf a ha
          · simp at hp
        · split at hp
          · rename_i e; subst e
            split at hp
            · rename_i e2
              obtain ⟨rfl, e2⟩ := e2
              split at hp
              · simp only [Option.some.injEq] at hp
                subst hp
                refine ⟨fun a ha => ?_, by simp [Tm.marks]⟩
                rcases List.mem_cons.1 ha with rfl | ha
                · exact ⟨hf _ (by simp), e2⟩
                · exact hf a (by simp [ha])
              · simp at hp
            · simp at hp
          · split at hp
            · rename_i e; subst e
              split at hp
              · rename_i e2
                obtain ⟨rfl, rfl⟩ := e2
                split at hp
                · simp only [Option.some.injEq] at hp
                  subst hp
                  refine ⟨fun a ha => ?_, by simp [Tm.marks]⟩
                  rcases List.mem_cons.1 ha with rfl | ha
                  · exact ⟨hf _ (by simp), hf _ (by simp)⟩
                  · exact hf a (by simp [ha])
                · simp at hp
              · simp at hp
            · split at hp
              · rename_i e; subst e
                split at hp
                · rename_i e2
                  obtain ⟨rfl, rfl⟩ := e2
                  split at hp
                  · simp only [Option.some.injEq] at hp
                    subst hp
                    refine ⟨fun a ha => ?_, by simp [Tm.marks]⟩
                    rcases List.mem_cons.1 ha with rfl | ha
                    · exact ⟨hf _ (by simp), hf _ (by simp)⟩
                    · exact hf a (by simp [ha])
                  · simp at hp
                · simp at hp
              · simp at hp
      obtain ⟨k1, k2⟩ := key
      obtain ⟨r1, r2⟩ := run_back t s st' h k1
      exact ⟨r1, by rw [r2, k2]; simp⟩
theorem term_back {t : List Mk} {a : Tm} (h : termOf t = some a) : a.fine ∧ a.marks = t ∧ t.length ≤ 11 := by
  unfold termOf at h
  split at h
  · rename_i hl
    cases hr : runM t [] with
    | none => rw [hr] at h; simp at h
    | some s =>
      rw [hr] at h
      obtain ⟨r1, r2⟩ := run_back t [] s hr (by simp)
      split at h
      · rename_i x hx
        simp only [Option.some.injEq] at h hx
        subst h
        subst hx
        exact ⟨r1 _ (by simp), by simpa using r2, hl⟩
      · simp at h
  · simp at h
theorem term_marks {a : Tm} (hf : a.fine) (hl : a.marks.length ≤ 11) : termOf a.marks = some a := by
  unfold termOf
  rw [if_pos hl, run_marks a hf]
end Go.Proofs.Ytofodhdpppjaoaa.Pp
