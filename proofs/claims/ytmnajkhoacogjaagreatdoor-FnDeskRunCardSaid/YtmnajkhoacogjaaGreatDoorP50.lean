/-
 Terms (no program).
 The plan of a term (no program).
 Terms: lengths of steps, narrowed terms (no program).
 The plan of a term and its lengths (no program).
 Terms: how many points and bounds; terms back (no program).
 Terms: where a part begins (no program).
-/
import Derived.Test.YtmnajkhoacogjaaGreatDoorP2

namespace Go.Proofs.YtmnajkhoacogjaaGreatDoor.Pp
set_option linter.unusedVariables false
set_option linter.unusedSimpArgs false

structure Mk where
 k : Int
 l : Int
 h : Int
deriving DecidableEq, Repr
inductive Tm where
 | step (l h : Int)
 | wth (a : Tm) (h : Int)
 | thn (a b : Tm)
 | bth (a b : Tm)
deriving DecidableEq, Repr
namespace Tm
/-- The marks of a part. -/
def marks : Tm → List Mk
 | step l h => [⟨0, l, h⟩]
 | wth a h => a.marks ++ [⟨3, 0, h⟩]
 | thn a b => a.marks ++ b.marks ++ [⟨1, 0, 0⟩]
 | bth a b => a.marks ++ b.marks ++ [⟨2, 0, 0⟩]
def fine : Tm → Prop
 | step l h => 0 ≤ l ∧ l ≤ h ∧ h ≤ 19
 | wth a h => a.fine ∧ 0 ≤ h ∧ h ≤ 19
 | thn a b => a.fine ∧ b.fine
 | bth a b => a.fine ∧ b.fine
def steps : Tm → Nat
 | step _ _ => 1
 | wth a _ => a.steps
 | thn a b => a.steps + b.steps
 | bth a b => a.steps + b.steps
end Tm
/-- One mark behind parts (the last part first). -/
def pushM (st : List Tm) (m : Mk) : Option (List Tm) :=
 if m.k = 0 then (if 0 ≤ m.l ∧ m.l ≤ m.h ∧ m.h ≤ 19 then some (.step m.l m.h :: st) else none)
 else if m.k = 3 then (if m.l = 0 ∧ 0 ≤ m.h ∧ m.h ≤ 19 then (match st with | a :: st => some (.wth a m.h :: st) | _ => none) else none)
 else if m.k = 1 then (if m.l = 0 ∧ m.h = 0 then (match st with | b :: a :: st => some (.thn a b :: st) | _ => none) else none)
 else if m.k = 2 then (if m.l = 0 ∧ m.h = 0 then (match st with | b :: a :: st => some (.bth a b :: st) | _ => none) else none)
 else none
def runM : List Mk → List Tm → Option (List Tm)
 | [], st => some st
 | m :: t, st => match pushM st m with
   | some st => runM t st
   | none => none
/-- The part of a whole term. -/
def termOf (t : List Mk) : Option Tm :=
 if t.length ≤ 11 then (match runM t [] with | some [a] => some a | _ => none) else none
theorem runM_append : ∀ (t u : List Mk) (st : List Tm), runM (t ++ u) st = (runM t st).bind (runM u)
 | [], u, st => rfl
 | m :: t, u, st => by
   simp only [List.cons_append, runM]
   cases pushM st m with
   | none => rfl
   | some s => exact runM_append t u s
/-- What lies on the stack are fine parts, and their marks are what was read. -/
theorem run_back : ∀ (t : List Mk) (st st' : List Tm), runM t st = some st' → (∀ a ∈ st, a.fine) → (∀ a ∈ st', a.fine) ∧ (st'.reverse.map Tm.marks).flatten = (st.reverse.map Tm.marks).flatten ++ t
 | [], st, st', h, hf => by
   simp only [runM, Option.some.injEq] at h
   subst h
   exact ⟨hf, by simp⟩
 | m :: t, st, st', h, hf => by
   simp only [runM] at h
   cases hp : pushM st m with
   | none => rw [hp] at h; simp at h
   | some s =>
     rw [hp] at h
     have key : (∀ a ∈ s, a.fine) ∧ (s.reverse.map Tm.marks).flatten = (st.reverse.map Tm.marks).flatten ++ [m] := by
      obtain ⟨mk, ml, mh⟩ := m
      unfold pushM at hp
      dsimp only at hp
      split at hp
      ·rename_i e; subst e
       split at hp
       ·rename_i e2
        simp only [Option.some.injEq] at hp
        subst hp
        refine ⟨fun a ha => ?_, by simp [Tm.marks]⟩
        rcases List.mem_cons.1 ha with rfl | ha
        ·exact e2
        ·exact hf a ha
       ·simp at hp
      ·split at hp
       ·rename_i e; subst e
        split at hp
        ·rename_i e2
         obtain ⟨rfl, e2⟩ := e2
         split at hp
         ·simp only [Option.some.injEq] at hp
          subst hp
          refine ⟨fun a ha => ?_, by simp [Tm.marks]⟩
          rcases List.mem_cons.1 ha with rfl | ha
          ·exact ⟨hf _ (by simp), e2⟩
          ·exact hf a (by simp [ha])
         ·simp at hp
        ·simp at hp
       ·split at hp
        ·rename_i e; subst e
         split at hp
         ·rename_i e2
          obtain ⟨rfl, rfl⟩ := e2
          split at hp
          ·simp only [Option.some.injEq] at hp
           subst hp
           refine ⟨fun a ha => ?_, by simp [Tm.marks]⟩
           rcases List.mem_cons.1 ha with rfl | ha
           ·exact ⟨hf _ (by simp), hf _ (by simp)⟩
           ·exact hf a (by simp [ha])
          ·simp at hp
         ·simp at hp
        ·split at hp
         ·rename_i e; subst e
          split at hp
          ·rename_i e2
           obtain ⟨rfl, rfl⟩ := e2
           split at hp
           ·simp only [Option.some.injEq] at hp
            subst hp
            refine ⟨fun a ha => ?_, by simp [Tm.marks]⟩
            rcases List.mem_cons.1 ha with rfl | ha
            ·exact ⟨hf _ (by simp), hf _ (by simp)⟩
            ·exact hf a (by simp [ha])
           ·simp at hp
          ·simp at hp
         ·simp at hp
     obtain ⟨k1, k2⟩ := key
     obtain ⟨r1, r2⟩ := run_back t s st' h k1
     exact ⟨r1, by rw [r2, k2]; simp⟩
theorem term_back {t : List Mk} {a : Tm} (h : termOf t = some a) : a.fine ∧ a.marks = t ∧ t.length ≤ 11 := by
 unfold termOf at h
 split at h
 ·rename_i hl
  cases hr : runM t [] with
  | none => rw [hr] at h; simp at h
  | some s =>
    rw [hr] at h
    obtain ⟨r1, r2⟩ := run_back t [] s hr (by simp)
    split at h
    ·rename_i x hx
     simp only [Option.some.injEq] at h hx
     subst h
     subst hx
     exact ⟨r1 _ (by simp), by simpa using r2, hl⟩
    ·simp at h
 ·simp at h
/-- The bounds of a part between two points, and the next free point. -/
def tmB : Tm → Nat → Nat → Nat → List Bd × Nat
 | .step l h, b, e, f => ([⟨b, e, h⟩, ⟨e, b, -l⟩], f)
 | .wth a h, b, e, f => ((tmB a b e f).1 ++ [⟨b, e, h⟩], (tmB a b e f).2)
 | .thn a c, b, e, f => ((tmB a b f (f + 1)).1 ++ (tmB c f e (tmB a b f (f + 1)).2).1, (tmB c f e (tmB a b f (f + 1)).2).2)
 | .bth a c, b, e, f => ((tmB a b e f).1 ++ (tmB c b e (tmB a b e f).2).1, (tmB c b e (tmB a b e f).2).2)
/-- How long a part lasts, whether that may be, and the next step. -/
def lastV : Tm → List Int → Nat → Int × Bool × Nat
 | .step l h, xs, i => (xs.getD i 0, inB (xs.getD i 0) l h, i + 1)
 | .wth a h, xs, i => ((lastV a xs i).1, (lastV a xs i).2.1 && decide ((lastV a xs i).1 ≤ h), (lastV a xs i).2.2)
 | .thn a b, xs, i => ((lastV a xs i).1 + (lastV b xs (lastV a xs i).2.2).1, (lastV a xs i).2.1 && (lastV b xs (lastV a xs i).2.2).2.1, (lastV b xs (lastV a xs i).2.2).2.2)
 | .bth a b, xs, i => ((lastV a xs i).1, (lastV a xs i).2.1 && (lastV b xs (lastV a xs i).2.2).2.1 && decide ((lastV a xs i).1 = (lastV b xs (lastV a xs i).2.2).1), (lastV b xs (lastV a xs i).2.2).2.2)
def tmP (a : Tm) : Pl := ⟨((tmB a 0 1 2).2 : Int), (tmB a 0 1 2).1⟩
def Tm.thens : Tm → Nat
 | step _ _ => 0
 | wth a _ => a.thens
 | thn a b => a.thens + b.thens + 1
 | bth a b => a.thens + b.thens
def Tm.withs : Tm → Nat
 | step _ _ => 0
 | wth a _ => a.withs + 1
 | thn a b => a.withs + b.withs
 | bth a b => a.withs + b.withs
theorem tmB_next : ∀ (a : Tm) (b e f : Nat), (tmB a b e f).2 = f + a.thens
 | .step l h, b, e, f => rfl
 | .wth a h, b, e, f => tmB_next a b e f
 | .thn a c, b, e, f => by simp only [tmB, Tm.thens, tmB_next]; omega
 | .bth a c, b, e, f => by simp only [tmB, Tm.thens, tmB_next]; omega
theorem tmB_len : ∀ (a : Tm) (b e f : Nat), (tmB a b e f).1.length = 2 * a.steps + a.withs
 | .step l h, b, e, f => rfl
 | .wth a h, b, e, f => by simp only [tmB, Tm.withs, Tm.steps, List.length_append, List.length_singleton, tmB_len a]; omega
 | .thn a c, b, e, f => by simp only [tmB, Tm.withs, Tm.steps, List.length_append, tmB_len a, tmB_len c]; omega
 | .bth a c, b, e, f => by simp only [tmB, Tm.withs, Tm.steps, List.length_append, tmB_len a, tmB_len c]; omega
def wgt (m : Mk) : Int := if m.k = 0 then -1 else if m.k = 3 then 0 else 1
def sumW : List Mk → Int
 | [] => 0
 | m :: l => wgt m + sumW l
theorem sumW_append : ∀ (a b : List Mk), sumW (a ++ b) = sumW a + sumW b
 | [], b => by simp [sumW]
 | m :: a, b => by simp only [List.cons_append, sumW, sumW_append a b]; omega
theorem sumW_marks : ∀ a : Tm, sumW a.marks = -1
 | .step l h => by simp [Tm.marks, sumW, wgt]
 | .wth a h => by simp [Tm.marks, sumW_append, sumW_marks a, sumW, wgt]
 | .thn a b => by simp [Tm.marks, sumW_append, sumW_marks a, sumW_marks b, sumW, wgt]
 | .bth a b => by simp [Tm.marks, sumW_append, sumW_marks a, sumW_marks b, sumW, wgt]
theorem split_last {p s l : List Mk} {m : Mk} (h : l ++ [m] = p ++ s) (hs : s ≠ []) : ∃ s', s = s' ++ [m] ∧ l = p ++ s' := by
 obtain ⟨s', x, rfl⟩ : ∃ s' x, s = s' ++ [x] := ⟨s.dropLast, s.getLast hs, (List.dropLast_concat_getLast hs).symm⟩
 rw [← List.append_assoc] at h
 have := List.append_inj' h rfl
 have e := this.2
 simp only [List.cons.injEq, and_true] at e
 subst e
 exact ⟨s', rfl, this.1⟩
/-- The marks behind some of a part ask for no less. -/
theorem sumW_back : ∀ (a : Tm) (p s : List Mk), a.marks = p ++ s → p ≠ [] → 0 ≤ sumW s
 | .step l h, p, s, e, hp => by
   cases p with
   | nil => exact absurd rfl hp
   | cons x p =>
     simp only [Tm.marks, List.cons_append, List.cons.injEq] at e
     have : s = [] := by have := e.2; simp at this; exact this.2
     subst this
     exact Int.le_refl _
 | .wth a h, p, s, e, hp => by
   by_cases hs : s = []
   ·subst hs; exact Int.le_refl _
   ·obtain ⟨s', rfl, e2⟩ := split_last e hs
    have := sumW_back a p s' e2 hp
    rw [sumW_append]
    simp [sumW, wgt]; omega
 | .thn a b, p, s, e, hp => by
   by_cases hs : s = []
   ·subst hs; exact Int.le_refl _
   ·obtain ⟨s', rfl, e2⟩ := split_last e hs
    rw [sumW_append]
    have h1 : sumW [(⟨1, 0, 0⟩ : Mk)] = 1 := by simp [sumW, wgt]
    rw [h1]
    rcases List.append_eq_append_iff.1 e2 with ⟨q, e3, e4⟩ | ⟨q, e3, e4⟩
    ·by_cases hq : q = []
     ·subst hq
      simp only [List.nil_append] at e4
      rw [← e4, sumW_marks]
      omega
     ·have := sumW_back b q s' e4 hq
      omega
    ·have := sumW_back a p q e3 hp
     rw [e4, sumW_append, sumW_marks]; omega
 | .bth a b, p, s, e, hp => by
   by_cases hs : s = []
   ·subst hs; exact Int.le_refl _
   ·obtain ⟨s', rfl, e2⟩ := split_last e hs
    rw [sumW_append]
    have h1 : sumW [(⟨2, 0, 0⟩ : Mk)] = 1 := by simp [sumW, wgt]
    rw [h1]
    rcases List.append_eq_append_iff.1 e2 with ⟨q, e3, e4⟩ | ⟨q, e3, e4⟩
    ·by_cases hq : q = []
     ·subst hq
      simp only [List.nil_append] at e4
      rw [← e4, sumW_marks]
      omega
     ·have := sumW_back b q s' e4 hq
      omega
    ·have := sumW_back a p q e3 hp
     rw [e4, sumW_append, sumW_marks]; omega
/-- How many marks of a kind. -/
def cntK (k : Int) : List Mk → Nat
 | [] => 0
 | m :: l => (if m.k = k then 1 else 0) + cntK k l
theorem cntK_append (k : Int) : ∀ (a b : List Mk), cntK k (a ++ b) = cntK k a + cntK k b
 | [], b => by simp [cntK]
 | m :: a, b => by simp only [List.cons_append, cntK, cntK_append k a b]; omega
theorem cntK_marks : ∀ a : Tm, cntK 0 a.marks = a.steps ∧ cntK 1 a.marks = a.thens ∧ cntK 3 a.marks = a.withs
 | .step l h => by simp [Tm.marks, cntK, Tm.steps, Tm.thens, Tm.withs]
 | .wth a h => by
   obtain ⟨h1, h2, h3⟩ := cntK_marks a
   simp [Tm.marks, cntK_append, cntK, Tm.steps, Tm.thens, Tm.withs, h1, h2, h3]
 | .thn a b => by
   obtain ⟨h1, h2, h3⟩ := cntK_marks a
   obtain ⟨g1, g2, g3⟩ := cntK_marks b
   simp [Tm.marks, cntK_append, cntK, Tm.steps, Tm.thens, Tm.withs, h1, h2, h3, g1, g2, g3]
   omega
 | .bth a b => by
   obtain ⟨h1, h2, h3⟩ := cntK_marks a
   obtain ⟨g1, g2, g3⟩ := cntK_marks b
   simp [Tm.marks, cntK_append, cntK, Tm.steps, Tm.thens, Tm.withs, h1, h2, h3, g1, g2, g3]
end Go.Proofs.YtmnajkhoacogjaaGreatDoor.Pp
