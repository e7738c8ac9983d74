/-
  Terms (no program).
  The plan of a term (no program).
  Terms: lengths of steps, narrowed terms (no program).
  The plan of a term and its lengths (no program).
  Terms: how many points and bounds; terms back (no program).
  Terms: where a part begins (no program).
-/
import Derived.Test.YtmnajkhoacogjaaP2

namespace Go.Proofs.Ytmnajkhoacogjaa.Pp
set_option linter.unusedVariables false
set_option linter.unusedSimpArgs false

structure Mk where
  k : Int
  l : Int
  h : Int
deriving DecidableEq, Repr
inductive Tm where
  | step (l h : Int)
  | wth (a : Tm) (h : Int)
  | thn (a b : Tm)
  | bth (a b : Tm)
deriving DecidableEq, Repr
namespace Tm
/-- The marks of a part. -/
def marks : Tm → List Mk
  | step l h => [⟨0, l, h⟩]
  | wth a h => a.marks ++ [⟨3, 0, h⟩]
  | thn a b => a.marks ++ b.marks ++ [⟨1, 0, 0⟩]
  | bth a b => a.marks ++ b.marks ++ [⟨2, 0, 0⟩]
def fine : Tm → Prop
  | step l h => 0 ≤ l ∧ l ≤ h ∧ h ≤ 19
  | wth a h => a.fine ∧ 0 ≤ h ∧ h ≤ 19
  | thn a b => a.fine ∧ b.fine
  | bth a b => a.fine ∧ b.fine
/-- From how long up to how long it may last. -/
def lens : Tm → Option (Int × Int)
  | step l h => some (l, h)
  | wth a h => match a.lens with
    | some (x, y) => if x ≤ h then some (x, min y h) else none
    | none => none
  | thn a b => match a.lens, b.lens with
    | some (x, y), some (u, v) => some (x + u, y + v)
    | _, _ => none
  | bth a b => match a.lens, b.lens with
    | some (x, y), some (u, v) => if max x u ≤ min y v then some (max x u, min y v) else none
    | _, _ => none
def steps : Tm → Nat
  | step _ _ => 1
  | wth a _ => a.steps
  | thn a b => a.steps + b.steps
  | bth a b => a.steps + b.steps
end Tm
/-- One mark behind parts (the last part first). -/
def pushM (st : List Tm) (m : Mk) : Option (List Tm) :=
  if m.k = 0 then (if 0 ≤ m.l ∧ m.l ≤ m.h ∧ m.h ≤ 19 then some (.step m.l m.h :: st) else none)
  else if m.k = 3 then (if m.l = 0 ∧ 0 ≤ m.h ∧ m.h ≤ 19 then (match st with | a :: st => some (.wth a m.h :: st) | _ => none) else none)
  else if m.k = 1 then (if m.l = 0 ∧ m.h = 0 then (match st with | b :: a :: st => some (.thn a b :: st) | _ => none) else none)
  else if m.k = 2 then (if m.l = 0 ∧ m.h = 0 then (match st with | b :: a :: st => some (.bth a b :: st) | _ => none) else none)
  else none
def runM : List Mk → List Tm → Option (List Tm)
  | [], st => some st
  | m :: t, st => match pushM st m with
    | some st => runM t st
    | none => none
/-- The part of a whole term. -/
def termOf (t : List Mk) : Option Tm :=
  if t.length ≤ 11 then (match runM t [] with | some [a] => some a | _ => none) else none
theorem runM_append : ∀ (t u : List Mk) (st : List Tm), runM (t ++ u) st = (runM t st).bind (runM u)
  | [], u, st => rfl
  | m :: t, u, st => by
    simp only [List.cons_append, runM]
    cases pushM st m with
    | none => rfl
    | some s => exact runM_append t u s
theorem run_marks : ∀ (a : Tm), a.fine → ∀ st, runM a.marks st = some (a :: st)
  | .step l h, hf, st => by
    have hf' : 0 ≤ l ∧ l ≤ h ∧ h ≤ 19 := hf
    simp [Tm.marks, runM, pushM, hf']
  | .wth a h, hf, st => by
    obtain ⟨h1, h2, h3⟩ := hf
    simp [Tm.marks, runM_append, run_marks a h1, runM, pushM, h2, h3]
  | .thn a b, hf, st => by
    simp [Tm.marks, runM_append, run_marks a hf.1, run_marks b hf.2, runM, pushM]
  | .bth a b, hf, st => by
    simp [Tm.marks, runM_append, run_marks a hf.1, run_marks b hf.2, runM, pushM]
/-- What lies on the stack are fine parts, and their marks are what was read. -/
theorem run_back : ∀ (t : List Mk) (st st' : List Tm), runM t st = some st' → (∀ a ∈ st, a.fine) → (∀ a ∈ st', a.fine) ∧ (st'.reverse.map Tm.marks).flatten = (st.reverse.map Tm.marks).flatten ++ t
  | [], st, st', h, hf => by
    simp only [runM, Option.some.injEq] at h
    subst h
    exact ⟨hf, by simp⟩
  | m :: t, st, st', h, hf => by
    simp only [runM] at h
    cases hp : pushM st m with
    | none => rw [hp] at h; simp at h
    | some s =>
      rw [hp] at h
      have key : (∀ a ∈ s, a.fine) ∧ (s.reverse.map Tm.marks).flatten = (st.reverse.map Tm.marks).flatten ++ [m] := by
        obtain ⟨mk, ml, mh⟩ := m
        unfold pushM at hp
        dsimp only at hp
        split at hp
        · rename_i e; subst e
          split at hp
          · rename_i e2
            simp only [Option.some.injEq] at hp
            subst hp
            refine ⟨fun a ha => ?_, by simp [Tm.marks]⟩
            rcases List.mem_cons.1 ha with rfl | ha
            · exact e2
            · exact hf a ha
          · simp at hp
        · split at hp
          · rename_i e; subst e
            split at hp
            · rename_i e2
              obtain ⟨rfl, e2⟩ := e2
              split at hp
              · simp only [Option.some.injEq] at hp
                subst hp
                refine ⟨fun a ha => ?_, by simp [Tm.marks]⟩
                rcases List.mem_cons.1 ha with rfl | ha
                · exact ⟨hf _ (by simp), e2⟩
                · exact hf a (by simp [ha])
              · simp at hp
            · simp at hp
          · split at hp
            · rename_i e; subst e
              split at hp
              · rename_i e2
                obtain ⟨rfl, rfl⟩ := e2
                split at hp
                · simp only [Option.some.injEq] at hp
                  subst hp
                  refine ⟨fun a ha => ?_, by simp [Tm.marks]⟩
                  rcases List.mem_cons.1 ha with rfl | ha
                  · exact ⟨hf _ (by simp), hf _ (by simp)⟩
                  · exact hf a (by simp [ha])
                · simp at hp
              · simp at hp
            · split at hp
              · rename_i e; subst e
                split at hp
                · rename_i e2
                  obtain ⟨rfl, rfl⟩ := e2
                  split at hp
                  · simp only [Option.some.injEq] at hp
                    subst hp
                    refine ⟨fun a ha => ?_, by simp [Tm.marks]⟩
                    rcases List.mem_cons.1 ha with rfl | ha
                    · exact ⟨hf _ (by simp), hf _ (by simp)⟩
                    · exact hf a (by simp [ha])
                  · simp at hp
                · simp at hp
              · simp at hp
      obtain ⟨k1, k2⟩ := key
      obtain ⟨r1, r2⟩ := run_back t s st' h k1
      exact ⟨r1, by rw [r2, k2]; simp⟩
theorem term_back {t : List Mk} {a : Tm} (h : termOf t = some a) : a.fine ∧ a.marks = t ∧ t.length ≤ 11 := by
  unfold termOf at h
  split at h
  · rename_i hl
    cases hr : runM t [] with
    | none => rw [hr] at h; simp at h
    | some s =>
      rw [hr] at h
      obtain ⟨r1, r2⟩ := run_back t [] s hr (by simp)
      split at h
      · rename_i x hx
        simp only [Option.some.injEq] at h hx
        subst h
        subst hx
        exact ⟨r1 _ (by simp), by simpa using r2, hl⟩
      · simp at h
  · simp at h
theorem term_marks {a : Tm} (hf : a.fine) (hl : a.marks.length ≤ 11) : termOf a.marks = some a := by
  unfold termOf
  rw [if_pos hl, run_marks a hf]
end Go.Proofs.Ytmnajkhoacogjaa.Pp

namespace Go.Proofs.Ytmnajkhoacogjaa.Pp

/-- The bounds of a part between two points, and the next free point. -/
def tmB : Tm → Nat → Nat → Nat → List Bd × Nat
  | .step l h, b, e, f => ([⟨b, e, h⟩, ⟨e, b, -l⟩], f)
  | .wth a h, b, e, f => ((tmB a b e f).1 ++ [⟨b, e, h⟩], (tmB a b e f).2)
  | .thn a c, b, e, f => ((tmB a b f (f + 1)).1 ++ (tmB c f e (tmB a b f (f + 1)).2).1, (tmB c f e (tmB a b f (f + 1)).2).2)
  | .bth a c, b, e, f => ((tmB a b e f).1 ++ (tmB c b e (tmB a b e f).2).1, (tmB c b e (tmB a b e f).2).2)
theorem tmB_free : ∀ (a : Tm) (b e f : Nat), f ≤ (tmB a b e f).2
  | .step l h, b, e, f => Nat.le_refl _
  | .wth a h, b, e, f => tmB_free a b e f
  | .thn a c, b, e, f => by
    have h1 := tmB_free a b f (f + 1)
    have h2 := tmB_free c f e (tmB a b f (f + 1)).2
    simp only [tmB]; omega
  | .bth a c, b, e, f => by
    have h1 := tmB_free a b e f
    have h2 := tmB_free c b e (tmB a b e f).2
    simp only [tmB]; omega
/-- All points of its bounds lie below the next free one. -/
theorem tmB_lt : ∀ (a : Tm) (b e f : Nat), b < f → e < f → ∀ x ∈ (tmB a b e f).1, ∃ i j : Nat, x.f = i ∧ x.t = j ∧ i < (tmB a b e f).2 ∧ j < (tmB a b e f).2
  | .step l h, b, e, f, hb, he, x, hx => by
    simp only [tmB, List.mem_cons, List.not_mem_nil, or_false] at hx
    rcases hx with rfl | rfl
    · exact ⟨b, e, rfl, rfl, hb, he⟩
    · exact ⟨e, b, rfl, rfl, he, hb⟩
  | .wth a h, b, e, f, hb, he, x, hx => by
    have hf := tmB_free a b e f
    simp only [tmB, List.mem_append, List.mem_singleton] at hx ⊢
    rcases hx with hx | rfl
    · exact tmB_lt a b e f hb he x hx
    · exact ⟨b, e, rfl, rfl, by omega, by omega⟩
  | .thn a c, b, e, f, hb, he, x, hx => by
    have h1 := tmB_free a b f (f + 1)
    have h2 := tmB_free c f e (tmB a b f (f + 1)).2
    simp only [tmB, List.mem_append] at hx ⊢
    rcases hx with hx | hx
    · obtain ⟨i, j, e1, e2, e3, e4⟩ := tmB_lt a b f (f + 1) (by omega) (by omega) x hx
      exact ⟨i, j, e1, e2, by omega, by omega⟩
    · exact tmB_lt c f e _ (by omega) (by omega) x hx
  | .bth a c, b, e, f, hb, he, x, hx => by
    have h1 := tmB_free a b e f
    have h2 := tmB_free c b e (tmB a b e f).2
    simp only [tmB, List.mem_append] at hx ⊢
    rcases hx with hx | hx
    · obtain ⟨i, j, e1, e2, e3, e4⟩ := tmB_lt a b e f (by omega) (by omega) x hx
      exact ⟨i, j, e1, e2, by omega, by omega⟩
    · exact tmB_lt c b e _ (by omega) (by omega) x hx
theorem sol_congr {bs : List Bd} {y y' : Nat → Int} {N : Nat} (hp : ∀ x ∈ bs, ∃ i j : Nat, x.f = i ∧ x.t = j ∧ i < N ∧ j < N) (he : ∀ k, k < N → y' k = y k) (h : Sol bs y) : Sol bs y' := fun x hx => by
  obtain ⟨i, j, e1, e2, h1, h2⟩ := hp x hx
  have := h x hx
  rw [e1, e2, Int.toNat_natCast, Int.toNat_natCast] at this ⊢
  rw [he i h1, he j h2]; exact this
theorem sol_app {a b : List Bd} {y : Nat → Int} : Sol (a ++ b) y ↔ Sol a y ∧ Sol b y :=
  ⟨fun h => ⟨fun x hx => h x (List.mem_append_left _ hx), fun x hx => h x (List.mem_append_right _ hx)⟩, fun h x hx => by
    rcases List.mem_append.1 hx with hx | hx
    · exact h.1 x hx
    · exact h.2 x hx⟩
theorem sol_bd {i j : Nat} {m : Int} {y : Nat → Int} : Sol [(⟨i, j, m⟩ : Bd)] y ↔ y j - y i ≤ m := by
  unfold Sol
  simp
theorem lens_le : ∀ {a : Tm} {u v : Int}, a.fine → a.lens = some (u, v) → 0 ≤ u ∧ u ≤ v ∧ v ≤ 19 * (a.steps : Int)
  | .step l h, u, v, hf, hl => by
    obtain ⟨h1, h2, h3⟩ := hf
    simp only [Tm.lens, Option.some.injEq, Prod.mk.injEq] at hl
    simp only [Tm.steps]; omega
  | .wth a h, u, v, hf, hl => by
    simp only [Tm.lens] at hl
    split at hl
    · rename_i x y hx
      have := lens_le hf.1 hx
      split at hl
      · simp only [Option.some.injEq, Prod.mk.injEq] at hl
        simp only [Tm.steps]; omega
      · simp at hl
    · simp at hl
  | .thn a b, u, v, hf, hl => by
    simp only [Tm.lens] at hl
    split at hl
    · rename_i x y s t hx hy
      have := lens_le hf.1 hx
      have := lens_le hf.2 hy
      simp only [Option.some.injEq, Prod.mk.injEq] at hl
      simp only [Tm.steps]; omega
    · simp at hl
  | .bth a b, u, v, hf, hl => by
    simp only [Tm.lens] at hl
    split at hl
    · rename_i x y s t hx hy
      have := lens_le hf.1 hx
      have := lens_le hf.2 hy
      split at hl
      · simp only [Option.some.injEq, Prod.mk.injEq] at hl
        simp only [Tm.steps]; omega
      · simp at hl
    · simp at hl
/-- Times that keep the bounds of a part last as long as it may. -/
theorem tm_low : ∀ {a : Tm} {b e f : Nat} {y : Nat → Int}, Sol (tmB a b e f).1 y → ∃ u v, a.lens = some (u, v) ∧ u ≤ y e - y b ∧ y e - y b ≤ v
  | .step l h, b, e, f, y, hs => by
    have h1 := hs ⟨b, e, h⟩ (by simp [tmB])
    have h2 := hs ⟨e, b, -l⟩ (by simp [tmB])
    simp only [Int.toNat_natCast] at h1 h2
    exact ⟨l, h, rfl, by omega, by omega⟩
  | .wth a h, b, e, f, y, hs => by
    simp only [tmB, sol_app, sol_bd] at hs
    obtain ⟨u, v, hl, h1, h2⟩ := tm_low hs.1
    refine ⟨u, min v h, ?_, h1, by omega⟩
    simp only [Tm.lens, hl]
    rw [if_pos (by omega)]
  | .thn a c, b, e, f, y, hs => by
    simp only [tmB, sol_app] at hs
    obtain ⟨u, v, hl, h1, h2⟩ := tm_low hs.1
    obtain ⟨u', v', hl', h3, h4⟩ := tm_low hs.2
    exact ⟨u + u', v + v', by simp only [Tm.lens, hl, hl'], by omega, by omega⟩
  | .bth a c, b, e, f, y, hs => by
    simp only [tmB, sol_app] at hs
    obtain ⟨u, v, hl, h1, h2⟩ := tm_low hs.1
    obtain ⟨u', v', hl', h3, h4⟩ := tm_low hs.2
    refine ⟨max u u', min v v', ?_, by omega, by omega⟩
    simp only [Tm.lens, hl, hl']
    rw [if_pos (by omega)]
/-- Whatever length may be, there are times for it. -/
theorem tm_ex : ∀ {a : Tm} {b e f : Nat} {y : Nat → Int} {u v : Int}, a.fine → b < f → e < f → a.lens = some (u, v) → u ≤ y e - y b → y e - y b ≤ v → ∃ y', (∀ k, k < f → y' k = y k) ∧ Sol (tmB a b e f).1 y'
  | .step l h, b, e, f, y, u, v, hf, hb, he, hl, h1, h2 => by
    simp only [Tm.lens, Option.some.injEq, Prod.mk.injEq] at hl
    refine ⟨y, fun _ _ => rfl, fun x hx => ?_⟩
    simp only [tmB, List.mem_cons, List.not_mem_nil, or_false] at hx
    rcases hx with rfl | rfl
    · simp only [Int.toNat_natCast]; omega
    · simp only [Int.toNat_natCast]; omega
  | .wth a h, b, e, f, y, u, v, hf, hb, he, hl, h1, h2 => by
    simp only [Tm.lens] at hl
    split at hl
    · rename_i x z hx
      split at hl
      · simp only [Option.some.injEq, Prod.mk.injEq] at hl
        obtain ⟨y', h3, h4⟩ := tm_ex (y := y) hf.1 hb he hx (by omega) (by omega)
        refine ⟨y', h3, ?_⟩
        simp only [tmB, sol_app, sol_bd]
        refine ⟨h4, ?_⟩
        rw [h3 e he, h3 b hb]; omega
      · simp at hl
    · simp at hl
  | .thn a c, b, e, f, y, u, v, hf, hb, he, hl, h1, h2 => by
    simp only [Tm.lens] at hl
    split at hl
    · rename_i x1 v1 x2 v2 hx1 hx2
      simp only [Option.some.injEq, Prod.mk.injEq] at hl
      have l1 := lens_le hf.1 hx1
      have l2 := lens_le hf.2 hx2
      have hfr := tmB_free a b f (f + 1)
      obtain ⟨m, hm1, hm2, hm3, hm4⟩ : ∃ m : Int, x1 ≤ m - y b ∧ m - y b ≤ v1 ∧ x2 ≤ y e - m ∧ y e - m ≤ v2 := ⟨y b + max x1 (y e - y b - v2), by omega, by omega, by omega, by omega⟩
      have hyf : ∀ k, k < f → (fun k => if k = f then m else y k) k = y k := fun k hk => if_neg (by omega)
      have hff : (fun k => if k = f then m else y k) f = m := if_pos rfl
      obtain ⟨y1, h3, h4⟩ := tm_ex (y := fun k => if k = f then m else y k) hf.1 (b := b) (e := f) (f := f + 1) (by omega) (by omega) hx1 (by rw [if_pos rfl, if_neg (by omega)]; exact hm1) (by rw [if_pos rfl, if_neg (by omega)]; exact hm2)
      have e1 : y1 f = m := by rw [h3 f (by omega)]; exact hff
      have e2 : ∀ k, k < f → y1 k = y k := fun k hk => by rw [h3 k (by omega)]; exact hyf k hk
      obtain ⟨y2, h5, h6⟩ := tm_ex (y := y1) hf.2 (b := f) (e := e) (f := (tmB a b f (f + 1)).2) (by omega) (by omega) hx2 (by rw [e1, e2 e he]; exact hm3) (by rw [e1, e2 e he]; exact hm4)
      refine ⟨y2, fun k hk => by rw [h5 k (by omega), e2 k hk], ?_⟩
      simp only [tmB, sol_app]
      exact ⟨sol_congr (tmB_lt a b f (f + 1) (by omega) (by omega)) h5 h4, h6⟩
    · simp at hl
  | .bth a c, b, e, f, y, u, v, hf, hb, he, hl, h1, h2 => by
    simp only [Tm.lens] at hl
    split at hl
    · rename_i x1 v1 x2 v2 hx1 hx2
      split at hl
      · simp only [Option.some.injEq, Prod.mk.injEq] at hl
        have hfr := tmB_free a b e f
        obtain ⟨y1, h3, h4⟩ := tm_ex (y := y) hf.1 hb he hx1 (by omega) (by omega)
        obtain ⟨y2, h5, h6⟩ := tm_ex (y := y1) hf.2 (b := b) (e := e) (f := (tmB a b e f).2) (by omega) (by omega) hx2 (by rw [h3 e he, h3 b hb]; omega) (by rw [h3 e he, h3 b hb]; omega)
        refine ⟨y2, fun k hk => by rw [h5 k (by omega), h3 k hk], ?_⟩
        simp only [tmB, sol_app]
        exact ⟨sol_congr (tmB_lt a b e f hb he) h5 h4, h6⟩
      · simp at hl
    · simp at hl
end Go.Proofs.Ytmnajkhoacogjaa.Pp

namespace Go.Proofs.Ytmnajkhoacogjaa.Pp

/-- How long a part lasts, whether that may be, and the next step. -/
def lastV : Tm → List Int → Nat → Int × Bool × Nat
  | .step l h, xs, i => (xs.getD i 0, inB (xs.getD i 0) l h, i + 1)
  | .wth a h, xs, i => ((lastV a xs i).1, (lastV a xs i).2.1 && decide ((lastV a xs i).1 ≤ h), (lastV a xs i).2.2)
  | .thn a b, xs, i => ((lastV a xs i).1 + (lastV b xs (lastV a xs i).2.2).1, (lastV a xs i).2.1 && (lastV b xs (lastV a xs i).2.2).2.1, (lastV b xs (lastV a xs i).2.2).2.2)
  | .bth a b, xs, i => ((lastV a xs i).1, (lastV a xs i).2.1 && (lastV b xs (lastV a xs i).2.2).2.1 && decide ((lastV a xs i).1 = (lastV b xs (lastV a xs i).2.2).1), (lastV b xs (lastV a xs i).2.2).2.2)
theorem lastV_next : ∀ (a : Tm) (xs : List Int) (i : Nat), (lastV a xs i).2.2 = i + a.steps
  | .step l h, xs, i => rfl
  | .wth a h, xs, i => lastV_next a xs i
  | .thn a b, xs, i => by simp only [lastV, Tm.steps]; rw [lastV_next b, lastV_next a]; omega
  | .bth a b, xs, i => by simp only [lastV, Tm.steps]; rw [lastV_next b, lastV_next a]; omega
/-- What the steps make is a length that may be. -/
theorem last_lens : ∀ {a : Tm} {xs : List Int} {i : Nat}, (lastV a xs i).2.1 = true → ∃ u v, a.lens = some (u, v) ∧ u ≤ (lastV a xs i).1 ∧ (lastV a xs i).1 ≤ v
  | .step l h, xs, i, ho => by
    have := inB_iff.1 ho
    exact ⟨l, h, rfl, this.1, this.2⟩
  | .wth a h, xs, i, ho => by
    simp only [lastV, Bool.and_eq_true, decide_eq_true_eq] at ho ⊢
    obtain ⟨u, v, hl, h1, h2⟩ := last_lens ho.1
    refine ⟨u, min v h, ?_, h1, by omega⟩
    simp only [Tm.lens, hl]
    rw [if_pos (by omega)]
  | .thn a b, xs, i, ho => by
    simp only [lastV, Bool.and_eq_true] at ho ⊢
    obtain ⟨u, v, hl, h1, h2⟩ := last_lens ho.1
    obtain ⟨u', v', hl', h3, h4⟩ := last_lens ho.2
    exact ⟨u + u', v + v', by simp only [Tm.lens, hl, hl'], by omega, by omega⟩
  | .bth a b, xs, i, ho => by
    simp only [lastV, Bool.and_eq_true, decide_eq_true_eq] at ho ⊢
    obtain ⟨u, v, hl, h1, h2⟩ := last_lens ho.1.1
    obtain ⟨u', v', hl', h3, h4⟩ := last_lens ho.1.2
    refine ⟨max u u', min v v', ?_, by omega, by omega⟩
    simp only [Tm.lens, hl, hl']
    rw [if_pos (by omega)]

/-- The lengths, 0 and 0 for none. -/
def lensD (a : Tm) : Int × Int := a.lens.getD (0, 0)
/-- A part with its steps narrowed. -/
def nar : Tm → Int → Int → Tm
  | .step l h, lo, hi => .step (max lo l) (min hi h)
  | .wth a h, lo, hi => .wth (nar a (max lo (lensD (.wth a h)).1) (min hi (lensD (.wth a h)).2)) h
  | .thn a b, lo, hi => .thn (nar a (max lo (lensD (.thn a b)).1 - (lensD b).2) (min hi (lensD (.thn a b)).2 - (lensD b).1)) (nar b (max lo (lensD (.thn a b)).1 - (lensD a).2) (min hi (lensD (.thn a b)).2 - (lensD a).1))
  | .bth a b, lo, hi => .bth (nar a (max lo (lensD (.bth a b)).1) (min hi (lensD (.bth a b)).2)) (nar b (max lo (lensD (.bth a b)).1) (min hi (lensD (.bth a b)).2))
theorem nar_next : ∀ (a : Tm) (lo hi : Int) (b e f : Nat), (tmB (nar a lo hi) b e f).2 = (tmB a b e f).2
  | .step l h, lo, hi, b, e, f => rfl
  | .wth a h, lo, hi, b, e, f => by simp only [nar, tmB]; exact nar_next a _ _ b e f
  | .thn a c, lo, hi, b, e, f => by simp only [nar, tmB, nar_next]
  | .bth a c, lo, hi, b, e, f => by simp only [nar, tmB, nar_next]
/-- A narrowed part is kept by fewer times. -/
theorem nar_imp : ∀ {a : Tm} {lo hi : Int} {b e f : Nat} {y : Nat → Int}, Sol (tmB (nar a lo hi) b e f).1 y → Sol (tmB a b e f).1 y
  | .step l h, lo, hi, b, e, f, y, hs => by
    have h1 := hs ⟨b, e, min hi h⟩ (by simp [nar, tmB])
    have h2 := hs ⟨e, b, -max lo l⟩ (by simp [nar, tmB])
    intro x hx
    simp only [tmB, List.mem_cons, List.not_mem_nil, or_false] at hx
    simp only [Int.toNat_natCast] at h1 h2
    rcases hx with rfl | rfl <;> simp only [Int.toNat_natCast] <;> omega
  | .wth a h, lo, hi, b, e, f, y, hs => by
    simp only [nar, tmB, sol_app, sol_bd] at hs ⊢
    exact ⟨nar_imp hs.1, hs.2⟩
  | .thn a c, lo, hi, b, e, f, y, hs => by
    simp only [nar, tmB, sol_app, nar_next] at hs ⊢
    exact ⟨nar_imp hs.1, nar_imp hs.2⟩
  | .bth a c, lo, hi, b, e, f, y, hs => by
    simp only [nar, tmB, sol_app, nar_next] at hs ⊢
    exact ⟨nar_imp hs.1, nar_imp hs.2⟩
/-- Times that keep a part and last within the numbers keep the narrowed part. -/
theorem nar_sol : ∀ {a : Tm} {lo hi : Int} {b e f : Nat} {y : Nat → Int}, Sol (tmB a b e f).1 y → lo ≤ y e - y b → y e - y b ≤ hi → Sol (tmB (nar a lo hi) b e f).1 y
  | .step l h, lo, hi, b, e, f, y, hs, h3, h4 => by
    have h1 := hs ⟨b, e, h⟩ (by simp [tmB])
    have h2 := hs ⟨e, b, -l⟩ (by simp [tmB])
    intro x hx
    simp only [nar, tmB, List.mem_cons, List.not_mem_nil, or_false] at hx
    simp only [Int.toNat_natCast] at h1 h2
    rcases hx with rfl | rfl <;> simp only [Int.toNat_natCast] <;> omega
  | .wth a h, lo, hi, b, e, f, y, hs, h3, h4 => by
    obtain ⟨u, v, hl, h5, h6⟩ := tm_low hs
    have hd : lensD (.wth a h) = (u, v) := by unfold lensD; rw [hl]; rfl
    simp only [nar, tmB, sol_app, sol_bd, hd] at hs ⊢
    exact ⟨nar_sol hs.1 (by omega) (by omega), hs.2⟩
  | .thn a c, lo, hi, b, e, f, y, hs, h3, h4 => by
    obtain ⟨u, v, hl, h5, h6⟩ := tm_low hs
    have hd : lensD (.thn a c) = (u, v) := by unfold lensD; rw [hl]; rfl
    simp only [tmB, sol_app] at hs
    obtain ⟨u1, v1, hl1, g1, g2⟩ := tm_low hs.1
    obtain ⟨u2, v2, hl2, g3, g4⟩ := tm_low hs.2
    have hd1 : lensD a = (u1, v1) := by unfold lensD; rw [hl1]; rfl
    have hd2 : lensD c = (u2, v2) := by unfold lensD; rw [hl2]; rfl
    simp only [nar, tmB, sol_app, nar_next, hd, hd1, hd2]
    exact ⟨nar_sol hs.1 (by omega) (by omega), nar_sol hs.2 (by omega) (by omega)⟩
  | .bth a c, lo, hi, b, e, f, y, hs, h3, h4 => by
    obtain ⟨u, v, hl, h5, h6⟩ := tm_low hs
    have hd : lensD (.bth a c) = (u, v) := by unfold lensD; rw [hl]; rfl
    simp only [nar, tmB, sol_app, nar_next, hd] at hs ⊢
    exact ⟨nar_sol hs.1 (by omega) (by omega), nar_sol hs.2 (by omega) (by omega)⟩
/-- A term that is narrowed to its own lengths is kept by the same times. -/
theorem nar_alike {a : Tm} {u v : Int} (hl : a.lens = some (u, v)) {b e f : Nat} {y : Nat → Int} : Sol (tmB (nar a u v) b e f).1 y ↔ Sol (tmB a b e f).1 y := by
  refine ⟨nar_imp, fun hs => ?_⟩
  obtain ⟨u', v', hl', h1, h2⟩ := tm_low hs
  rw [hl] at hl'
  simp only [Option.some.injEq, Prod.mk.injEq] at hl'
  exact nar_sol hs (by omega) (by omega)
theorem nar_fine : ∀ {a : Tm} {lo hi u v : Int}, a.fine → a.lens = some (u, v) → lo ≤ v → u ≤ hi → lo ≤ hi → (nar a lo hi).fine
  | .step l h, lo, hi, u, v, hf, hl, h1, h2, h3 => by
    obtain ⟨g1, g2, g3⟩ := hf
    simp only [Tm.lens, Option.some.injEq, Prod.mk.injEq] at hl
    show 0 ≤ max lo l ∧ max lo l ≤ min hi h ∧ min hi h ≤ 19
    omega
  | .wth a h, lo, hi, u, v, hf, hl, h1, h2, h3 => by
    have huv := lens_le hf hl
    have hd : lensD (.wth a h) = (u, v) := by unfold lensD; rw [hl]; rfl
    simp only [Tm.lens] at hl
    split at hl
    · rename_i x y hx
      split at hl
      · simp only [Option.some.injEq, Prod.mk.injEq] at hl
        simp only [nar, hd]
        exact ⟨nar_fine hf.1 hx (by omega) (by omega) (by omega), hf.2⟩
      · simp at hl
    · simp at hl
  | .thn a b, lo, hi, u, v, hf, hl, h1, h2, h3 => by
    have huv := lens_le hf hl
    have hd : lensD (.thn a b) = (u, v) := by unfold lensD; rw [hl]; rfl
    simp only [Tm.lens] at hl
    split at hl
    · rename_i x1 v1 x2 v2 hx1 hx2
      simp only [Option.some.injEq, Prod.mk.injEq] at hl
      have l1 := lens_le hf.1 hx1
      have l2 := lens_le hf.2 hx2
      have hd1 : lensD a = (x1, v1) := by unfold lensD; rw [hx1]; rfl
      have hd2 : lensD b = (x2, v2) := by unfold lensD; rw [hx2]; rfl
      simp only [nar, hd, hd1, hd2]
      exact ⟨nar_fine hf.1 hx1 (by omega) (by omega) (by omega), nar_fine hf.2 hx2 (by omega) (by omega) (by omega)⟩
    · simp at hl
  | .bth a b, lo, hi, u, v, hf, hl, h1, h2, h3 => by
    have huv := lens_le hf hl
    have hd : lensD (.bth a b) = (u, v) := by unfold lensD; rw [hl]; rfl
    simp only [Tm.lens] at hl
    split at hl
    · rename_i x1 v1 x2 v2 hx1 hx2
      split at hl
      · simp only [Option.some.injEq, Prod.mk.injEq] at hl
        simp only [nar, hd]
        exact ⟨nar_fine hf.1 hx1 (by omega) (by omega) (by omega), nar_fine hf.2 hx2 (by omega) (by omega) (by omega)⟩
      · simp at hl
    · simp at hl
theorem nar_marks : ∀ (a : Tm) (lo hi : Int), (nar a lo hi).marks.length = a.marks.length
  | .step l h, lo, hi => rfl
  | .wth a h, lo, hi => by simp [nar, Tm.marks, nar_marks a]
  | .thn a b, lo, hi => by simp [nar, Tm.marks, nar_marks a, nar_marks b]
  | .bth a b, lo, hi => by simp [nar, Tm.marks, nar_marks a, nar_marks b]
end Go.Proofs.Ytmnajkhoacogjaa.Pp

namespace Go.Proofs.Ytmnajkhoacogjaa.Pp

def tmP (a : Tm) : Pl := ⟨((tmB a 0 1 2).2 : Int), (tmB a 0 1 2).1⟩
theorem tm_nn (a : Tm) : nn (tmP a) = (tmB a 0 1 2).2 ∧ 2 ≤ nn (tmP a) := by
  have h : nn (tmP a) = (tmB a 0 1 2).2 := by unfold nn tmP; simp
  have := tmB_free a 0 1 2
  exact ⟨h, by omega⟩
def y01 (d : Int) : Nat → Int := fun k => if k = 1 then d else 0
theorem tm_time {a : Tm} {u v d : Int} (hf : a.fine) (hl : a.lens = some (u, v)) (h1 : u ≤ d) (h2 : d ≤ v) : ∃ y, Sol (tmP a).bs y ∧ y 1 - y 0 = d := by
  obtain ⟨y, h3, h4⟩ := tm_ex (y := y01 d) (b := 0) (e := 1) (f := 2) hf (by omega) (by omega) hl (by simp [y01]; exact h1) (by simp [y01]; exact h2)
  refine ⟨y, h4, ?_⟩
  rw [h3 1 (by omega), h3 0 (by omega)]
  simp [y01]
theorem tm_fits {a : Tm} (hf : a.fine) (hp : planOk (tmP a) = true) : fits (tmP a) = a.lens.isSome := by
  rw [Bool.eq_iff_iff, fits_iff hp]
  constructor
  · rintro ⟨y, hy⟩
    obtain ⟨u, v, hl, -⟩ := tm_low (a := a) (b := 0) (e := 1) (f := 2) hy
    rw [hl]; rfl
  · intro h
    obtain ⟨⟨u, v⟩, hl⟩ := Option.isSome_iff_exists.1 h
    have := lens_le hf hl
    obtain ⟨y, hy, -⟩ := tm_time (d := u) hf hl (Int.le_refl _) this.2.1
    exact ⟨y, hy⟩
theorem tm_tight {a : Tm} {u v : Int} (hf : a.fine) (hp : planOk (tmP a) = true) (hl : a.lens = some (u, v)) : fits (tmP a) = true ∧ clT (tmP a) 0 1 = v ∧ clT (tmP a) 1 0 = -u := by
  have hfi : fits (tmP a) = true := by rw [tm_fits hf hp, hl]; rfl
  have G := fit_of hfi
  obtain ⟨hn, hn2⟩ := tm_nn a
  have hle := lens_le hf hl
  have hb : ∀ y, Sol (tmP a).bs y → u ≤ y 1 - y 0 ∧ y 1 - y 0 ≤ v := fun y hy => by
    obtain ⟨u', v', hl', h1, h2⟩ := tm_low (a := a) (b := 0) (e := 1) (f := 2) hy
    rw [hl] at hl'
    simp only [Option.some.injEq, Prod.mk.injEq] at hl'
    omega
  obtain ⟨a1, a2⟩ := G.tight (i := 0) (j := 1) (by omega) (by omega) v (fun y hy => (hb y hy).2)
  obtain ⟨c1, c2⟩ := G.tight (i := 1) (j := 0) (by omega) (by omega) (-u) (fun y hy => by have := (hb y hy).1; omega)
  obtain ⟨y1, hy1, e1⟩ := tm_time (d := v) hf hl hle.2.1 (Int.le_refl _)
  obtain ⟨y2, hy2, e2⟩ := tm_time (d := u) hf hl (Int.le_refl _) hle.2.1
  have a3 := G.le (i := 0) (j := 1) (by omega) (by omega) hy1 a1
  have c3 := G.le (i := 1) (j := 0) (by omega) (by omega) hy2 c1
  exact ⟨hfi, by omega, by omega⟩
theorem tm_most {a : Tm} {u v : Int} (hf : a.fine) (hp : planOk (tmP a) = true) (hl : a.lens = some (u, v)) : mostOf (tmP a) 0 1 = (v, true) ∧ leastOf (tmP a) 0 1 = (u, true) := by
  obtain ⟨h1, h2, h3⟩ := tm_tight hf hp hl
  obtain ⟨hn, hn2⟩ := tm_nn a
  have hn3 := nn_ok hp
  have hv := lens_le hf hl
  have G := fit_of h1
  have f1 : clT (tmP a) 0 1 < Far := (G.tight (i := 0) (j := 1) (by omega) (by omega) v (fun y hy => by
    obtain ⟨u', v', hl', h1, h2⟩ := tm_low (a := a) (b := 0) (e := 1) (f := 2) hy
    rw [hl] at hl'
    simp only [Option.some.injEq, Prod.mk.injEq] at hl'
    omega)).1
  have f2 : clT (tmP a) 1 0 < Far := (G.tight (i := 1) (j := 0) (by omega) (by omega) (-u) (fun y hy => by
    obtain ⟨u', v', hl', h1, h2⟩ := tm_low (a := a) (b := 0) (e := 1) (f := 2) hy
    rw [hl] at hl'
    simp only [Option.some.injEq, Prod.mk.injEq] at hl'
    omega)).1
  have m1 : mostOf (tmP a) 0 1 = (v, true) := by
    rw [mostOf_is h1 (by omega) (by omega) (by simpa using f1)]
    simp [h2]
  have m2 : mostOf (tmP a) 1 0 = (-u, true) := by
    rw [mostOf_is h1 (by omega) (by omega) (by simpa using f2)]
    simp [h3]
  refine ⟨m1, ?_⟩
  unfold leastOf
  rw [m2]
  simp
theorem tm_may {a : Tm} {u v d : Int} (hf : a.fine) (hp : planOk (tmP a) = true) (hl : a.lens = some (u, v)) (h1 : u ≤ d) (h2 : d ≤ v) (hd : d ≤ 2000) : mayBe (tmP a) 0 1 d = true := by
  obtain ⟨g1, g2, g3⟩ := tm_tight hf hp hl
  obtain ⟨hn, hn2⟩ := tm_nn a
  have hv := lens_le hf hl
  have hpn : (2 : Int) ≤ (tmP a).n := by show (2 : Int) ≤ ((tmB a 0 1 2).2 : Int); omega
  have e1 : (0 : Int).toNat = 0 := rfl
  have e2 : (1 : Int).toNat = 1 := rfl
  unfold mayBe mayT
  rw [e1, e2, g1, g2, g3]
  simp only [Bool.true_and, Bool.and_eq_true, inB_iff, Bool.or_eq_true, decide_eq_true_eq]
  exact ⟨⟨⟨⟨by omega, by omega⟩, by omega, by omega⟩, by omega, hd⟩, .inr h2, .inr (by omega)⟩
end Go.Proofs.Ytmnajkhoacogjaa.Pp

namespace Go.Proofs.Ytmnajkhoacogjaa.Pp

def Tm.thens : Tm → Nat
  | step _ _ => 0
  | wth a _ => a.thens
  | thn a b => a.thens + b.thens + 1
  | bth a b => a.thens + b.thens
def Tm.withs : Tm → Nat
  | step _ _ => 0
  | wth a _ => a.withs + 1
  | thn a b => a.withs + b.withs
  | bth a b => a.withs + b.withs
/-- Time runs the other way. -/
def Tm.back : Tm → Tm
  | step l h => .step l h
  | wth a h => .wth a.back h
  | thn a b => .thn b.back a.back
  | bth a b => .bth a.back b.back
theorem tmB_next : ∀ (a : Tm) (b e f : Nat), (tmB a b e f).2 = f + a.thens
  | .step l h, b, e, f => rfl
  | .wth a h, b, e, f => tmB_next a b e f
  | .thn a c, b, e, f => by simp only [tmB, Tm.thens, tmB_next]; omega
  | .bth a c, b, e, f => by simp only [tmB, Tm.thens, tmB_next]; omega
theorem tmB_len : ∀ (a : Tm) (b e f : Nat), (tmB a b e f).1.length = 2 * a.steps + a.withs
  | .step l h, b, e, f => rfl
  | .wth a h, b, e, f => by simp only [tmB, Tm.withs, Tm.steps, List.length_append, List.length_singleton, tmB_len a]; omega
  | .thn a c, b, e, f => by simp only [tmB, Tm.withs, Tm.steps, List.length_append, tmB_len a, tmB_len c]; omega
  | .bth a c, b, e, f => by simp only [tmB, Tm.withs, Tm.steps, List.length_append, tmB_len a, tmB_len c]; omega
theorem back_steps : ∀ (a : Tm), a.back.steps = a.steps ∧ a.back.thens = a.thens ∧ a.back.withs = a.withs ∧ a.back.marks.length = a.marks.length
  | .step l h => ⟨rfl, rfl, rfl, rfl⟩
  | .wth a h => by
    obtain ⟨h1, h2, h3, h4⟩ := back_steps a
    simp only [Tm.back, Tm.steps, Tm.thens, Tm.withs, Tm.marks, List.length_append]
    omega
  | .thn a b => by
    obtain ⟨h1, h2, h3, h4⟩ := back_steps a
    obtain ⟨g1, g2, g3, g4⟩ := back_steps b
    simp only [Tm.back, Tm.steps, Tm.thens, Tm.withs, Tm.marks, List.length_append]
    omega
  | .bth a b => by
    obtain ⟨h1, h2, h3, h4⟩ := back_steps a
    obtain ⟨g1, g2, g3, g4⟩ := back_steps b
    simp only [Tm.back, Tm.steps, Tm.thens, Tm.withs, Tm.marks, List.length_append]
    omega
theorem back_fine : ∀ {a : Tm}, a.fine → a.back.fine
  | .step l h, hf => hf
  | .wth a h, hf => ⟨back_fine hf.1, hf.2⟩
  | .thn a b, hf => ⟨back_fine hf.2, back_fine hf.1⟩
  | .bth a b, hf => ⟨back_fine hf.1, back_fine hf.2⟩
theorem back_lens : ∀ (a : Tm), a.back.lens = a.lens
  | .step l h => rfl
  | .wth a h => by simp only [Tm.back, Tm.lens, back_lens a]
  | .thn a b => by
    simp only [Tm.back, Tm.lens, back_lens a, back_lens b]
    cases a.lens with
    | none => cases b.lens <;> rfl
    | some x =>
      cases b.lens with
      | none => rfl
      | some y => simp only [Option.some.injEq, Prod.mk.injEq]; omega
  | .bth a b => by simp only [Tm.back, Tm.lens, back_lens a, back_lens b]
theorem tmB_small : ∀ (a : Tm) (b e f : Nat), a.fine → ∀ x ∈ (tmB a b e f).1, -99 ≤ x.m ∧ x.m ≤ 99
  | .step l h, b, e, f, hf, x, hx => by
    obtain ⟨h1, h2, h3⟩ := hf
    simp only [tmB, List.mem_cons, List.not_mem_nil, or_false] at hx
    rcases hx with rfl | rfl <;> dsimp only <;> omega
  | .wth a h, b, e, f, hf, x, hx => by
    obtain ⟨h1, h2, h3⟩ := hf
    simp only [tmB, List.mem_append, List.mem_singleton] at hx
    rcases hx with hx | rfl
    · exact tmB_small a b e f h1 x hx
    · dsimp only; omega
  | .thn a c, b, e, f, hf, x, hx => by
    simp only [tmB, List.mem_append] at hx
    rcases hx with hx | hx
    · exact tmB_small a _ _ _ hf.1 x hx
    · exact tmB_small c _ _ _ hf.2 x hx
  | .bth a c, b, e, f, hf, x, hx => by
    simp only [tmB, List.mem_append] at hx
    rcases hx with hx | hx
    · exact tmB_small a _ _ _ hf.1 x hx
    · exact tmB_small c _ _ _ hf.2 x hx
theorem tm_ok {a : Tm} (hf : a.fine) : planOk (tmP a) = true ↔ a.thens ≤ 4 ∧ 2 * a.steps + a.withs ≤ 16 := by
  have hn : (tmP a).n = ((2 + a.thens : Nat) : Int) := by show ((tmB a 0 1 2).2 : Int) = _; rw [tmB_next]
  have hl : (tmP a).bs.length = 2 * a.steps + a.withs := tmB_len a 0 1 2
  rw [planOk_iff, hl]
  constructor
  · rintro ⟨h1, h2, -⟩
    rw [hn] at h1
    omega
  · rintro ⟨h1, h2⟩
    refine ⟨by rw [hn]; omega, h2, fun x hx => ?_⟩
    obtain ⟨i, j, e1, e2, h3, h4⟩ := tmB_lt a 0 1 2 (by omega) (by omega) x hx
    rw [tmB_next] at h3 h4
    have := tmB_small a 0 1 2 hf x hx
    rw [bdOk_iff, hn, e1, e2]
    omega
theorem tm_back {a : Tm} (hf : a.fine) : planOk (tmP a.back) = planOk (tmP a) := by
  obtain ⟨h1, h2, h3, h4⟩ := back_steps a
  rw [Bool.eq_iff_iff, tm_ok (back_fine hf), tm_ok hf, h1, h2, h3]
end Go.Proofs.Ytmnajkhoacogjaa.Pp

namespace Go.Proofs.Ytmnajkhoacogjaa.Pp

def wgt (m : Mk) : Int := if m.k = 0 then -1 else if m.k = 3 then 0 else 1
def sumW : List Mk → Int
  | [] => 0
  | m :: l => wgt m + sumW l
theorem sumW_append : ∀ (a b : List Mk), sumW (a ++ b) = sumW a + sumW b
  | [], b => by simp [sumW]
  | m :: a, b => by simp only [List.cons_append, sumW, sumW_append a b]; omega
theorem sumW_marks : ∀ a : Tm, sumW a.marks = -1
  | .step l h => by simp [Tm.marks, sumW, wgt]
  | .wth a h => by simp [Tm.marks, sumW_append, sumW_marks a, sumW, wgt]
  | .thn a b => by simp [Tm.marks, sumW_append, sumW_marks a, sumW_marks b, sumW, wgt]
  | .bth a b => by simp [Tm.marks, sumW_append, sumW_marks a, sumW_marks b, sumW, wgt]
theorem split_last {p s l : List Mk} {m : Mk} (h : l ++ [m] = p ++ s) (hs : s ≠ []) : ∃ s', s = s' ++ [m] ∧ l = p ++ s' := by
  obtain ⟨s', x, rfl⟩ : ∃ s' x, s = s' ++ [x] := ⟨s.dropLast, s.getLast hs, (List.dropLast_concat_getLast hs).symm⟩
  rw [← List.append_assoc] at h
  have := List.append_inj' h rfl
  have e := this.2
  simp only [List.cons.injEq, and_true] at e
  subst e
  exact ⟨s', rfl, this.1⟩
/-- The marks behind some of a part ask for no less. -/
theorem sumW_back : ∀ (a : Tm) (p s : List Mk), a.marks = p ++ s → p ≠ [] → 0 ≤ sumW s
  | .step l h, p, s, e, hp => by
    cases p with
    | nil => exact absurd rfl hp
    | cons x p =>
      simp only [Tm.marks, List.cons_append, List.cons.injEq] at e
      have : s = [] := by have := e.2; simp at this; exact this.2
      subst this
      exact Int.le_refl _
  | .wth a h, p, s, e, hp => by
    by_cases hs : s = []
    · subst hs; exact Int.le_refl _
    · obtain ⟨s', rfl, e2⟩ := split_last e hs
      have := sumW_back a p s' e2 hp
      rw [sumW_append]
      simp [sumW, wgt]; omega
  | .thn a b, p, s, e, hp => by
    by_cases hs : s = []
    · subst hs; exact Int.le_refl _
    · obtain ⟨s', rfl, e2⟩ := split_last e hs
      rw [sumW_append]
      have h1 : sumW [(⟨1, 0, 0⟩ : Mk)] = 1 := by simp [sumW, wgt]
      rw [h1]
      rcases List.append_eq_append_iff.1 e2 with ⟨q, e3, e4⟩ | ⟨q, e3, e4⟩
      · by_cases hq : q = []
        · subst hq
          simp only [List.nil_append] at e4
          rw [← e4, sumW_marks]
          omega
        · have := sumW_back b q s' e4 hq
          omega
      · have := sumW_back a p q e3 hp
        rw [e4, sumW_append, sumW_marks]; omega
  | .bth a b, p, s, e, hp => by
    by_cases hs : s = []
    · subst hs; exact Int.le_refl _
    · obtain ⟨s', rfl, e2⟩ := split_last e hs
      rw [sumW_append]
      have h1 : sumW [(⟨2, 0, 0⟩ : Mk)] = 1 := by simp [sumW, wgt]
      rw [h1]
      rcases List.append_eq_append_iff.1 e2 with ⟨q, e3, e4⟩ | ⟨q, e3, e4⟩
      · by_cases hq : q = []
        · subst hq
          simp only [List.nil_append] at e4
          rw [← e4, sumW_marks]
          omega
        · have := sumW_back b q s' e4 hq
          omega
      · have := sumW_back a p q e3 hp
        rw [e4, sumW_append, sumW_marks]; omega
/-- How many marks of a kind. -/
def cntK (k : Int) : List Mk → Nat
  | [] => 0
  | m :: l => (if m.k = k then 1 else 0) + cntK k l
theorem cntK_append (k : Int) : ∀ (a b : List Mk), cntK k (a ++ b) = cntK k a + cntK k b
  | [], b => by simp [cntK]
  | m :: a, b => by simp only [List.cons_append, cntK, cntK_append k a b]; omega
theorem cntK_marks : ∀ a : Tm, cntK 0 a.marks = a.steps ∧ cntK 1 a.marks = a.thens ∧ cntK 3 a.marks = a.withs
  | .step l h => by simp [Tm.marks, cntK, Tm.steps, Tm.thens, Tm.withs]
  | .wth a h => by
    obtain ⟨h1, h2, h3⟩ := cntK_marks a
    simp [Tm.marks, cntK_append, cntK, Tm.steps, Tm.thens, Tm.withs, h1, h2, h3]
  | .thn a b => by
    obtain ⟨h1, h2, h3⟩ := cntK_marks a
    obtain ⟨g1, g2, g3⟩ := cntK_marks b
    simp [Tm.marks, cntK_append, cntK, Tm.steps, Tm.thens, Tm.withs, h1, h2, h3, g1, g2, g3]
    omega
  | .bth a b => by
    obtain ⟨h1, h2, h3⟩ := cntK_marks a
    obtain ⟨g1, g2, g3⟩ := cntK_marks b
    simp [Tm.marks, cntK_append, cntK, Tm.steps, Tm.thens, Tm.withs, h1, h2, h3, g1, g2, g3]
end Go.Proofs.Ytmnajkhoacogjaa.Pp
