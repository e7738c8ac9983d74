/-
  Deals whose promises last so long: the plan, and how many ways fit. No program.
-/
import Derived.Test.YtdijfkpccbkdfaaP9
namespace Go.Proofs.Ytdijfkpccbkdfaa
set_option linter.unusedVariables false
set_option linter.unusedSimpArgs false
namespace Pp

def pairOf (x : Pr) (l : Int) : List Bd := [⟨x.f, x.t, l⟩, ⟨x.t, x.f, -l⟩]
def forBs : List Pr → List Int → List Bd
  | x :: ps, l :: ls => pairOf x l ++ forBs ps ls
  | [], _ => []
  | _, [] => []
theorem forBs_nil (ps : List Pr) : forBs ps [] = [] := by cases ps <;> rfl
def planFor (p : Pl) (ps : List Pr) (ls : List Int) : Pl := ⟨p.n, p.bs ++ forBs ps ls⟩

theorem forBs_step : ∀ (ps : List Pr) (ls : List Int) (k : Nat) (x : Pr) (l : Int), ps[k]? = some x → ls[k]? = some l → forBs (ps.take (k + 1)) (ls.take (k + 1)) = forBs (ps.take k) (ls.take k) ++ pairOf x l
  | [], ls, k, x, l, h, _ => by simp at h
  | y :: ps, [], k, x, l, _, h => by simp at h
  | y :: ps, m :: ls, 0, x, l, h1, h2 => by
    simp at h1 h2
    subst h1; subst h2
    simp [forBs]
  | y :: ps, m :: ls, k + 1, x, l, h1, h2 => by
    have := forBs_step ps ls k x l (by simpa using h1) (by simpa using h2)
    simp only [List.take_succ_cons, forBs, this, List.append_assoc]
theorem forBs_take : ∀ (ps : List Pr) (ls : List Int), forBs (ps.take ls.length) ls = forBs ps ls
  | [], ls => by simp
  | x :: ps, [] => by simp [forBs]
  | x :: ps, l :: ls => by simp [forBs, forBs_take ps ls]
theorem forBs_length : ∀ (ps : List Pr) (ls : List Int), (forBs ps ls).length ≤ 2 * ps.length
  | [], ls => by simp [forBs]
  | x :: ps, [] => by simp [forBs]
  | x :: ps, l :: ls => by have := forBs_length ps ls; simp [forBs, pairOf]; omega
theorem forBs_len_eq : ∀ (ps : List Pr) (ls : List Int), ls.length = ps.length → (forBs ps ls).length = 2 * ps.length
  | [], ls, _ => by simp [forBs]
  | x :: ps, [], h => by simp at h
  | x :: ps, l :: ls, h => by have := forBs_len_eq ps ls (by simpa using h); simp [forBs, pairOf]; omega
theorem forBs_app : ∀ (ps : List Pr) (ls : List Int) (k : Nat), k ≤ ls.length → (forBs (ps.take k) (ls.take k)).length ≤ 2 * k := fun ps ls k _ => by
  have h := forBs_length (ps.take k) (ls.take k)
  have : (ps.take k).length ≤ k := by simp; omega
  omega

def LastsTo (ps : List Pr) (ls : List Int) (k : Nat) : Prop := ∀ (i : Nat) (x : Pr) (l : Int), i < k → ps[i]? = some x → ls[i]? = some l → inB l x.l x.h = true
def LastsOk (p : Pl) (ps : List Pr) (ls : List Int) : Prop := DealOk p ps ∧ ls.length = ps.length ∧ LastsTo ps ls ls.length
theorem lastsTo_step {ps : List Pr} {ls : List Int} {k : Nat} {x : Pr} {l : Int} (h : LastsTo ps ls k) (hx : ps[k]? = some x) (hl : ls[k]? = some l) (h2 : inB l x.l x.h = true) : LastsTo ps ls (k + 1) := by
  intro i y m hi hy hm
  by_cases e : i = k
  · subst e; rw [hx] at hy; rw [hl] at hm; cases hy; cases hm; exact h2
  · exact h i y m (by omega) hy hm
/-- Each length is at least 0, and at most 12. -/
theorem lasts_small {p : Pl} {ps : List Pr} {ls : List Int} (h : LastsOk p ps ls) (i : Nat) (l : Int) (hl : ls[i]? = some l) : 0 ≤ l ∧ l ≤ 12 := by
  have hi : i < ls.length := (List.getElem?_eq_some_iff.1 hl).1
  have hip : i < ps.length := by rw [← h.2.1]; exact hi
  have hx := List.getElem?_eq_getElem hip
  have h1 := inB_iff.1 (h.2.2 i _ l hi hx hl)
  have h2 := (h.1.2.2.2 i _ hip hx).1.2.2.2
  omega

/-- For how many ways that go on these lengths the plan fits. -/
def countF (p : Pl) (ps : List Pr) : Nat → List Int → Int
  | 0, ls => if fits (planFor p ps ls) then 1 else 0
  | m + 1, ls => match ps[ls.length]? with
    | none => 0
    | some x => ((List.range (x.h - x.l + 1).toNat).map fun (i : Nat) => countF p ps m (ls ++ [x.l + (i : Int)])).sum
end Pp
noncomputable def lastsOk (p : Pp.Pl) (ps : List Pp.Pr) (ls : List Int) : Bool := @decide (Pp.LastsOk p ps ls) (Classical.propDecidable _)
theorem lastsOk_iff {p : Pp.Pl} {ps : List Pp.Pr} {ls : List Int} : lastsOk p ps ls = true ↔ Pp.LastsOk p ps ls := by unfold lastsOk; exact @decide_eq_true_iff _ (Classical.propDecidable _)
theorem lastsOk_no {p : Pp.Pl} {ps : List Pp.Pr} {ls : List Int} (h : ¬ Pp.LastsOk p ps ls) : lastsOk p ps ls = false := by
  cases e : lastsOk p ps ls
  · rfl
  · exact (h (lastsOk_iff.1 e)).elim
noncomputable def planForR (p : Pp.Pl) (ps : List Pp.Pr) (ls : List Int) : Pp.Pl × Bool := if lastsOk p ps ls then (Pp.planFor p ps ls, true) else (⟨0, []⟩, false)
end Go.Proofs.Ytdijfkpccbkdfaa
