/-
  What both sides of CountFit count is the same. No program.
-/
import Derived.Test.YtdijfkpccbkdfaaL30
import Derived.Test.YtdijfkpccbkdfaaS28
namespace Go.Proofs.Ytdijfkpccbkdfaa
set_option linter.unusedVariables false
set_option linter.unusedSimpArgs false
open Go Pp

theorem fitN_app (p : Pl) (ps : List Pr) (xs ys : List (List Int)) : fitN p ps (xs ++ ys) = fitN p ps xs + fitN p ps ys := by simp [fitN]
theorem inB_of {v l h : Int} (h1 : l ≤ v) (h2 : v ≤ h) : inB v l h = true := inB_iff.2 ⟨h1, h2⟩
theorem lastsTo_app {ps : List Pr} {ls : List Int} {x : Pr} {v : Int} (hx : ps[ls.length]? = some x) (hv : inB v x.l x.h = true) (h : LastsTo ps ls ls.length) : LastsTo ps (ls ++ [v]) (ls ++ [v]).length := by
  intro i y l hi hy hl
  rw [List.getElem?_append] at hl
  split at hl
  · rename_i hlt
    exact h i y l hlt hy hl
  · rename_i hge
    have hi2 : i = ls.length := by
      have : (ls ++ [v]).length = ls.length + 1 := by simp
      omega
    subst hi2
    rw [hx] at hy
    cases hy
    have : v = l := by simpa using hl
    rw [← this]; exact hv
theorem count_go {p : Pl} {ps : List Pr} (hd : DealOk p ps) (hok : ∀ (i : Nat) (x : Pr), ps[i]? = some x → 0 ≤ x.l ∧ x.l ≤ x.h ∧ x.h ≤ 12) : ∀ (m : Nat) (ls : List Int), ls.length + m = ps.length → LastsTo ps ls ls.length → fitN p ps (comeF ps m ls) = countF p ps m ls := by
  intro m
  induction m with
  | zero =>
    intro ls hm hl
    have ho : lastsOk p ps ls = true := lastsOk_iff.2 ⟨hd, by omega, hl⟩
    simp [comeF, fitN, fit1, countF, planForR, ho]
  | succ m ih =>
    intro ls hm hl
    have hlt : ls.length < ps.length := by omega
    have hx := List.getElem?_eq_getElem hlt
    obtain ⟨h1, h2, h3⟩ := hok _ _ hx
    generalize ps[ls.length] = x at hx h1 h2 h3
    have e1 : comeF ps (m + 1) ls = comeK ps m ls x (x.h - x.l + 1).toNat := by unfold comeK; rw [comeF, hx]
    have e2 : countF p ps (m + 1) ls = countK p ps m ls x (x.h - x.l + 1).toNat := by unfold countK; rw [countF, hx]
    obtain ⟨N, hN⟩ : ∃ N, (x.h - x.l + 1).toNat = N := ⟨_, rfl⟩
    rw [e1, e2, hN]
    have hk : ∀ k : Nat, k ≤ N → fitN p ps (comeK ps m ls x k) = countK p ps m ls x k := by
      intro k
      induction k with
      | zero => intro _; simp [comeK, countK, fitN]
      | succ k ihk =>
        intro hk
        rw [comeK_succ, countK_succ, fitN_app, ihk (by omega), ih (ls ++ [x.l + (k : Int)]) (by simp; omega) (lastsTo_app hx (inB_of (by omega) (by omega)) hl)]
    exact hk N (Nat.le_refl _)
theorem count_same (p : Pl) (ps : List Pr) : countR p ps = if dealOk p ps then countF p ps ps.length [] else -1 := by
  unfold countR
  cases hd : dealOk p ps
  · rfl
  · have hdl := dealOk_iff.1 hd
    have hok : ∀ (i : Nat) (x : Pr), ps[i]? = some x → 0 ≤ x.l ∧ x.l ≤ x.h ∧ x.h ≤ 12 := by
      intro i x hx
      have h := hdl.2.2.2 i x (List.getElem?_eq_some_iff.1 hx).1 hx
      exact ⟨h.1.2.2.2.1, h.1.2.2.2.2.1, h.1.2.2.2.2.2⟩
    simp only [if_true]
    exact count_go hdl hok ps.length [] (by simp) (fun i y l hi => absurd hi (by simp))
end Go.Proofs.Ytdijfkpccbkdfaa
