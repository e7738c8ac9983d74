/-
  Times for a strong deal. No program.
-/
import Derived.Test.YtdijfkpccbkdfaaP9
import Derived.Test.YtdijfkpccbkdfaaP12
namespace Go.Proofs.Ytdijfkpccbkdfaa
set_option linter.unusedVariables false
set_option linter.unusedSimpArgs false
namespace Pp

def setT : List Pr → List Int → List Int → List Int
  | x :: ps, l :: ls, ys => setT ps ls (ys.set x.t.toNat (ys.getD x.f.toNat 0 + l))
  | [], _, ys => ys
  | _, [], ys => ys
theorem setT_step : ∀ (ps : List Pr) (ls : List Int) (k : Nat) (x : Pr) (l : Int) (ys : List Int), ps[k]? = some x → ls[k]? = some l →
    setT (ps.take (k + 1)) (ls.take (k + 1)) ys = (setT (ps.take k) (ls.take k) ys).set x.t.toNat ((setT (ps.take k) (ls.take k) ys).getD x.f.toNat 0 + l)
  | [], ls, k, x, l, ys, h, _ => by simp at h
  | y :: ps, [], k, x, l, ys, _, h => by simp at h
  | y :: ps, m :: ls, 0, x, l, ys, h1, h2 => by
    simp at h1 h2
    subst h1; subst h2
    simp [setT]
  | y :: ps, m :: ls, k + 1, x, l, ys, h1, h2 => by
    have := setT_step ps ls k x l (ys.set y.t.toNat (ys.getD y.f.toNat 0 + m)) (by simpa using h1) (by simpa using h2)
    simpa only [List.take_succ_cons, setT] using this
theorem setT_take : ∀ (ps : List Pr) (ls ys : List Int), setT (ps.take ls.length) ls ys = setT ps ls ys
  | [], ls, ys => by simp
  | x :: ps, [], ys => by simp [setT]
  | x :: ps, l :: ls, ys => by simp [setT, setT_take ps ls]
theorem setT_length : ∀ (ps : List Pr) (ls ys : List Int), (setT ps ls ys).length = ys.length
  | [], ls, ys => by simp [setT]
  | x :: ps, [], ys => by simp [setT]
  | x :: ps, l :: ls, ys => by simp [setT, setT_length ps ls]
theorem absTo_set {xs : List Int} {M v : Int} {t : Nat} (hx : AbsTo xs M) (h0 : 0 ≤ M) (hv : -(M + 12) ≤ v ∧ v ≤ M + 12) : AbsTo (xs.set t v) (M + 12) := by
  intro i
  have h := hx i
  rw [List.getD_eq_getElem?_getD] at *
  by_cases e : t = i
  · subst e
    by_cases hi : t < xs.length
    · rw [List.getElem?_set_self hi]; simpa using hv
    · rw [List.getElem?_eq_none (by simp; omega)]; simp; omega
  · rw [List.getElem?_set_ne e]; omega
end Pp
end Go.Proofs.Ytdijfkpccbkdfaa
