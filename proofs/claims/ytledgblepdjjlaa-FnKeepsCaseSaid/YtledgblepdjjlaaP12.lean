/-
  Times for a plan, one point after another (TimesFor). No program.
-/
import Derived.Test.YtledgblepdjjlaaP10
namespace Go.Proofs.Ytledgblepdjjlaa
set_option linter.unusedVariables false
set_option linter.unusedSimpArgs false
namespace Pp

def nwAt (T : Tb) (pt : Nat) (a : Int × Int) (i : Nat) (x : Int) : Int × Int := (if T pt i < Far then max a.1 (x - T pt i) else a.1, if T i pt < Far then min a.2 (x + T i pt) else a.2)
def nwTo (T : Tb) (xs : List Int) (pt : Nat) : Nat → Int × Int
  | 0 => (-Far, Far)
  | k + 1 => nwAt T pt (nwTo T xs pt k) k (xs.getD k 0)
theorem nwTo_step {T : Tb} {xs : List Int} {pt k : Nat} {lo hi x : Int} (h : nwTo T xs pt k = (lo, hi)) (hx : xs.getD k 0 = x) : nwTo T xs pt (k + 1) = nwAt T pt (lo, hi) k x := by
  show nwAt T pt (nwTo T xs pt k) k (xs.getD k 0) = _
  rw [h, hx]
/-- All numbers of a list are small. -/
def AbsTo (xs : List Int) (M : Int) : Prop := ∀ i, -M ≤ xs.getD i 0 ∧ xs.getD i 0 ≤ M
theorem nwTo_abs {n : Nat} {T : Tb} (hT : Small n T) {xs : List Int} {M : Int} (hx : AbsTo xs M) (h0 : 0 ≤ M) (h1 : M ≤ 10000) {pt : Nat} (hp : pt < n) :
    ∀ k, k ≤ n → ((nwTo T xs pt k).1 = -100000 ∨ (-(M + 600) ≤ (nwTo T xs pt k).1 ∧ (nwTo T xs pt k).1 ≤ M + 600)) ∧ ((nwTo T xs pt k).2 = 100000 ∨ (-(M + 600) ≤ (nwTo T xs pt k).2 ∧ (nwTo T xs pt k).2 ≤ M + 600))
  | 0, _ => by simp [nwTo, Far]
  | k + 1, hk => by
    have ih := nwTo_abs hT hx h0 h1 hp k (by omega)
    have h2 := hT pt k hp (by omega)
    have h3 := hT k pt (by omega) hp
    have h4 := hx k
    simp only [nwTo, nwAt]
    generalize nwTo T xs pt k = a at ih ⊢
    obtain ⟨i1, i2⟩ := ih
    refine ⟨?_, ?_⟩
    · split
      · rename_i hf; have := h2.2 hf; omega
      · exact i1
    · split
      · rename_i hf; have := h3.2 hf; omega
      · exact i2
/-- The time of the next point. -/
def nextT (T : Tb) (xs : List Int) : Int := if -100000 < (nwTo T xs xs.length xs.length).1 then (nwTo T xs xs.length xs.length).1 else if (nwTo T xs xs.length xs.length).2 < 100000 then (nwTo T xs xs.length xs.length).2 else 0
theorem nextT_abs {n : Nat} {T : Tb} (hT : Small n T) {xs : List Int} {M : Int} (hx : AbsTo xs M) (h0 : 0 ≤ M) (h1 : M ≤ 10000) (hp : xs.length < n) : -(M + 600) ≤ nextT T xs ∧ nextT T xs ≤ M + 600 := by
  have h := nwTo_abs hT hx h0 h1 hp xs.length (by omega)
  unfold nextT
  split
  · omega
  · split <;> omega
theorem absTo_next {xs : List Int} {M v : Int} (hx : AbsTo xs M) (h0 : 0 ≤ M) (hv : -(M + 600) ≤ v ∧ v ≤ M + 600) : AbsTo (xs ++ [v]) (M + 600) := by
  intro i
  have h := hx i
  rw [List.getD_eq_getElem?_getD] at *
  by_cases hi : i < xs.length
  · rw [List.getElem?_append_left hi]; omega
  · rw [List.getElem?_append_right (by omega)]
    by_cases e : i = xs.length
    · subst e; simp; omega
    · rw [List.getElem?_eq_none (by simp; omega)]; simp; omega
def endT (T : Tb) : Nat → List Int → List Int
  | 0, xs => xs
  | m + 1, xs => endT T m (xs ++ [nextT T xs])
theorem endT_length (T : Tb) : ∀ (m : Nat) (xs : List Int), (endT T m xs).length = xs.length + m
  | 0, _ => rfl
  | m + 1, xs => by rw [endT, endT_length T m]; simp; omega
def timesFor (p : Pl) : List Int × Bool := if fits p then (endT (clT p) (nn p) [], true) else ([], false)
theorem timesFor_len (p : Pl) : (timesFor p).1.length ≤ 6 := by
  unfold timesFor
  split
  · rename_i h
    have := nn_ok (planOk_of_fits h)
    dsimp only
    rw [endT_length]
    simp
    omega
  · exact Nat.zero_le _
theorem endT_abs {n : Nat} {T : Tb} (hT : Small n T) : ∀ (m : Nat) (xs : List Int) (M : Int), AbsTo xs M → 0 ≤ M → M + 600 * m ≤ 10000 → xs.length + m ≤ n → AbsTo (endT T m xs) (M + 600 * m)
  | 0, xs, M, hx, _, _, _ => by simpa [endT] using hx
  | m + 1, xs, M, hx, h0, h1, hl => by
    have hv := nextT_abs hT hx h0 (by omega) (by omega)
    have h := endT_abs hT m (xs ++ [nextT T xs]) (M + 600) (absTo_next hx h0 hv) (by omega) (by omega) (by simp; omega)
    rw [endT]
    intro i
    have := h i
    omega
theorem timesFor_abs (p : Pl) : AbsTo (timesFor p).1 4000 := by
  unfold timesFor
  split
  · rename_i h
    have hn := nn_ok (planOk_of_fits h)
    have hz : AbsTo [] 0 := fun i => by simp
    have := endT_abs (small_clT h) (nn p) [] 0 hz (by omega) (by omega) (by simp)
    intro i
    have := this i
    dsimp only at *
    omega
  · intro i; simp
end Pp
end Go.Proofs.Ytledgblepdjjlaa
