/-
  Plain laws: what one plan implies of another one.
-/
import Derived.Test.YtdijfkpccbkdfaaP3
namespace Go.Proofs.Ytdijfkpccbkdfaa
set_option linter.unusedVariables false
set_option linter.unusedSimpArgs false
namespace Pp

/-- Each number of a table is at most that of another one, row by row up to a place. -/
def rowLe (D T : Tb) (i : Nat) : Nat → Bool
  | 0 => true
  | k + 1 => rowLe D T i k && decide (D i k ≤ T i k)
def tabLe (D T : Tb) (n : Nat) : Nat → Bool
  | 0 => true
  | i + 1 => tabLe D T n i && rowLe D T i n
theorem rowLe_iff {D T : Tb} {i : Nat} : ∀ {k : Nat}, rowLe D T i k = true ↔ ∀ j, j < k → D i j ≤ T i j
  | 0 => by simp [rowLe]
  | k + 1 => by
    simp only [rowLe, Bool.and_eq_true, decide_eq_true_eq, rowLe_iff (k := k)]
    constructor
    · rintro ⟨h1, h2⟩ j hj
      rcases Nat.lt_succ_iff_lt_or_eq.1 hj with h | rfl
      · exact h1 j h
      · exact h2
    · exact fun h => ⟨fun j hj => h j (by omega), h k (by omega)⟩
theorem tabLe_iff {D T : Tb} {n : Nat} : ∀ {i : Nat}, tabLe D T n i = true ↔ ∀ a, a < i → ∀ j, j < n → D a j ≤ T a j
  | 0 => by simp [tabLe]
  | i + 1 => by
    simp only [tabLe, Bool.and_eq_true, tabLe_iff (i := i), rowLe_iff]
    constructor
    · rintro ⟨h1, h2⟩ a ha
      rcases Nat.lt_succ_iff_lt_or_eq.1 ha with h | rfl
      · exact h1 a h
      · exact h2
    · exact fun h => ⟨fun a ha => h a (by omega), h i (by omega)⟩
theorem rowLe_no {D T : Tb} {i j n : Nat} (hj : j < n) (h : ¬ D i j ≤ T i j) : rowLe D T i n = false := by
  cases hr : rowLe D T i n
  · rfl
  · exact absurd (rowLe_iff.1 hr j hj) h
theorem tabLe_no {D T : Tb} {i j n m : Nat} (hi : i < m) (hj : j < n) (h : ¬ D i j ≤ T i j) : tabLe D T n m = false := by
  cases hr : tabLe D T n m
  · rfl
  · exact absurd (tabLe_iff.1 hr i hi j hj) h

/-- What impl.ImpliesOk and spec.ImpliesOk tell. -/
def implies (p q : Pl) : Bool := planOk p && planOk q && decide (p.n = q.n) && (!fits p || tabLe (clT p) (tab0 q.bs) (nn p) (nn p))
def alike (p q : Pl) : Bool := implies p q && implies q p

theorem implies_ok {p q : Pl} (h : implies p q = true) : planOk p = true ∧ planOk q = true ∧ p.n = q.n := by
  unfold implies at h; simp only [Bool.and_eq_true, decide_eq_true_eq] at h; exact ⟨h.1.1.1, h.1.1.2, h.1.2⟩
/-- It holds just if all times that keep the first plan keep the second one. -/
theorem implies_iff {p q : Pl} (hp : planOk p = true) (hq : planOk q = true) (hn : p.n = q.n) : implies p q = true ↔ ∀ y, Sol p.bs y → Sol q.bs y := by
  have hnn : nn p = nn q := by unfold nn; rw [hn]
  unfold implies
  rw [hp, hq, decide_eq_true hn]
  simp only [Bool.and_true, Bool.true_and, Bool.or_eq_true, Bool.not_eq_true']
  cases hf : fits p
  · simp only [true_or, true_iff]
    intro y hy
    have := (fits_iff hp).2 ⟨y, hy⟩
    rw [hf] at this; cases this
  · have F := fit_of hf
    simp only [Bool.true_eq_false, false_or, tabLe_iff]
    constructor
    · intro h y hy
      refine (tsol_tab0 (M := 99) (by unfold Far; omega) (within_of_ok hq) y).1 fun i j hi hj hlt => ?_
      have := h i (by omega) j (by omega)
      exact Int.le_trans (F.le (by omega) (by omega) hy (by omega)) this
    · intro h i hi j hj
      by_cases hlt : tab0 q.bs i j < Far
      · exact (F.tight hi hj _ fun y hy => (tsol_tab0 (M := 99) (by unfold Far; omega) (within_of_ok hq) y).2 (h y hy) i j (by omega) (by omega) hlt).2
      · have := clT_le (p := p) i j; omega
theorem implies_self {p : Pl} (h : planOk p = true) : implies p p = true := (implies_iff h h rfl).2 fun _ hy => hy
theorem alike_iff {p q : Pl} (hp : planOk p = true) (hq : planOk q = true) (hn : p.n = q.n) : alike p q = true ↔ ∀ y, Sol p.bs y ↔ Sol q.bs y := by
  unfold alike
  rw [Bool.and_eq_true, implies_iff hp hq hn, implies_iff hq hp hn.symm]
  exact ⟨fun h y => ⟨h.1 y, h.2 y⟩, fun h => ⟨fun y => (h y).1, fun y => (h y).2⟩⟩
end Pp
end Go.Proofs.Ytdijfkpccbkdfaa
