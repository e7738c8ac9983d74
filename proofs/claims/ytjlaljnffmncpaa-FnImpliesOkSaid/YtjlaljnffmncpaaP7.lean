/-
  Plain laws: what two plans both say.
-/
import Derived.Test.YtjlaljnffmncpaaP2
namespace Go.Proofs.Ytjlaljnffmncpaa
set_option linter.unusedVariables false
set_option linter.unusedSimpArgs false
namespace Pp

/-- The table of the greater numbers of two closed tables. -/
def maxT (T U : Tb) : Tb := fun i j => max (T i j) (U i j)

/-- The bounds of a table, row by row, between different points, as far as they are told. -/
def rowBs (T : Tb) (i : Nat) : Nat → List Bd
  | 0 => []
  | k + 1 => rowBs T i k ++ (if i ≠ k ∧ T i k < Far then [⟨i, k, T i k⟩] else [])
def tabBs (T : Tb) (n : Nat) : Nat → List Bd
  | 0 => []
  | i + 1 => tabBs T n i ++ rowBs T i n
theorem mem_rowBs {T : Tb} {i : Nat} {b : Bd} : ∀ {k : Nat}, b ∈ rowBs T i k ↔ ∃ j, j < k ∧ i ≠ j ∧ T i j < Far ∧ b = ⟨i, j, T i j⟩
  | 0 => by simp [rowBs]
  | k + 1 => by
    simp only [rowBs, List.mem_append, mem_rowBs (k := k)]
    constructor
    · rintro (⟨j, h1, h2⟩ | h)
      · exact ⟨j, by omega, h2⟩
      · split at h
        · rename_i hc
          simp only [List.mem_singleton] at h
          exact ⟨k, by omega, hc.1, hc.2, h⟩
        · cases h
    · rintro ⟨j, h1, h2, h3, rfl⟩
      rcases Nat.lt_succ_iff_lt_or_eq.1 h1 with h | rfl
      · exact .inl ⟨j, h, h2, h3, rfl⟩
      · exact .inr (by rw [if_pos ⟨h2, h3⟩]; simp)
theorem mem_tabBs {T : Tb} {n : Nat} {b : Bd} : ∀ {m : Nat}, b ∈ tabBs T n m ↔ ∃ i j, i < m ∧ j < n ∧ i ≠ j ∧ T i j < Far ∧ b = ⟨i, j, T i j⟩
  | 0 => by simp [tabBs]
  | m + 1 => by
    simp only [tabBs, List.mem_append, mem_tabBs (m := m), mem_rowBs]
    constructor
    · rintro (⟨i, j, h1, h2⟩ | ⟨j, h1, h2⟩)
      · exact ⟨i, j, by omega, h2⟩
      · exact ⟨m, j, by omega, h1, h2⟩
    · rintro ⟨i, j, h1, h2, h3⟩
      rcases Nat.lt_succ_iff_lt_or_eq.1 h1 with h | rfl
      · exact .inl ⟨i, j, h, h2, h3⟩
      · exact .inr ⟨j, h2, h3⟩

/-- Times keep the bounds of a table just if they keep the table (its own differences aside). -/
theorem tabBs_sol {T : Tb} {n : Nat} {x : Nat → Int} : Sol (tabBs T n n) x ↔ ∀ i j, i < n → j < n → i ≠ j → T i j < Far → x j - x i ≤ T i j := by
  unfold Sol
  constructor
  · intro h i j hi hj hne hlt
    have := h ⟨i, j, T i j⟩ (mem_tabBs.2 ⟨i, j, hi, hj, hne, hlt, rfl⟩)
    simpa using this
  · intro h b hb
    obtain ⟨i, j, hi, hj, hne, hlt, rfl⟩ := mem_tabBs.1 hb
    simpa using h i j hi hj hne hlt

/-- What impl.CommonOf and spec.CommonOf tell: the plan of the table of the greater numbers, and whether it is one. -/
def common (p q : Pl) : Pl × Bool :=
  if fits p && fits q && decide (p.n = q.n) && decide (p.n ≤ 4) && planOk ⟨p.n, tabBs (maxT (clT p) (clT q)) (nn p) (nn p)⟩ then (⟨p.n, tabBs (maxT (clT p) (clT q)) (nn p) (nn p)⟩, true) else (⟨0, []⟩, false)

theorem common_some {p q x : Pl} (h : common p q = (x, true)) : fits p = true ∧ fits q = true ∧ p.n = q.n ∧ planOk x = true ∧ x.n = p.n ∧ x.bs = tabBs (maxT (clT p) (clT q)) (nn p) (nn p) := by
  unfold common at h
  split at h
  · rename_i hc
    simp only [Bool.and_eq_true, decide_eq_true_eq] at hc
    obtain ⟨⟨⟨⟨h1, h2⟩, h3⟩, h4⟩, h5⟩ := hc
    injection h with e1 _
    subst e1
    exact ⟨h1, h2, h3, h5, rfl, rfl⟩
  · injection h with _ h; cases h

/-- What keeps the first plan keeps the common one. -/
theorem common_left {p q x : Pl} (h : common p q = (x, true)) (y : Nat → Int) (hy : Sol p.bs y) : Sol x.bs y := by
  obtain ⟨h1, h2, h3, h4, h5, h6⟩ := common_some h
  have F := fit_of h1
  rw [h6, tabBs_sol]
  intro i j hi hj hne hlt
  have a := clT_le (p := p) i j
  have : clT p i j ≤ maxT (clT p) (clT q) i j := by unfold maxT; omega
  exact Int.le_trans (F.le hi hj hy (by omega)) this
theorem common_right {p q x : Pl} (h : common p q = (x, true)) (y : Nat → Int) (hy : Sol q.bs y) : Sol x.bs y := by
  obtain ⟨h1, h2, h3, h4, h5, h6⟩ := common_some h
  have F := fit_of h2
  have hnn : nn p = nn q := by unfold nn; rw [h3]
  rw [h6, tabBs_sol]
  intro i j hi hj hne hlt
  have : clT q i j ≤ maxT (clT p) (clT q) i j := by unfold maxT; omega
  exact Int.le_trans (F.le (by omega) (by omega) hy (by omega)) this
/-- A bound that both imply is implied by the common one. -/
theorem common_alone {p q x : Pl} (h : common p q = (x, true)) (b : Bd) (hb : planOk ⟨p.n, [b]⟩ = true) (h1 : ∀ y, Sol p.bs y → Sol [b] y) (h2 : ∀ y, Sol q.bs y → Sol [b] y) (y : Nat → Int) (hy : Sol x.bs y) : Sol [b] y := by
  obtain ⟨f1, f2, h3, h4, h5, h6⟩ := common_some h
  have F := fit_of f1
  have G := fit_of f2
  have hnn : nn p = nn q := by unfold nn; rw [h3]
  have hn := nn_ok F.ok
  have hbd := bdOk_iff.1 ((planOk_iff.1 hb).2.2 b (by simp))
  dsimp only at hbd
  have one : ∀ z : Nat → Int, Sol [b] z ↔ z b.t.toNat - z b.f.toNat ≤ b.m := fun z => by unfold Sol; simp
  rw [one]
  have a := F.tight (i := b.f.toNat) (j := b.t.toNat) (by omega) (by omega) b.m (fun z hz => (one z).1 (h1 z hz))
  have c := G.tight (i := b.f.toNat) (j := b.t.toNat) (by omega) (by omega) b.m (fun z hz => (one z).1 (h2 z hz))
  by_cases e : b.f.toNat = b.t.toNat
  · rw [e] at a ⊢
    rw [F.diag _ (by omega)] at a
    omega
  · rw [h6, tabBs_sol] at hy
    have hlt : maxT (clT p) (clT q) b.f.toNat b.t.toNat < Far := by unfold maxT; omega
    have := hy b.f.toNat b.t.toNat (by omega) (by omega) e hlt
    unfold maxT at this
    omega
/-- The common one of a plan and itself is kept alike. -/
theorem common_self {p x : Pl} (h : common p p = (x, true)) (y : Nat → Int) : Sol x.bs y ↔ Sol p.bs y := by
  constructor
  · intro hy
    obtain ⟨h1, _, h3, h4, h5, h6⟩ := common_some h
    have F := fit_of h1
    refine (F.sol y).1 fun i j hi hj hlt => ?_
    by_cases e : i = j
    · subst e; rw [F.diag i hi]; omega
    · rw [h6, tabBs_sol] at hy
      have hm : maxT (clT p) (clT p) i j = clT p i j := by unfold maxT; omega
      have := hy i j hi hj e (by rw [hm]; exact hlt)
      rwa [hm] at this
  · exact common_left h y
end Pp
end Go.Proofs.Ytjlaljnffmncpaa
