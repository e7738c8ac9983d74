/-
  Plain laws: late and early, and the turned plan.
-/
import Derived.Test.YtdijfkpccbkdfaaP4
namespace Go.Proofs.Ytdijfkpccbkdfaa
set_option linter.unusedVariables false
set_option linter.unusedSimpArgs false
namespace Pp

/-- A told difference is not very small either. -/
theorem clT_low {p : Pl} (F : Fit p) {i j : Nat} (hi : i < nn p) (hj : j < nn p) (hf : clT p i j < Far) : -600 ≤ clT p i j := by
  have hn := nn_ok F.ok
  have hw := within_of_ok F.ok
  have hji : clT p j i < Far → 0 ≤ clT p j i + clT p i j := fun h => by have := F.closed j hj i i hi hi hf h; rw [F.diag i hi] at this; omega
  by_cases hij : i = j
  · subst hij; rw [F.diag i hi]; omega
  obtain ⟨y, hy, e⟩ := F.between hi hj (clT p i j) (fun e => absurd e hij) (fun _ => Int.le_refl _) (fun h => by have := hji h; omega)
  apply Classical.byContradiction
  intro hbig
  have key : ∀ m : Nat, m ≤ 6 → m + 1 ≤ (List.range (nn p)).countP fun v => decide (y v ≤ y j + 99 * m) := by
    intro m
    induction m with
    | zero =>
      intro _
      have : 0 < (List.range (nn p)).countP fun v => decide (y v ≤ y j + 99 * (0 : Nat)) := List.countP_pos_iff.2 ⟨j, List.mem_range.2 hj, by simp⟩
      omega
    | succ m ih =>
      intro hm
      have h0 := ih (by omega)
      refine Nat.lt_of_le_of_lt h0 (countP_lt _ (fun v _ hv => by simp only [decide_eq_true_eq] at hv ⊢; omega) ?_)
      apply Classical.byContradiction
      intro hno
      have gap : ∀ v, v < nn p → y v ≤ y j + 99 * m ∨ y j + 99 * m + 99 < y v := fun v hv => by
        apply Classical.byContradiction
        intro hc
        exact hno ⟨v, List.mem_range.2 hv, by simp; omega, by simp; omega⟩
      have hz : Sol p.bs (fun v => if y v ≤ y j + 99 * m then y v else y v - 1) := by
        intro b hb
        obtain ⟨⟨f1, f2⟩, ⟨t1, t2⟩, m1, m2⟩ := hw b hb
        have hb' := hy b hb
        have g1 := gap b.f.toNat (by omega)
        have g2 := gap b.t.toNat (by omega)
        (try dsimp only)
        split <;> split <;> omega
      have := F.le hi hj hz hf
      (try dsimp only at this)
      rw [if_pos (show y j ≤ y j + 99 * m by omega), if_neg (show ¬ y i ≤ y j + 99 * m by omega)] at this
      omega
  have := key 6 (by omega)
  have := List.countP_le_length (p := fun v => decide (y v ≤ y j + 99 * (6 : Nat))) (l := List.range (nn p))
  rw [List.length_range] at this
  omega

/-- The turned plan. -/
def turn (p : Pl) : Pl := if planOk p then ⟨p.n, p.bs.map fun b => ⟨b.t, b.f, b.m⟩⟩ else ⟨0, []⟩
theorem turn_ok {p : Pl} (h : planOk p = true) : planOk (turn p) = true ∧ nn (turn p) = nn p ∧ (turn p).n = p.n ∧ (turn p).bs = p.bs.map fun b => ⟨b.t, b.f, b.m⟩ := by
  unfold turn
  rw [if_pos h]
  refine ⟨?_, rfl, rfl, rfl⟩
  obtain ⟨h1, h2, h3⟩ := planOk_iff.1 h
  refine planOk_iff.2 ⟨h1, by simpa using h2, fun b hb => ?_⟩
  obtain ⟨a, ha, rfl⟩ := List.mem_map.1 hb
  have := bdOk_iff.1 (h3 a ha)
  exact bdOk_iff.2 ⟨this.2.1, this.1, this.2.2⟩
theorem turn_sol {p : Pl} (h : planOk p = true) (x : Nat → Int) : Sol (turn p).bs x ↔ Sol p.bs (fun v => -x v) := by
  rw [(turn_ok h).2.2.2]
  unfold Sol
  constructor
  · intro hx b hb
    have := hx ⟨b.t, b.f, b.m⟩ (List.mem_map.2 ⟨b, hb, rfl⟩)
    (try dsimp only at this ⊢)
    omega
  · intro hx b hb
    obtain ⟨a, ha, rfl⟩ := List.mem_map.1 hb
    have := hx a ha
    (try dsimp only at this ⊢)
    omega
theorem turn_fits {p : Pl} (h : fits p = true) : fits (turn p) = true := by
  have hp := planOk_of_fits h
  obtain ⟨y, hy⟩ := (fits_iff hp).1 h
  exact (fits_iff (turn_ok hp).1).2 ⟨fun v => -y v, (turn_sol hp _).2 (by simpa using hy)⟩
/-- Its closed table is the other one, turned. -/
theorem turn_clT {p : Pl} (h : fits p = true) {i j : Nat} (hi : i < nn p) (hj : j < nn p) : clT (turn p) i j = clT p j i := by
  have hp := planOk_of_fits h
  have F := fit_of h
  have G := fit_of (turn_fits h)
  have hk := (turn_ok hp).2.1
  have a : ∀ {i j : Nat}, i < nn p → j < nn p → clT p j i < Far → clT (turn p) i j < Far ∧ clT (turn p) i j ≤ clT p j i := fun hi hj hlt =>
    G.tight (by omega) (by omega) _ fun y hy => by have := F.le hj hi ((turn_sol hp y).1 hy) hlt; (try dsimp only at this); omega
  have b : ∀ {i j : Nat}, i < nn p → j < nn p → clT (turn p) i j < Far → clT p j i < Far ∧ clT p j i ≤ clT (turn p) i j := fun hi hj hlt =>
    F.tight hj hi _ fun y hy => by
      have hy' : Sol (turn p).bs (fun v => -y v) := (turn_sol hp _).2 (by simpa using hy)
      have := G.le (by omega) (by omega) hy' hlt
      (try dsimp only at this); omega
  by_cases h1 : clT p j i < Far
  · have h2 := a hi hj h1
    have h3 := b hi hj h2.1
    omega
  · by_cases h2 : clT (turn p) i j < Far
    · exact absurd (b hi hj h2).1 h1
    · have := clT_le (p := p) j i; have := clT_le (p := turn p) i j; omega

/-! ### rows of times -/

/-- What is told for each point, up to the first that is not told. -/
def rowOf (tell : Nat → Int × Bool) : Nat → List Int × Bool
  | 0 => ([], true)
  | k + 1 => if (rowOf tell k).2 && (tell k).2 then ((rowOf tell k).1 ++ [(tell k).1], true) else ([], false)
def latest (p : Pl) (f : Int) : List Int × Bool := if fits p && inB f 0 (p.n - 1) then rowOf (fun k => mostOf p f k) (nn p) else ([], false)
def earliest (p : Pl) (f : Int) : List Int × Bool := if fits p && inB f 0 (p.n - 1) then rowOf (fun k => leastOf p f k) (nn p) else ([], false)
theorem rowOf_no {tell : Nat → Int × Bool} : ∀ {n : Nat}, (rowOf tell n).2 = false → (rowOf tell n).1 = []
  | 0 => by simp [rowOf]
  | n + 1 => by simp only [rowOf]; split <;> simp
theorem rowOf_yes {tell : Nat → Int × Bool} : ∀ {n : Nat}, (rowOf tell n).2 = true → (rowOf tell n).1.length = n ∧ (∀ k, k < n → (tell k).2 = true) ∧ ∀ k, k < n → (rowOf tell n).1.getD k 0 = (tell k).1
  | 0 => by simp [rowOf]
  | n + 1 => by
    intro h
    simp only [rowOf] at h ⊢
    split at h
    · rename_i hc
      rw [if_pos hc]
      simp only [Bool.and_eq_true] at hc
      obtain ⟨h1, h2, h3⟩ := rowOf_yes hc.1
      refine ⟨by simp [h1], fun k hk => ?_, fun k hk => ?_⟩
      · rcases Nat.lt_succ_iff_lt_or_eq.1 hk with h | rfl
        · exact h2 k h
        · exact hc.2
      · rcases Nat.lt_succ_iff_lt_or_eq.1 hk with h | rfl
        · rw [← h3 k h]; simp [List.getD_eq_getElem?_getD, List.getElem?_append_left (show k < (rowOf tell n).1.length by omega)]
        · rw [List.getD_eq_getElem?_getD, List.getElem?_append_right (by omega), h1]; simp
    · cases h
theorem rowOf_all {tell : Nat → Int × Bool} : ∀ {n : Nat}, (∀ k, k < n → (tell k).2 = true) → (rowOf tell n).2 = true
  | 0, _ => rfl
  | n + 1, h => by
    simp only [rowOf]
    rw [if_pos (by rw [rowOf_all fun k hk => h k (by omega), h n (by omega)]; rfl)]
theorem rowOf_none {tell : Nat → Int × Bool} {n k : Nat} (hk : k < n) (h : (tell k).2 = false) : rowOf tell n = ([], false) := by
  have h2 : (rowOf tell n).2 = false := by
    cases hq : (rowOf tell n).2
    · rfl
    · have := (rowOf_yes hq).2.1 k hk; rw [h] at this; cases this
  have := rowOf_no h2
  exact Prod.ext this h2
theorem latest_fits {p : Pl} (h : fits p = true) (f : Int) : latest p f = rowOf (fun k => mostOf p f k) (nn p) := by
  have hn := nn_ok (planOk_of_fits h)
  unfold latest
  cases hin : inB f 0 (p.n - 1)
  · rw [h]
    simp only [Bool.and_false]
    refine (rowOf_none (k := 0) (by omega) ?_).symm
    unfold mostOf
    rw [h, hin]
    rfl
  · rw [h]; rfl
end Pp
end Go.Proofs.Ytdijfkpccbkdfaa
