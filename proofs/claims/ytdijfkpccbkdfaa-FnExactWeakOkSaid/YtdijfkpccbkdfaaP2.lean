/-
  Plain laws of plans that fit (no program in sight).
-/
import Derived.Test.YtdijfkpccbkdfaaPure
namespace Go.Proofs.Ytdijfkpccbkdfaa
set_option linter.unusedVariables false
set_option linter.unusedSimpArgs false
namespace Pp

theorem clT_diag_le (p : Pl) (i : Nat) : clT p i i ≤ 0 := Int.le_trans (clo_le _ _ i i) ((tab0_le _ i i).2 rfl)

structure Fit (p : Pl) : Prop where
  ok : planOk p = true
  mild : Mild (nn p) (clT p)
  closed : ClosedTo (nn p) (nn p) (clT p)
  diag : ∀ i, i < nn p → clT p i i = 0
  sol : ∀ y, TSol (nn p) (clT p) y ↔ Sol p.bs y

theorem clT_sol {p : Pl} (h : planOk p = true) (y : Nat → Int) : TSol (nn p) (clT p) y ↔ Sol p.bs y :=
  (tsol_clo y).trans (tsol_tab0 (M := 99) (by unfold Far; omega) (within_of_ok h) y)
theorem clT_mild {p : Pl} (h : planOk p = true) : MildTo (nn p) (tab0 p.bs) := (small_ok (nn_ok h).1 (by omega) (by omega : (99 : Int) ≤ 700) (within_of_ok h)).1

theorem fit_of {p : Pl} (h : fits p = true) : Fit p := by
  have hp := planOk_of_fits h
  have hd : ∀ i, i < nn p → 0 ≤ clT p i i := by
    unfold fits at h; simp only [Bool.and_eq_true] at h; exact diagOk_iff.1 h.2
  exact ⟨hp, clT_mild hp _ (Nat.le_refl _), clo_closed (clT_mild hp) hd, fun i hi => by have := hd i hi; have := clT_diag_le p i; omega, clT_sol hp⟩

theorem fits_iff {p : Pl} (h : planOk p = true) : fits p = true ↔ ∃ y, Sol p.bs y := by
  constructor
  · intro hf
    have F := fit_of hf
    obtain ⟨y, hy⟩ := sol_some F.mild F.closed (fun i hi => by rw [F.diag i hi]; exact Int.le_refl _)
    exact ⟨y, (F.sol y).1 hy⟩
  · rintro ⟨y, hy⟩
    unfold fits
    simp only [Bool.and_eq_true]
    refine ⟨h, diagOk_iff.2 fun i hi => ?_⟩
    have := clT_diag_le p i
    have := (clT_sol h y).2 hy i i hi hi (by unfold Far; omega)
    omega

theorem Fit.tight {p : Pl} (F : Fit p) {i j : Nat} (hi : i < nn p) (hj : j < nn p) (c : Int) (h : ∀ y, Sol p.bs y → y j - y i ≤ c) : clT p i j < Far ∧ clT p i j ≤ c :=
  Pp.tight F.mild F.closed (fun i hi => by rw [F.diag i hi]; exact Int.le_refl _) hi hj c (fun y hy => h y ((F.sol y).1 hy)) (fun e => by subst e; rw [F.diag i hi]; exact Int.le_refl _)
theorem Fit.le {p : Pl} (F : Fit p) {i j : Nat} (hi : i < nn p) (hj : j < nn p) {y : Nat → Int} (hy : Sol p.bs y) (hf : clT p i j < Far) : y j - y i ≤ clT p i j :=
  (F.sol y).2 hy i j hi hj hf
/-- Between the least and the most all may be. -/
theorem Fit.between {p : Pl} (F : Fit p) {i j : Nat} (hi : i < nn p) (hj : j < nn p) (v : Int) (hij : i = j → v = 0) (h1 : clT p i j < Far → v ≤ clT p i j) (h2 : clT p j i < Far → -clT p j i ≤ v) : ∃ y, Sol p.bs y ∧ y j - y i = v := by
  by_cases e : i = j
  · subst e
    obtain ⟨y, hy⟩ := (fits_iff F.ok).1 (by unfold fits; simp only [Bool.and_eq_true]; exact ⟨F.ok, diagOk_iff.2 fun i hi => by rw [F.diag i hi]; exact Int.le_refl _⟩)
    exact ⟨y, hy, by have := hij rfl; omega⟩
  · obtain ⟨y, hy, he⟩ := sol_between F.mild F.closed (fun i hi => by rw [F.diag i hi]; exact Int.le_refl _) hi hj e v h1 h2
    exact ⟨y, (F.sol y).1 hy, he⟩

/-- Of more bounds, or of more that is implied: the closed table is no greater. -/
theorem Fit.mono {p q : Pl} (F : Fit p) (G : Fit q) (hn : nn p = nn q) (h : ∀ y, Sol q.bs y → Sol p.bs y) (i j : Nat) (hi : i < nn p) (hj : j < nn p) : clT q i j ≤ clT p i j := by
  by_cases hf : clT p i j < Far
  · exact (G.tight (by omega) (by omega) _ fun y hy => F.le hi hj (h y hy) hf).2
  · have := clT_le (p := p) i j; have := clT_le (p := q) i j; unfold Far at *; omega

/-! ### told differences are small -/

theorem countP_lt {p q : Nat → Bool} : ∀ (l : List Nat), (∀ v ∈ l, p v = true → q v = true) → (∃ v ∈ l, q v = true ∧ p v = false) → l.countP p < l.countP q
  | [], _, ⟨v, hv, _⟩ => by simp at hv
  | a :: l, h, ⟨v, hv, h1, h2⟩ => by
    have hle : l.countP p ≤ l.countP q := by
      exact List.countP_mono_left fun x hx hpx => h x (List.mem_cons_of_mem _ hx) hpx
    rw [List.countP_cons, List.countP_cons]
    rcases List.mem_cons.1 hv with e | e
    · subst e; rw [h1, h2]; simp; omega
    · have ih := countP_lt l (fun x hx => h x (List.mem_cons_of_mem _ hx)) ⟨v, e, h1, h2⟩
      have := h a (List.mem_cons_self ..)
      cases hp : p a
      · cases q a <;> simp <;> omega
      · rw [this hp]; simp; omega

/-- No bound leads out of a set: nor does a told difference. -/
theorem crossing {n : Nat} {T : Tb} {S : Nat → Prop} (h : ∀ i j, i < n → j < n → S i → ¬ S j → ¬ T i j < Far) : ∀ k, k ≤ n → ∀ i j, i < n → j < n → S i → ¬ S j → ¬ clo T k i j < Far := by
  intro k
  induction k with
  | zero => intro _ i j hi hj si sj; exact h i j hi hj si sj
  | succ k ih =>
    intro hk i j hi hj si sj
    show ¬ relax k (clo T k) i j < Far
    rcases relax_or k (clo T k) i j with e | ⟨a, b, _⟩
    · rw [e]; exact ih (by omega) i j hi hj si sj
    · by_cases sk : S k
      · exact absurd b (ih (by omega) k j (by omega) hj sk sj)
      · exact absurd a (ih (by omega) i k hi (by omega) si sk)

theorem clT_small {p : Pl} (F : Fit p) {i j : Nat} (hi : i < nn p) (hj : j < nn p) (hf : clT p i j < Far) : clT p i j ≤ 600 := by
  have hn := nn_ok F.ok
  have hw := within_of_ok F.ok
  have hji : clT p j i < Far → 0 ≤ clT p j i + clT p i j := fun h => by have := F.closed j hj i i hi hi hf h; rw [F.diag i hi] at this; omega
  by_cases hij : i = j
  · subst hij; rw [F.diag i hi]; omega
  obtain ⟨y, hy, e⟩ := F.between hi hj (clT p i j) (fun e => absurd e hij) (fun _ => Int.le_refl _) (fun h => by have := hji h; omega)
  apply Classical.byContradiction
  intro hbig
  have key : ∀ m : Nat, m ≤ 6 → m + 1 ≤ (List.range (nn p)).countP fun v => decide (y v ≤ y i + 99 * m) := by
    intro m
    induction m with
    | zero =>
      intro _
      have : 0 < (List.range (nn p)).countP fun v => decide (y v ≤ y i + 99 * (0 : Nat)) := List.countP_pos_iff.2 ⟨i, List.mem_range.2 hi, by simp⟩
      omega
    | succ m ih =>
      intro hm
      have h0 := ih (by omega)
      refine Nat.lt_of_le_of_lt h0 (countP_lt _ (fun v _ hv => by simp only [decide_eq_true_eq] at hv ⊢; omega) ?_)
      apply Classical.byContradiction
      intro hno
      have hcr := crossing (n := nn p) (T := tab0 p.bs) (S := fun v => y v ≤ y i + 99 * m) (by
        intro a b ha hb sa sb hab
        have h1 := (tab0_abs (by omega) hw a b).1 hab
        have h2 := (tsol_tab0 (M := 99) (by unfold Far; omega) hw y).2 hy a b ha hb hab
        exact hno ⟨b, List.mem_range.2 hb, by simp; omega, by simp; omega⟩) (nn p) (Nat.le_refl _) i j hi hj (by omega) (by omega)
      exact hcr hf
  have := key 6 (by omega)
  have := List.countP_le_length (p := fun v => decide (y v ≤ y i + 99 * (6 : Nat))) (l := List.range (nn p))
  rw [List.length_range] at this
  omega

/-! ### how many numbers may be -/

theorem mostOf_some {p : Pl} {f t : Int} (h : (mostOf p f t).2 = true) : Fit p ∧ fits p = true ∧ (0 ≤ f ∧ f < p.n) ∧ (0 ≤ t ∧ t < p.n) ∧ clT p f.toNat t.toNat < Far ∧ (mostOf p f t).1 = clT p f.toNat t.toNat := by
  unfold mostOf at h ⊢
  split at h
  · rename_i hc
    rw [if_pos hc]
    simp only [Bool.and_eq_true, inB_iff, decide_eq_true_eq] at hc
    exact ⟨fit_of hc.1.1.1, hc.1.1.1, by omega, by omega, hc.2, rfl⟩
  · cases h
theorem mostOf_is {p : Pl} {f t : Int} (h : fits p = true) (hf : 0 ≤ f ∧ f < p.n) (ht : 0 ≤ t ∧ t < p.n) (hc : clT p f.toNat t.toNat < Far) : mostOf p f t = (clT p f.toNat t.toNat, true) := by
  unfold mostOf
  rw [if_pos (by simp only [Bool.and_eq_true, inB_iff, decide_eq_true_eq]; exact ⟨⟨⟨h, by omega⟩, by omega⟩, hc⟩)]

theorem wideOf_some {p : Pl} {f t : Int} (h : wideOf p f t ≠ 0) : Fit p ∧ fits p = true ∧ (0 ≤ f ∧ f < p.n) ∧ (0 ≤ t ∧ t < p.n) ∧ clT p f.toNat t.toNat < Far ∧ clT p t.toNat f.toNat < Far ∧
    mostOf p f t = (clT p f.toNat t.toNat, true) ∧ leastOf p f t = (-clT p t.toNat f.toNat, true) ∧ wideOf p f t = clT p f.toNat t.toNat + clT p t.toNat f.toNat + 1 := by
  unfold wideOf at h ⊢
  split at h
  · rename_i hc
    rw [if_pos hc]
    simp only [Bool.and_eq_true] at hc
    obtain ⟨F, hfit, hf, ht, h1, e1⟩ := mostOf_some hc.1
    obtain ⟨_, _, _, _, h2, e2⟩ := mostOf_some (p := p) (f := t) (t := f) hc.2
    have e3 := mostOf_is hfit ht hf h2
    refine ⟨F, hfit, hf, ht, h1, h2, mostOf_is hfit hf ht h1, ?_, ?_⟩
    · unfold leastOf; rw [e3]
    · rw [e1]; unfold leastOf; rw [e3]; dsimp only; omega
  · exact absurd rfl h

theorem wide_pos {p : Pl} {f t : Int} (h : wideOf p f t ≠ 0) : 1 ≤ wideOf p f t ∧ (leastOf p f t).2 = true := by
  obtain ⟨F, hfit, hf, ht, h1, h2, e1, e2, e3⟩ := wideOf_some h
  have hn := nn_ok F.ok
  have := F.closed t.toNat (by omega) f.toNat f.toNat (by omega) (by omega) h1 h2
  rw [F.diag _ (by omega)] at this
  rw [e3, e2]
  exact ⟨by omega, rfl⟩

/-- Which numbers from the least on may be. -/
theorem wide_may {p : Pl} {f t : Int} (h : wideOf p f t ≠ 0) (hs : wideOf p f t ≤ 400) (k : Nat) (hk : k < 400) : mayBe p f t ((leastOf p f t).1 + k) = decide ((k : Int) < wideOf p f t) := by
  obtain ⟨F, hfit, hf, ht, h1, h2, e1, e2, e3⟩ := wideOf_some h
  have hn := nn_ok F.ok
  have b1 := clT_small F (i := f.toNat) (j := t.toNat) (by omega) (by omega) h1
  have b2 := clT_small F (i := t.toNat) (j := f.toNat) (by omega) (by omega) h2
  have hc := F.closed t.toNat (by omega) f.toNat f.toNat (by omega) (by omega) h1 h2
  rw [F.diag _ (by omega)] at hc
  rw [e3] at hs
  rw [e2, e3]
  unfold mayBe mayT
  dsimp only
  rw [hfit, inB_iff.2 (show 0 ≤ f ∧ f ≤ p.n - 1 by omega), inB_iff.2 (show 0 ≤ t ∧ t ≤ p.n - 1 by omega), inB_iff.2 (show -2000 ≤ -clT p t.toNat f.toNat + (k : Int) ∧ -clT p t.toNat f.toNat + (k : Int) ≤ 2000 by omega),
    decide_eq_false (show ¬ clT p f.toNat t.toNat = Far by omega), decide_eq_false (show ¬ clT p t.toNat f.toNat = Far by omega), decide_eq_true (show -clT p t.toNat f.toNat ≤ -clT p t.toNat f.toNat + (k : Int) by omega)]
  simp only [Bool.true_and, Bool.false_or, Bool.and_true]
  exact decide_eq_decide.2 (by omega)

def countTo (f : Nat → Bool) : Nat → Nat
  | 0 => 0
  | k + 1 => countTo f k + (if f k then 1 else 0)
theorem countTo_le (f : Nat → Bool) : ∀ k, countTo f k ≤ k
  | 0 => Nat.le_refl _
  | k + 1 => by have := countTo_le f k; simp only [countTo]; split <;> omega
theorem countTo_less (n : Int) (h0 : 0 ≤ n) : ∀ k : Nat, (countTo (fun j => decide ((j : Int) < n)) k : Int) = min (k : Int) n
  | 0 => by simp only [countTo]; omega
  | k + 1 => by
    have := countTo_less n h0 k
    simp only [countTo, decide_eq_true_eq]
    split <;> omega
theorem countTo_congr {f g : Nat → Bool} : ∀ k, (∀ j, j < k → f j = g j) → countTo f k = countTo g k
  | 0, _ => rfl
  | k + 1, h => by simp only [countTo]; rw [countTo_congr k fun j hj => h j (by omega), h k (by omega)]
theorem wide_count {p : Pl} {f t : Int} (h : wideOf p f t ≠ 0) (hs : wideOf p f t ≤ 400) : (countTo (fun k => mayBe p f t ((leastOf p f t).1 + k)) 400 : Int) = wideOf p f t := by
  rw [countTo_congr 400 fun j hj => wide_may h hs j hj]
  have := (wide_pos h).1
  rw [countTo_less _ (by omega)]
  omega

theorem sol_append {a b : List Bd} {x : Nat → Int} : Sol (a ++ b) x ↔ Sol a x ∧ Sol b x := by
  unfold Sol
  constructor
  · intro h; exact ⟨fun c hc => h c (List.mem_append_left _ hc), fun c hc => h c (List.mem_append_right _ hc)⟩
  · rintro ⟨h1, h2⟩ c hc
    rcases List.mem_append.1 hc with hc | hc
    · exact h1 c hc
    · exact h2 c hc

theorem wide_more {n : Int} {bs : List Bd} {f t : Int} (b : Bd) (h : wideOf ⟨n, bs⟩ f t ≠ 0) : wideOf ⟨n, bs ++ [b]⟩ f t ≤ wideOf ⟨n, bs⟩ f t := by
  by_cases h' : wideOf ⟨n, bs ++ [b]⟩ f t = 0
  · have := (wide_pos h).1; omega
  · obtain ⟨F, hfit, hf, ht, h1, h2, e1, e2, e3⟩ := wideOf_some h
    obtain ⟨G, gfit, _, _, g1, g2, _, _, e3'⟩ := wideOf_some h'
    have hn := nn_ok F.ok
    dsimp only at *
    rw [e3, e3']
    have a := F.mono G rfl (fun y hy => (sol_append.1 hy).1) f.toNat t.toNat (by omega) (by omega)
    have b := F.mono G rfl (fun y hy => (sol_append.1 hy).1) t.toNat f.toNat (by omega) (by omega)
    omega

theorem wide_self {p : Pl} {f t : Int} (h : wideOf p f t ≠ 0) : wideOf p f f = 1 := by
  obtain ⟨F, hfit, hf, ht, h1, h2, e1, e2, e3⟩ := wideOf_some h
  have hn := nn_ok F.ok
  have hd := F.diag f.toNat (by omega)
  have := mostOf_is hfit hf hf (by unfold Far; omega)
  unfold wideOf leastOf
  rw [this, hd]
  rfl
end Pp
end Go.Proofs.Ytdijfkpccbkdfaa
