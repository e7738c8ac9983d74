/-
  Plain laws of plans that fit (no program in sight).
  Plain laws: a difference that is set.
  Plain laws: what one plan implies of another one.
  Plain laws: late and early, and the turned plan.
  Plain laws: times that keep a plan.
-/
import Derived.Test.YtmnajkhoacogjaaPure
namespace Go.Proofs.Ytmnajkhoacogjaa
set_option linter.unusedVariables false
set_option linter.unusedSimpArgs false

namespace Pp

theorem clT_diag_le (p : Pl) (i : Nat) : clT p i i ≤ 0 := Int.le_trans (clo_le _ _ i i) ((tab0_le _ i i).2 rfl)

structure Fit (p : Pl) : Prop where
  ok : planOk p = true
  mild : Mild (nn p) (clT p)
  closed : ClosedTo (nn p) (nn p) (clT p)
  diag : ∀ i, i < nn p → clT p i i = 0
  sol : ∀ y, TSol (nn p) (clT p) y ↔ Sol p.bs y

theorem clT_sol {p : Pl} (h : planOk p = true) (y : Nat → Int) : TSol (nn p) (clT p) y ↔ Sol p.bs y :=
  (tsol_clo y).trans (tsol_tab0 (M := 99) (by unfold Far; omega) (within_of_ok h) y)
theorem clT_mild {p : Pl} (h : planOk p = true) : MildTo (nn p) (tab0 p.bs) := (small_ok (nn_ok h).1 (by omega) (by omega : (99 : Int) ≤ 700) (within_of_ok h)).1

theorem fit_of {p : Pl} (h : fits p = true) : Fit p := by
  have hp := planOk_of_fits h
  have hd : ∀ i, i < nn p → 0 ≤ clT p i i := by
    unfold fits at h; simp only [Bool.and_eq_true] at h; exact diagOk_iff.1 h.2
  exact ⟨hp, clT_mild hp _ (Nat.le_refl _), clo_closed (clT_mild hp) hd, fun i hi => by have := hd i hi; have := clT_diag_le p i; omega, clT_sol hp⟩

theorem fits_iff {p : Pl} (h : planOk p = true) : fits p = true ↔ ∃ y, Sol p.bs y := by
  constructor
  · intro hf
    have F := fit_of hf
    obtain ⟨y, hy⟩ := sol_some F.mild F.closed (fun i hi => by rw [F.diag i hi]; exact Int.le_refl _)
    exact ⟨y, (F.sol y).1 hy⟩
  · rintro ⟨y, hy⟩
    unfold fits
    simp only [Bool.and_eq_true]
    refine ⟨h, diagOk_iff.2 fun i hi => ?_⟩
    have := clT_diag_le p i
    have := (clT_sol h y).2 hy i i hi hi (by unfold Far; omega)
    omega

theorem Fit.tight {p : Pl} (F : Fit p) {i j : Nat} (hi : i < nn p) (hj : j < nn p) (c : Int) (h : ∀ y, Sol p.bs y → y j - y i ≤ c) : clT p i j < Far ∧ clT p i j ≤ c :=
  Pp.tight F.mild F.closed (fun i hi => by rw [F.diag i hi]; exact Int.le_refl _) hi hj c (fun y hy => h y ((F.sol y).1 hy)) (fun e => by subst e; rw [F.diag i hi]; exact Int.le_refl _)
theorem Fit.le {p : Pl} (F : Fit p) {i j : Nat} (hi : i < nn p) (hj : j < nn p) {y : Nat → Int} (hy : Sol p.bs y) (hf : clT p i j < Far) : y j - y i ≤ clT p i j :=
  (F.sol y).2 hy i j hi hj hf
/-- Between the least and the most all may be. -/
theorem Fit.between {p : Pl} (F : Fit p) {i j : Nat} (hi : i < nn p) (hj : j < nn p) (v : Int) (hij : i = j → v = 0) (h1 : clT p i j < Far → v ≤ clT p i j) (h2 : clT p j i < Far → -clT p j i ≤ v) : ∃ y, Sol p.bs y ∧ y j - y i = v := by
  by_cases e : i = j
  · subst e
    obtain ⟨y, hy⟩ := (fits_iff F.ok).1 (by unfold fits; simp only [Bool.and_eq_true]; exact ⟨F.ok, diagOk_iff.2 fun i hi => by rw [F.diag i hi]; exact Int.le_refl _⟩)
    exact ⟨y, hy, by have := hij rfl; omega⟩
  · obtain ⟨y, hy, he⟩ := sol_between F.mild F.closed (fun i hi => by rw [F.diag i hi]; exact Int.le_refl _) hi hj e v h1 h2
    exact ⟨y, (F.sol y).1 hy, he⟩

/-- Of more bounds, or of more that is implied: the closed table is no greater. -/
theorem Fit.mono {p q : Pl} (F : Fit p) (G : Fit q) (hn : nn p = nn q) (h : ∀ y, Sol q.bs y → Sol p.bs y) (i j : Nat) (hi : i < nn p) (hj : j < nn p) : clT q i j ≤ clT p i j := by
  by_cases hf : clT p i j < Far
  · exact (G.tight (by omega) (by omega) _ fun y hy => F.le hi hj (h y hy) hf).2
  · have := clT_le (p := p) i j; have := clT_le (p := q) i j; unfold Far at *; omega

/-! ### told differences are small -/

theorem countP_lt {p q : Nat → Bool} : ∀ (l : List Nat), (∀ v ∈ l, p v = true → q v = true) → (∃ v ∈ l, q v = true ∧ p v = false) → l.countP p < l.countP q
  | [], _, ⟨v, hv, _⟩ => by simp at hv
  | a :: l, h, ⟨v, hv, h1, h2⟩ => by
    have hle : l.countP p ≤ l.countP q := by
      exact List.countP_mono_left fun x hx hpx => h x (List.mem_cons_of_mem _ hx) hpx
    rw [List.countP_cons, List.countP_cons]
    rcases List.mem_cons.1 hv with e | e
    · subst e; rw [h1, h2]; simp; omega
    · have ih := countP_lt l (fun x hx => h x (List.mem_cons_of_mem _ hx)) ⟨v, e, h1, h2⟩
      have := h a (List.mem_cons_self ..)
      cases hp : p a
      · cases q a <;> simp <;> omega
      · rw [this hp]; simp; omega

/-- No bound leads out of a set: nor does a told difference. -/
theorem crossing {n : Nat} {T : Tb} {S : Nat → Prop} (h : ∀ i j, i < n → j < n → S i → ¬ S j → ¬ T i j < Far) : ∀ k, k ≤ n → ∀ i j, i < n → j < n → S i → ¬ S j → ¬ clo T k i j < Far := by
  intro k
  induction k with
  | zero => intro _ i j hi hj si sj; exact h i j hi hj si sj
  | succ k ih =>
    intro hk i j hi hj si sj
    show ¬ relax k (clo T k) i j < Far
    rcases relax_or k (clo T k) i j with e | ⟨a, b, _⟩
    · rw [e]; exact ih (by omega) i j hi hj si sj
    · by_cases sk : S k
      · exact absurd b (ih (by omega) k j (by omega) hj sk sj)
      · exact absurd a (ih (by omega) i k hi (by omega) si sk)

theorem clT_small {p : Pl} (F : Fit p) {i j : Nat} (hi : i < nn p) (hj : j < nn p) (hf : clT p i j < Far) : clT p i j ≤ 600 := by
  have hn := nn_ok F.ok
  have hw := within_of_ok F.ok
  have hji : clT p j i < Far → 0 ≤ clT p j i + clT p i j := fun h => by have := F.closed j hj i i hi hi hf h; rw [F.diag i hi] at this; omega
  by_cases hij : i = j
  · subst hij; rw [F.diag i hi]; omega
  obtain ⟨y, hy, e⟩ := F.between hi hj (clT p i j) (fun e => absurd e hij) (fun _ => Int.le_refl _) (fun h => by have := hji h; omega)
  apply Classical.byContradiction
  intro hbig
  have key : ∀ m : Nat, m ≤ 6 → m + 1 ≤ (List.range (nn p)).countP fun v => decide (y v ≤ y i + 99 * m) := by
    intro m
    induction m with
    | zero =>
      intro _
      have : 0 < (List.range (nn p)).countP fun v => decide (y v ≤ y i + 99 * (0 : Nat)) := List.countP_pos_iff.2 ⟨i, List.mem_range.2 hi, by simp⟩
      omega
    | succ m ih =>
      intro hm
      have h0 := ih (by omega)
      refine Nat.lt_of_le_of_lt h0 (countP_lt _ (fun v _ hv => by simp only [decide_eq_true_eq] at hv ⊢; omega) ?_)
      apply Classical.byContradiction
      intro hno
      have hcr := crossing (n := nn p) (T := tab0 p.bs) (S := fun v => y v ≤ y i + 99 * m) (by
        intro a b ha hb sa sb hab
        have h1 := (tab0_abs (by omega) hw a b).1 hab
        have h2 := (tsol_tab0 (M := 99) (by unfold Far; omega) hw y).2 hy a b ha hb hab
        exact hno ⟨b, List.mem_range.2 hb, by simp; omega, by simp; omega⟩) (nn p) (Nat.le_refl _) i j hi hj (by omega) (by omega)
      exact hcr hf
  have := key 6 (by omega)
  have := List.countP_le_length (p := fun v => decide (y v ≤ y i + 99 * (6 : Nat))) (l := List.range (nn p))
  rw [List.length_range] at this
  omega

/-! ### how many numbers may be -/

theorem mostOf_some {p : Pl} {f t : Int} (h : (mostOf p f t).2 = true) : Fit p ∧ fits p = true ∧ (0 ≤ f ∧ f < p.n) ∧ (0 ≤ t ∧ t < p.n) ∧ clT p f.toNat t.toNat < Far ∧ (mostOf p f t).1 = clT p f.toNat t.toNat := by
  unfold mostOf at h ⊢
  split at h
  · rename_i hc
    rw [if_pos hc]
    simp only [Bool.and_eq_true, inB_iff, decide_eq_true_eq] at hc
    exact ⟨fit_of hc.1.1.1, hc.1.1.1, by omega, by omega, hc.2, rfl⟩
  · cases h
theorem mostOf_is {p : Pl} {f t : Int} (h : fits p = true) (hf : 0 ≤ f ∧ f < p.n) (ht : 0 ≤ t ∧ t < p.n) (hc : clT p f.toNat t.toNat < Far) : mostOf p f t = (clT p f.toNat t.toNat, true) := by
  unfold mostOf
  rw [if_pos (by simp only [Bool.and_eq_true, inB_iff, decide_eq_true_eq]; exact ⟨⟨⟨h, by omega⟩, by omega⟩, hc⟩)]

theorem wideOf_some {p : Pl} {f t : Int} (h : wideOf p f t ≠ 0) : Fit p ∧ fits p = true ∧ (0 ≤ f ∧ f < p.n) ∧ (0 ≤ t ∧ t < p.n) ∧ clT p f.toNat t.toNat < Far ∧ clT p t.toNat f.toNat < Far ∧
    mostOf p f t = (clT p f.toNat t.toNat, true) ∧ leastOf p f t = (-clT p t.toNat f.toNat, true) ∧ wideOf p f t = clT p f.toNat t.toNat + clT p t.toNat f.toNat + 1 := by
  unfold wideOf at h ⊢
  split at h
  · rename_i hc
    rw [if_pos hc]
    simp only [Bool.and_eq_true] at hc
    obtain ⟨F, hfit, hf, ht, h1, e1⟩ := mostOf_some hc.1
    obtain ⟨_, _, _, _, h2, e2⟩ := mostOf_some (p := p) (f := t) (t := f) hc.2
    have e3 := mostOf_is hfit ht hf h2
    refine ⟨F, hfit, hf, ht, h1, h2, mostOf_is hfit hf ht h1, ?_, ?_⟩
    · unfold leastOf; rw [e3]
    · rw [e1]; unfold leastOf; rw [e3]; dsimp only; omega
  · exact absurd rfl h

theorem wide_pos {p : Pl} {f t : Int} (h : wideOf p f t ≠ 0) : 1 ≤ wideOf p f t ∧ (leastOf p f t).2 = true := by
  obtain ⟨F, hfit, hf, ht, h1, h2, e1, e2, e3⟩ := wideOf_some h
  have hn := nn_ok F.ok
  have := F.closed t.toNat (by omega) f.toNat f.toNat (by omega) (by omega) h1 h2
  rw [F.diag _ (by omega)] at this
  rw [e3, e2]
  exact ⟨by omega, rfl⟩

/-- Which numbers from the least on may be. -/
theorem wide_may {p : Pl} {f t : Int} (h : wideOf p f t ≠ 0) (hs : wideOf p f t ≤ 400) (k : Nat) (hk : k < 400) : mayBe p f t ((leastOf p f t).1 + k) = decide ((k : Int) < wideOf p f t) := by
  obtain ⟨F, hfit, hf, ht, h1, h2, e1, e2, e3⟩ := wideOf_some h
  have hn := nn_ok F.ok
  have b1 := clT_small F (i := f.toNat) (j := t.toNat) (by omega) (by omega) h1
  have b2 := clT_small F (i := t.toNat) (j := f.toNat) (by omega) (by omega) h2
  have hc := F.closed t.toNat (by omega) f.toNat f.toNat (by omega) (by omega) h1 h2
  rw [F.diag _ (by omega)] at hc
  rw [e3] at hs
  rw [e2, e3]
  unfold mayBe mayT
  dsimp only
  rw [hfit, inB_iff.2 (show 0 ≤ f ∧ f ≤ p.n - 1 by omega), inB_iff.2 (show 0 ≤ t ∧ t ≤ p.n - 1 by omega), inB_iff.2 (show -2000 ≤ -clT p t.toNat f.toNat + (k : Int) ∧ -clT p t.toNat f.toNat + (k : Int) ≤ 2000 by omega),
    decide_eq_false (show ¬ clT p f.toNat t.toNat = Far by omega), decide_eq_false (show ¬ clT p t.toNat f.toNat = Far by omega), decide_eq_true (show -clT p t.toNat f.toNat ≤ -clT p t.toNat f.toNat + (k : Int) by omega)]
  simp only [Bool.true_and, Bool.false_or, Bool.and_true]
  exact decide_eq_decide.2 (by omega)

def countTo (f : Nat → Bool) : Nat → Nat
  | 0 => 0
  | k + 1 => countTo f k + (if f k then 1 else 0)
theorem countTo_le (f : Nat → Bool) : ∀ k, countTo f k ≤ k
  | 0 => Nat.le_refl _
  | k + 1 => by have := countTo_le f k; simp only [countTo]; split <;> omega
theorem countTo_less (n : Int) (h0 : 0 ≤ n) : ∀ k : Nat, (countTo (fun j => decide ((j : Int) < n)) k : Int) = min (k : Int) n
  | 0 => by simp only [countTo]; omega
  | k + 1 => by
    have := countTo_less n h0 k
    simp only [countTo, decide_eq_true_eq]
    split <;> omega
theorem countTo_congr {f g : Nat → Bool} : ∀ k, (∀ j, j < k → f j = g j) → countTo f k = countTo g k
  | 0, _ => rfl
  | k + 1, h => by simp only [countTo]; rw [countTo_congr k fun j hj => h j (by omega), h k (by omega)]
theorem wide_count {p : Pl} {f t : Int} (h : wideOf p f t ≠ 0) (hs : wideOf p f t ≤ 400) : (countTo (fun k => mayBe p f t ((leastOf p f t).1 + k)) 400 : Int) = wideOf p f t := by
  rw [countTo_congr 400 fun j hj => wide_may h hs j hj]
  have := (wide_pos h).1
  rw [countTo_less _ (by omega)]
  omega

theorem sol_append {a b : List Bd} {x : Nat → Int} : Sol (a ++ b) x ↔ Sol a x ∧ Sol b x := by
  unfold Sol
  constructor
  · intro h; exact ⟨fun c hc => h c (List.mem_append_left _ hc), fun c hc => h c (List.mem_append_right _ hc)⟩
  · rintro ⟨h1, h2⟩ c hc
    rcases List.mem_append.1 hc with hc | hc
    · exact h1 c hc
    · exact h2 c hc

theorem wide_more {n : Int} {bs : List Bd} {f t : Int} (b : Bd) (h : wideOf ⟨n, bs⟩ f t ≠ 0) : wideOf ⟨n, bs ++ [b]⟩ f t ≤ wideOf ⟨n, bs⟩ f t := by
  by_cases h' : wideOf ⟨n, bs ++ [b]⟩ f t = 0
  · have := (wide_pos h).1; omega
  · obtain ⟨F, hfit, hf, ht, h1, h2, e1, e2, e3⟩ := wideOf_some h
    obtain ⟨G, gfit, _, _, g1, g2, _, _, e3'⟩ := wideOf_some h'
    have hn := nn_ok F.ok
    dsimp only at *
    rw [e3, e3']
    have a := F.mono G rfl (fun y hy => (sol_append.1 hy).1) f.toNat t.toNat (by omega) (by omega)
    have b := F.mono G rfl (fun y hy => (sol_append.1 hy).1) t.toNat f.toNat (by omega) (by omega)
    omega

theorem wide_self {p : Pl} {f t : Int} (h : wideOf p f t ≠ 0) : wideOf p f f = 1 := by
  obtain ⟨F, hfit, hf, ht, h1, h2, e1, e2, e3⟩ := wideOf_some h
  have hn := nn_ok F.ok
  have hd := F.diag f.toNat (by omega)
  have := mostOf_is hfit hf hf (by unfold Far; omega)
  unfold wideOf leastOf
  rw [this, hd]
  rfl
end Pp

namespace Pp

theorem planOk_split (n : Int) (l : List Bd) : planOk ⟨n, l⟩ = (inB n 1 6 && decide (l.length ≤ 16) && l.all (bdOk n)) := rfl
theorem planOk_front {n : Int} {a b : List Bd} (h : planOk ⟨n, a ++ b⟩ = true) : planOk ⟨n, a⟩ = true := by
  rw [planOk_split] at h ⊢
  simp only [Bool.and_eq_true, decide_eq_true_eq, List.length_append, List.all_append] at h ⊢
  exact ⟨⟨h.1.1, by omega⟩, h.2.1⟩

section
variable {n : Int} {bs : List Bd} {f t y : Int}
theorem set_ranges (h : planOk ⟨n, bs ++ [⟨f, t, y⟩, ⟨t, f, -y⟩]⟩ = true) : (0 ≤ f ∧ f < n) ∧ (0 ≤ t ∧ t < n) ∧ -99 ≤ y ∧ y ≤ 99 := by
  obtain ⟨_, _, hb⟩ := planOk_iff.1 h
  have := bdOk_iff.1 (hb ⟨f, t, y⟩ (by simp))
  exact ⟨this.1, this.2.1, this.2.2⟩
theorem set_sol (x : Nat → Int) : Sol (bs ++ [⟨f, t, y⟩, ⟨t, f, -y⟩]) x ↔ Sol bs x ∧ x t.toNat - x f.toNat = y := by
  rw [sol_append]
  refine and_congr_right fun _ => ?_
  unfold Sol
  simp only [List.mem_cons, List.not_mem_nil, or_false, forall_eq_or_imp, forall_eq]
  omega
theorem set_fits (h : planOk ⟨n, bs ++ [⟨f, t, y⟩, ⟨t, f, -y⟩]⟩ = true) : fits ⟨n, bs ++ [⟨f, t, y⟩, ⟨t, f, -y⟩]⟩ = mayBe ⟨n, bs⟩ f t y := by
  obtain ⟨hf, ht, hy1, hy2⟩ := set_ranges h
  have hp := planOk_front h
  have hn := nn_ok hp
  dsimp only at hn
  have key : (fits ⟨n, bs ++ [⟨f, t, y⟩, ⟨t, f, -y⟩]⟩ = true) ↔ (mayBe ⟨n, bs⟩ f t y = true) := by
    rw [fits_iff h]
    unfold mayBe mayT
    simp only [Bool.and_eq_true, Bool.or_eq_true, decide_eq_true_eq, inB_iff]
    constructor
    · rintro ⟨x, hx⟩
      obtain ⟨hs, he⟩ := (set_sol x).1 hx
      have hfit : fits ⟨n, bs⟩ = true := (fits_iff hp).2 ⟨x, hs⟩
      have F := fit_of hfit
      have a : clT ⟨n, bs⟩ f.toNat t.toNat < Far → x t.toNat - x f.toNat ≤ _ := fun hlt => F.le (by omega) (by omega) hs hlt
      have b : clT ⟨n, bs⟩ t.toNat f.toNat < Far → x f.toNat - x t.toNat ≤ _ := fun hlt => F.le (by omega) (by omega) hs hlt
      have a' := clT_le (p := ⟨n, bs⟩) f.toNat t.toNat
      have b' := clT_le (p := ⟨n, bs⟩) t.toNat f.toNat
      exact ⟨⟨⟨⟨hfit, by omega⟩, by omega⟩, by omega⟩, by omega, by omega⟩
    · rintro ⟨⟨⟨⟨hfit, _⟩, _⟩, _⟩, h1, h2⟩
      have F := fit_of hfit
      obtain ⟨x, hs, he⟩ := F.between (i := f.toNat) (j := t.toNat) (by omega) (by omega) y (fun e => by
        rw [← e] at h1 h2
        rw [F.diag _ (by omega)] at h1 h2
        unfold Far at h1 h2; omega) (fun hlt => by omega) (fun hlt => by omega)
      exact ⟨x, (set_sol x).2 ⟨hs, he⟩⟩
  cases h1 : fits ⟨n, bs ++ [⟨f, t, y⟩, ⟨t, f, -y⟩]⟩ <;> cases h2 : mayBe ⟨n, bs⟩ f t y <;> simp [h1, h2] at key ⊢
theorem set_most (h : fits ⟨n, bs ++ [⟨f, t, y⟩, ⟨t, f, -y⟩]⟩ = true) : mostOf ⟨n, bs ++ [⟨f, t, y⟩, ⟨t, f, -y⟩]⟩ f t = (y, true) ∧ leastOf ⟨n, bs ++ [⟨f, t, y⟩, ⟨t, f, -y⟩]⟩ f t = (y, true) := by
  have F := fit_of h
  obtain ⟨hf, ht, hy1, hy2⟩ := set_ranges F.ok
  have hn := nn_ok F.ok
  dsimp only at hn
  obtain ⟨x, hx⟩ := (fits_iff F.ok).1 h
  obtain ⟨_, he⟩ := (set_sol x).1 hx
  obtain ⟨a1, a2⟩ := F.tight (i := f.toNat) (j := t.toNat) (by omega) (by omega) y (fun z hz => by have := ((set_sol z).1 hz).2; omega)
  obtain ⟨b1, b2⟩ := F.tight (i := t.toNat) (j := f.toNat) (by omega) (by omega) (-y) (fun z hz => by have := ((set_sol z).1 hz).2; omega)
  have a3 := F.le (i := f.toNat) (j := t.toNat) (by omega) (by omega) hx a1
  have b3 := F.le (i := t.toNat) (j := f.toNat) (by omega) (by omega) hx b1
  have e1 : clT ⟨n, bs ++ [⟨f, t, y⟩, ⟨t, f, -y⟩]⟩ f.toNat t.toNat = y := by omega
  have e2 : clT ⟨n, bs ++ [⟨f, t, y⟩, ⟨t, f, -y⟩]⟩ t.toNat f.toNat = -y := by omega
  have m1 := mostOf_is (p := ⟨n, bs ++ [⟨f, t, y⟩, ⟨t, f, -y⟩]⟩) h hf ht a1
  have m2 := mostOf_is (p := ⟨n, bs ++ [⟨f, t, y⟩, ⟨t, f, -y⟩]⟩) h ht hf b1
  rw [e1] at m1
  rw [e2] at m2
  refine ⟨m1, ?_⟩
  unfold leastOf
  rw [m2]
  simp
end
end Pp

namespace Pp

/-- Each number of a table is at most that of another one, row by row up to a place. -/
def rowLe (D T : Tb) (i : Nat) : Nat → Bool
  | 0 => true
  | k + 1 => rowLe D T i k && decide (D i k ≤ T i k)
def tabLe (D T : Tb) (n : Nat) : Nat → Bool
  | 0 => true
  | i + 1 => tabLe D T n i && rowLe D T i n
theorem rowLe_iff {D T : Tb} {i : Nat} : ∀ {k : Nat}, rowLe D T i k = true ↔ ∀ j, j < k → D i j ≤ T i j
  | 0 => by simp [rowLe]
  | k + 1 => by
    simp only [rowLe, Bool.and_eq_true, decide_eq_true_eq, rowLe_iff (k := k)]
    constructor
    · rintro ⟨h1, h2⟩ j hj
      rcases Nat.lt_succ_iff_lt_or_eq.1 hj with h | rfl
      · exact h1 j h
      · exact h2
    · exact fun h => ⟨fun j hj => h j (by omega), h k (by omega)⟩
theorem tabLe_iff {D T : Tb} {n : Nat} : ∀ {i : Nat}, tabLe D T n i = true ↔ ∀ a, a < i → ∀ j, j < n → D a j ≤ T a j
  | 0 => by simp [tabLe]
  | i + 1 => by
    simp only [tabLe, Bool.and_eq_true, tabLe_iff (i := i), rowLe_iff]
    constructor
    · rintro ⟨h1, h2⟩ a ha
      rcases Nat.lt_succ_iff_lt_or_eq.1 ha with h | rfl
      · exact h1 a h
      · exact h2
    · exact fun h => ⟨fun a ha => h a (by omega), h i (by omega)⟩
theorem rowLe_no {D T : Tb} {i j n : Nat} (hj : j < n) (h : ¬ D i j ≤ T i j) : rowLe D T i n = false := by
  cases hr : rowLe D T i n
  · rfl
  · exact absurd (rowLe_iff.1 hr j hj) h
theorem tabLe_no {D T : Tb} {i j n m : Nat} (hi : i < m) (hj : j < n) (h : ¬ D i j ≤ T i j) : tabLe D T n m = false := by
  cases hr : tabLe D T n m
  · rfl
  · exact absurd (tabLe_iff.1 hr i hi j hj) h

/-- What impl.ImpliesOk and spec.ImpliesOk tell. -/
def implies (p q : Pl) : Bool := planOk p && planOk q && decide (p.n = q.n) && (!fits p || tabLe (clT p) (tab0 q.bs) (nn p) (nn p))
def alike (p q : Pl) : Bool := implies p q && implies q p

theorem implies_ok {p q : Pl} (h : implies p q = true) : planOk p = true ∧ planOk q = true ∧ p.n = q.n := by
  unfold implies at h; simp only [Bool.and_eq_true, decide_eq_true_eq] at h; exact ⟨h.1.1.1, h.1.1.2, h.1.2⟩
/-- It holds just if all times that keep the first plan keep the second one. -/
theorem implies_iff {p q : Pl} (hp : planOk p = true) (hq : planOk q = true) (hn : p.n = q.n) : implies p q = true ↔ ∀ y, Sol p.bs y → Sol q.bs y := by
  have hnn : nn p = nn q := by unfold nn; rw [hn]
  unfold implies
  rw [hp, hq, decide_eq_true hn]
  simp only [Bool.and_true, Bool.true_and, Bool.or_eq_true, Bool.not_eq_true']
  cases hf : fits p
  · simp only [true_or, true_iff]
    intro y hy
    have := (fits_iff hp).2 ⟨y, hy⟩
    rw [hf] at this; cases this
  · have F := fit_of hf
    simp only [Bool.true_eq_false, false_or, tabLe_iff]
    constructor
    · intro h y hy
      refine (tsol_tab0 (M := 99) (by unfold Far; omega) (within_of_ok hq) y).1 fun i j hi hj hlt => ?_
      have := h i (by omega) j (by omega)
      exact Int.le_trans (F.le (by omega) (by omega) hy (by omega)) this
    · intro h i hi j hj
      by_cases hlt : tab0 q.bs i j < Far
      · exact (F.tight hi hj _ fun y hy => (tsol_tab0 (M := 99) (by unfold Far; omega) (within_of_ok hq) y).2 (h y hy) i j (by omega) (by omega) hlt).2
      · have := clT_le (p := p) i j; omega
theorem implies_self {p : Pl} (h : planOk p = true) : implies p p = true := (implies_iff h h rfl).2 fun _ hy => hy
theorem alike_iff {p q : Pl} (hp : planOk p = true) (hq : planOk q = true) (hn : p.n = q.n) : alike p q = true ↔ ∀ y, Sol p.bs y ↔ Sol q.bs y := by
  unfold alike
  rw [Bool.and_eq_true, implies_iff hp hq hn, implies_iff hq hp hn.symm]
  exact ⟨fun h y => ⟨h.1 y, h.2 y⟩, fun h => ⟨fun y => (h y).1, fun y => (h y).2⟩⟩
end Pp

namespace Pp

/-- A told difference is not very small either. -/
theorem clT_low {p : Pl} (F : Fit p) {i j : Nat} (hi : i < nn p) (hj : j < nn p) (hf : clT p i j < Far) : -600 ≤ clT p i j := by
  have hn := nn_ok F.ok
  have hw := within_of_ok F.ok
  have hji : clT p j i < Far → 0 ≤ clT p j i + clT p i j := fun h => by have := F.closed j hj i i hi hi hf h; rw [F.diag i hi] at this; omega
  by_cases hij : i = j
  · subst hij; rw [F.diag i hi]; omega
  obtain ⟨y, hy, e⟩ := F.between hi hj (clT p i j) (fun e => absurd e hij) (fun _ => Int.le_refl _) (fun h => by have := hji h; omega)
  apply Classical.byContradiction
  intro hbig
  have key : ∀ m : Nat, m ≤ 6 → m + 1 ≤ (List.range (nn p)).countP fun v => decide (y v ≤ y j + 99 * m) := by
    intro m
    induction m with
    | zero =>
      intro _
      have : 0 < (List.range (nn p)).countP fun v => decide (y v ≤ y j + 99 * (0 : Nat)) := List.countP_pos_iff.2 ⟨j, List.mem_range.2 hj, by simp⟩
      omega
    | succ m ih =>
      intro hm
      have h0 := ih (by omega)
      refine Nat.lt_of_le_of_lt h0 (countP_lt _ (fun v _ hv => by simp only [decide_eq_true_eq] at hv ⊢; omega) ?_)
      apply Classical.byContradiction
      intro hno
      have gap : ∀ v, v < nn p → y v ≤ y j + 99 * m ∨ y j + 99 * m + 99 < y v := fun v hv => by
        apply Classical.byContradiction
        intro hc
        exact hno ⟨v, List.mem_range.2 hv, by simp; omega, by simp; omega⟩
      have hz : Sol p.bs (fun v => if y v ≤ y j + 99 * m then y v else y v - 1) := by
        intro b hb
        obtain ⟨⟨f1, f2⟩, ⟨t1, t2⟩, m1, m2⟩ := hw b hb
        have hb' := hy b hb
        have g1 := gap b.f.toNat (by omega)
        have g2 := gap b.t.toNat (by omega)
        (try dsimp only)
        split <;> split <;> omega
      have := F.le hi hj hz hf
      (try dsimp only at this)
      rw [if_pos (show y j ≤ y j + 99 * m by omega), if_neg (show ¬ y i ≤ y j + 99 * m by omega)] at this
      omega
  have := key 6 (by omega)
  have := List.countP_le_length (p := fun v => decide (y v ≤ y j + 99 * (6 : Nat))) (l := List.range (nn p))
  rw [List.length_range] at this
  omega

/-- The turned plan. -/
def turn (p : Pl) : Pl := if planOk p then ⟨p.n, p.bs.map fun b => ⟨b.t, b.f, b.m⟩⟩ else ⟨0, []⟩
theorem turn_ok {p : Pl} (h : planOk p = true) : planOk (turn p) = true ∧ nn (turn p) = nn p ∧ (turn p).n = p.n ∧ (turn p).bs = p.bs.map fun b => ⟨b.t, b.f, b.m⟩ := by
  unfold turn
  rw [if_pos h]
  refine ⟨?_, rfl, rfl, rfl⟩
  obtain ⟨h1, h2, h3⟩ := planOk_iff.1 h
  refine planOk_iff.2 ⟨h1, by simpa using h2, fun b hb => ?_⟩
  obtain ⟨a, ha, rfl⟩ := List.mem_map.1 hb
  have := bdOk_iff.1 (h3 a ha)
  exact bdOk_iff.2 ⟨this.2.1, this.1, this.2.2⟩
theorem turn_sol {p : Pl} (h : planOk p = true) (x : Nat → Int) : Sol (turn p).bs x ↔ Sol p.bs (fun v => -x v) := by
  rw [(turn_ok h).2.2.2]
  unfold Sol
  constructor
  · intro hx b hb
    have := hx ⟨b.t, b.f, b.m⟩ (List.mem_map.2 ⟨b, hb, rfl⟩)
    (try dsimp only at this ⊢)
    omega
  · intro hx b hb
    obtain ⟨a, ha, rfl⟩ := List.mem_map.1 hb
    have := hx a ha
    (try dsimp only at this ⊢)
    omega
theorem turn_fits {p : Pl} (h : fits p = true) : fits (turn p) = true := by
  have hp := planOk_of_fits h
  obtain ⟨y, hy⟩ := (fits_iff hp).1 h
  exact (fits_iff (turn_ok hp).1).2 ⟨fun v => -y v, (turn_sol hp _).2 (by simpa using hy)⟩
/-- Its closed table is the other one, turned. -/
theorem turn_clT {p : Pl} (h : fits p = true) {i j : Nat} (hi : i < nn p) (hj : j < nn p) : clT (turn p) i j = clT p j i := by
  have hp := planOk_of_fits h
  have F := fit_of h
  have G := fit_of (turn_fits h)
  have hk := (turn_ok hp).2.1
  have a : ∀ {i j : Nat}, i < nn p → j < nn p → clT p j i < Far → clT (turn p) i j < Far ∧ clT (turn p) i j ≤ clT p j i := fun hi hj hlt =>
    G.tight (by omega) (by omega) _ fun y hy => by have := F.le hj hi ((turn_sol hp y).1 hy) hlt; (try dsimp only at this); omega
  have b : ∀ {i j : Nat}, i < nn p → j < nn p → clT (turn p) i j < Far → clT p j i < Far ∧ clT p j i ≤ clT (turn p) i j := fun hi hj hlt =>
    F.tight hj hi _ fun y hy => by
      have hy' : Sol (turn p).bs (fun v => -y v) := (turn_sol hp _).2 (by simpa using hy)
      have := G.le (by omega) (by omega) hy' hlt
      (try dsimp only at this); omega
  by_cases h1 : clT p j i < Far
  · have h2 := a hi hj h1
    have h3 := b hi hj h2.1
    omega
  · by_cases h2 : clT (turn p) i j < Far
    · exact absurd (b hi hj h2).1 h1
    · have := clT_le (p := p) j i; have := clT_le (p := turn p) i j; omega

/-! ### rows of times -/

/-- What is told for each point, up to the first that is not told. -/
def rowOf (tell : Nat → Int × Bool) : Nat → List Int × Bool
  | 0 => ([], true)
  | k + 1 => if (rowOf tell k).2 && (tell k).2 then ((rowOf tell k).1 ++ [(tell k).1], true) else ([], false)
def latest (p : Pl) (f : Int) : List Int × Bool := if fits p && inB f 0 (p.n - 1) then rowOf (fun k => mostOf p f k) (nn p) else ([], false)
def earliest (p : Pl) (f : Int) : List Int × Bool := if fits p && inB f 0 (p.n - 1) then rowOf (fun k => leastOf p f k) (nn p) else ([], false)
theorem rowOf_no {tell : Nat → Int × Bool} : ∀ {n : Nat}, (rowOf tell n).2 = false → (rowOf tell n).1 = []
  | 0 => by simp [rowOf]
  | n + 1 => by simp only [rowOf]; split <;> simp
theorem rowOf_yes {tell : Nat → Int × Bool} : ∀ {n : Nat}, (rowOf tell n).2 = true → (rowOf tell n).1.length = n ∧ (∀ k, k < n → (tell k).2 = true) ∧ ∀ k, k < n → (rowOf tell n).1.getD k 0 = (tell k).1
  | 0 => by simp [rowOf]
  | n + 1 => by
    intro h
    simp only [rowOf] at h ⊢
    split at h
    · rename_i hc
      rw [if_pos hc]
      simp only [Bool.and_eq_true] at hc
      obtain ⟨h1, h2, h3⟩ := rowOf_yes hc.1
      refine ⟨by simp [h1], fun k hk => ?_, fun k hk => ?_⟩
      · rcases Nat.lt_succ_iff_lt_or_eq.1 hk with h | rfl
        · exact h2 k h
        · exact hc.2
      · rcases Nat.lt_succ_iff_lt_or_eq.1 hk with h | rfl
        · rw [← h3 k h]; simp [List.getD_eq_getElem?_getD, List.getElem?_append_left (show k < (rowOf tell n).1.length by omega)]
        · rw [List.getD_eq_getElem?_getD, List.getElem?_append_right (by omega), h1]; simp
    · cases h
theorem rowOf_all {tell : Nat → Int × Bool} : ∀ {n : Nat}, (∀ k, k < n → (tell k).2 = true) → (rowOf tell n).2 = true
  | 0, _ => rfl
  | n + 1, h => by
    simp only [rowOf]
    rw [if_pos (by rw [rowOf_all fun k hk => h k (by omega), h n (by omega)]; rfl)]
theorem rowOf_none {tell : Nat → Int × Bool} {n k : Nat} (hk : k < n) (h : (tell k).2 = false) : rowOf tell n = ([], false) := by
  have h2 : (rowOf tell n).2 = false := by
    cases hq : (rowOf tell n).2
    · rfl
    · have := (rowOf_yes hq).2.1 k hk; rw [h] at this; cases this
  have := rowOf_no h2
  exact Prod.ext this h2
theorem latest_fits {p : Pl} (h : fits p = true) (f : Int) : latest p f = rowOf (fun k => mostOf p f k) (nn p) := by
  have hn := nn_ok (planOk_of_fits h)
  unfold latest
  cases hin : inB f 0 (p.n - 1)
  · rw [h]
    simp only [Bool.and_false]
    refine (rowOf_none (k := 0) (by omega) ?_).symm
    unfold mostOf
    rw [h, hin]
    rfl
  · rw [h]; rfl
end Pp

namespace Pp

def keptB (xs : List Int) (b : Bd) : Bool := decide (xs.getD b.t.toNat 0 - xs.getD b.f.toNat 0 ≤ b.m)
def timesOk (p : Pl) (xs : List Int) : Bool := planOk p && decide (xs.length = nn p) && xs.all fun x => inB x (-2000) 2000
def keepsOk (p : Pl) (xs : List Int) : Bool := timesOk p xs && p.bs.all (keptB xs)
theorem keepsOk_iff {p : Pl} {xs : List Int} : keepsOk p xs = true ↔ timesOk p xs = true ∧ Sol p.bs (fun v => xs.getD v 0) := by
  unfold keepsOk keptB Sol
  rw [Bool.and_eq_true, List.all_eq_true]
  simp only [decide_eq_true_eq]

/-- What LatestOf tells keeps the plan. -/
theorem latest_keeps {p : Pl} {f : Int} {xs : List Int} (h : latest p f = (xs, true)) : keepsOk p xs = true ∧ fits p = true ∧ (0 ≤ f ∧ f < p.n) ∧ xs.length = nn p ∧ xs.getD f.toNat 0 = 0 ∧ (∀ k, k < nn p → clT p f.toNat k < Far ∧ xs.getD k 0 = clT p f.toNat k) := by
  unfold latest at h
  split at h
  · rename_i hc
    simp only [Bool.and_eq_true, inB_iff] at hc
    obtain ⟨hfit, hf0, hf1⟩ := hc
    have F := fit_of hfit
    have hn := nn_ok F.ok
    have hr := rowOf_yes (tell := fun k => mostOf p f k) (n := nn p) (by rw [h])
    rw [h] at hr
    obtain ⟨h1, h2, h3⟩ := hr
    dsimp only at h1 h2 h3
    have hm : ∀ k, k < nn p → clT p f.toNat k < Far ∧ xs.getD k 0 = clT p f.toNat k := fun k hk => by
      obtain ⟨_, _, _, _, hlt, he⟩ := mostOf_some (h2 k hk)
      simp only [Int.toNat_natCast] at hlt he
      exact ⟨hlt, by rw [h3 k hk, he]⟩
    have hfn : f.toNat < nn p := by omega
    refine ⟨keepsOk_iff.2 ⟨?_, ?_⟩, hfit, by omega, h1, by rw [(hm _ hfn).2, F.diag _ hfn], hm⟩
    · unfold timesOk
      rw [F.ok, decide_eq_true h1]
      simp only [Bool.true_and, List.all_eq_true]
      intro x hx
      obtain ⟨k, hk, rfl⟩ := List.getElem_of_mem hx
      have e : xs[k] = clT p f.toNat k := by
        have := (hm k (by omega)).2
        rw [List.getD_eq_getElem?_getD, List.getElem?_eq_getElem hk] at this
        exact this
      have a := clT_small F hfn (by omega : k < nn p) (hm k (by omega)).1
      have b := clT_low F hfn (by omega : k < nn p) (hm k (by omega)).1
      rw [e]
      exact inB_iff.2 ⟨by omega, by omega⟩
    · intro b hb
      obtain ⟨⟨f1, f2⟩, ⟨t1, t2⟩, m1, m2⟩ := within_of_ok F.ok b hb
      have e1 := hm b.t.toNat (by omega)
      have e2 := hm b.f.toNat (by omega)
      dsimp only
      rw [e1.2, e2.2]
      have e3 : clT p b.f.toNat b.t.toNat ≤ b.m := Int.le_trans (clo_le _ _ _ _) (tab0_bound hb (by omega) (by omega))
      have := F.closed b.f.toNat (by omega) f.toNat b.t.toNat hfn (by omega) e2.1 (by unfold Far; omega)
      omega
  · injection h with _ h; cases h

/-- The earliest times of the turned plan are the latest ones with the other signs. -/
theorem turned_early {p : Pl} {f : Int} {xs : List Int} (h : latest p f = (xs, true)) : ∃ ys, earliest (turn p) f = (ys, true) ∧ ys.length = xs.length ∧ ∀ k, k < xs.length → ys.getD k 0 = -xs.getD k 0 := by
  obtain ⟨_, hfit, hf, hl, _, hm⟩ := latest_keeps h
  have hp := planOk_of_fits hfit
  have hn := nn_ok hp
  have ht := turn_fits hfit
  obtain ⟨_, hk, hkn, _⟩ := turn_ok hp
  have hfn : f.toNat < nn p := by omega
  have hl' : ∀ k, k < nn p → leastOf (turn p) f k = (-(clT p f.toNat k), true) := fun k hk' => by
    have e : clT (turn p) k f.toNat = clT p f.toNat k := turn_clT hfit hk' hfn
    unfold leastOf
    rw [mostOf_is ht (f := (k : Int)) (t := f) (by rw [hkn]; omega) (by rw [hkn]; omega) (by simp only [Int.toNat_natCast]; rw [e]; exact (hm k hk').1)]
    simp only [Int.toNat_natCast]
    rw [e]
  have he : earliest (turn p) f = rowOf (fun k => leastOf (turn p) f k) (nn p) := by
    unfold earliest
    rw [ht, hkn, inB_iff.2 (show 0 ≤ f ∧ f ≤ p.n - 1 by omega), hk]
    rfl
  have h2 : (rowOf (fun k => leastOf (turn p) f k) (nn p)).2 = true := rowOf_all fun k hk' => by (try dsimp only); rw [hl' k hk']
  obtain ⟨r1, r2, r3⟩ := rowOf_yes h2
  refine ⟨(rowOf (fun k => leastOf (turn p) f k) (nn p)).1, by rw [he]; exact Prod.ext rfl h2, by omega, fun k hk' => ?_⟩
  rw [r3 k (by omega), (hm k (by omega)).2]
  (try dsimp only)
  rw [hl' k (by omega)]

/-- The earliest times are not after the latest ones. -/
theorem early_late {p : Pl} {f : Int} {xs ys : List Int} (h : latest p f = (xs, true)) (h' : earliest p f = (ys, true)) : ys.length = xs.length ∧ ∀ k, k < xs.length → ys.getD k 0 ≤ xs.getD k 0 := by
  obtain ⟨_, hfit, hf, hl, _, hm⟩ := latest_keeps h
  have F := fit_of hfit
  have hn := nn_ok F.ok
  have he : earliest p f = rowOf (fun k => leastOf p f k) (nn p) := by
    unfold earliest
    rw [hfit, inB_iff.2 (show 0 ≤ f ∧ f ≤ p.n - 1 by omega)]
    rfl
  rw [he] at h'
  have hr := rowOf_yes (tell := fun k => leastOf p f k) (n := nn p) (by rw [h'])
  rw [h'] at hr
  obtain ⟨r1, r2, r3⟩ := hr
  dsimp only at r1 r2 r3
  refine ⟨by omega, fun k hk => ?_⟩
  have hk' : k < nn p := by omega
  have hs : (mostOf p k f).2 = true := r2 k hk'
  obtain ⟨_, _, _, _, hlt, hee⟩ := mostOf_some hs
  simp only [Int.toNat_natCast] at hlt hee
  have e1 : ys.getD k 0 = -clT p k f.toNat := by rw [r3 k hk']; unfold leastOf; rw [hee]
  rw [e1, (hm k hk').2]
  have := F.closed k hk' f.toNat f.toNat (by omega) (by omega) (hm k hk').1 hlt
  rw [F.diag _ (by omega)] at this
  omega
theorem latest_no {p : Pl} {f : Int} {xs : List Int} (h : latest p f = (xs, false)) : xs = [] := by
  unfold latest at h
  split at h
  · have := rowOf_no (tell := fun k => mostOf p f k) (n := nn p) (by rw [h])
    rw [h] at this; exact this
  · injection h with h _; exact h.symm
theorem latest_small {p : Pl} {f : Int} {xs : List Int} (h : latest p f = (xs, true)) (k : Nat) (hk : k < xs.length) : -2000 ≤ xs.getD k 0 ∧ xs.getD k 0 ≤ 2000 := by
  have h1 := (keepsOk_iff.1 (latest_keeps h).1).1
  unfold timesOk at h1
  simp only [Bool.and_eq_true, List.all_eq_true, inB_iff] at h1
  have := h1.2 xs[k] (List.getElem_mem _)
  rw [List.getD_eq_getElem?_getD, List.getElem?_eq_getElem hk]
  exact this
end Pp
end Go.Proofs.Ytmnajkhoacogjaa
