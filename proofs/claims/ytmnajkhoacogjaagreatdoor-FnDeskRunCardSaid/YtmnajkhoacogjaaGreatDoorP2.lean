/-
 Plain laws of plans that fit (no program in sight).
 Plain laws: a difference that is set.
 Plain laws: what one plan implies of another one.
 Plain laws: late and early, and the turned plan.
 Plain laws: times that keep a plan.
 Plain laws: needless bounds, and plans that are trimmed.
-/
import Derived.Test.YtmnajkhoacogjaaGreatDoorPure
namespace Go.Proofs.YtmnajkhoacogjaaGreatDoor
set_option linter.unusedVariables false
set_option linter.unusedSimpArgs false

namespace Pp

theorem clT_diag_le (p : Pl) (i : Nat) : clT p i i ≤ 0 := Int.le_trans (clo_le _ _ i i) ((tab0_le _ i i).2 rfl)

structure Fit (p : Pl) : Prop where
 ok : planOk p = true
 mild : Mild (nn p) (clT p)
 closed : ClosedTo (nn p) (nn p) (clT p)
 diag : ∀ i, i < nn p → clT p i i = 0
 sol : ∀ y, TSol (nn p) (clT p) y ↔ Sol p.bs y

theorem clT_sol {p : Pl} (h : planOk p = true) (y : Nat → Int) : TSol (nn p) (clT p) y ↔ Sol p.bs y :=
 (tsol_clo y).trans (tsol_tab0 (M := 99) (by unfold Far; omega) (within_of_ok h) y)
theorem clT_mild {p : Pl} (h : planOk p = true) : MildTo (nn p) (tab0 p.bs) := (small_ok (nn_ok h).1 (by omega) (by omega : (99 : Int) ≤ 700) (within_of_ok h)).1

theorem fit_of {p : Pl} (h : fits p = true) : Fit p := by
 have hp := planOk_of_fits h
 have hd : ∀ i, i < nn p → 0 ≤ clT p i i := by
  unfold fits at h; simp only [Bool.and_eq_true] at h; exact diagOk_iff.1 h.2
 exact ⟨hp, clT_mild hp _ (Nat.le_refl _), clo_closed (clT_mild hp) hd, fun i hi => by have := hd i hi; have := clT_diag_le p i; omega, clT_sol hp⟩

theorem fits_iff {p : Pl} (h : planOk p = true) : fits p = true ↔ ∃ y, Sol p.bs y := by
 constructor
 ·intro hf
  have F := fit_of hf
  obtain ⟨y, hy⟩ := sol_some F.mild F.closed (fun i hi => by rw [F.diag i hi]; exact Int.le_refl _)
  exact ⟨y, (F.sol y).1 hy⟩
 ·rintro ⟨y, hy⟩
  unfold fits
  simp only [Bool.and_eq_true]
  refine ⟨h, diagOk_iff.2 fun i hi => ?_⟩
  have := clT_diag_le p i
  have := (clT_sol h y).2 hy i i hi hi (by unfold Far; omega)
  omega

theorem Fit.tight {p : Pl} (F : Fit p) {i j : Nat} (hi : i < nn p) (hj : j < nn p) (c : Int) (h : ∀ y, Sol p.bs y → y j - y i ≤ c) : clT p i j < Far ∧ clT p i j ≤ c :=
 Pp.tight F.mild F.closed (fun i hi => by rw [F.diag i hi]; exact Int.le_refl _) hi hj c (fun y hy => h y ((F.sol y).1 hy)) (fun e => by subst e; rw [F.diag i hi]; exact Int.le_refl _)
theorem Fit.le {p : Pl} (F : Fit p) {i j : Nat} (hi : i < nn p) (hj : j < nn p) {y : Nat → Int} (hy : Sol p.bs y) (hf : clT p i j < Far) : y j - y i ≤ clT p i j :=
 (F.sol y).2 hy i j hi hj hf
/-- Of more bounds, or of more that is implied: the closed table is no greater. -/
theorem Fit.mono {p q : Pl} (F : Fit p) (G : Fit q) (hn : nn p = nn q) (h : ∀ y, Sol q.bs y → Sol p.bs y) (i j : Nat) (hi : i < nn p) (hj : j < nn p) : clT q i j ≤ clT p i j := by
 by_cases hf : clT p i j < Far
 ·exact (G.tight (by omega) (by omega) _ fun y hy => F.le hi hj (h y hy) hf).2
 ·have := clT_le (p := p) i j; have := clT_le (p := q) i j; unfold Far at *; omega

end Pp

namespace Pp

section
variable {n : Int} {bs : List Bd} {f t y : Int}
end
end Pp

namespace Pp

/-- Each number of a table is at most that of another one, row by row up to a place. -/
def rowLe (D T : Tb) (i : Nat) : Nat → Bool
 | 0 => true
 | k + 1 => rowLe D T i k && decide (D i k ≤ T i k)
def tabLe (D T : Tb) (n : Nat) : Nat → Bool
 | 0 => true
 | i + 1 => tabLe D T n i && rowLe D T i n
theorem rowLe_iff {D T : Tb} {i : Nat} : ∀ {k : Nat}, rowLe D T i k = true ↔ ∀ j, j < k → D i j ≤ T i j
 | 0 => by simp [rowLe]
 | k + 1 => by
   simp only [rowLe, Bool.and_eq_true, decide_eq_true_eq, rowLe_iff (k := k)]
   constructor
   ·rintro ⟨h1, h2⟩ j hj
    rcases Nat.lt_succ_iff_lt_or_eq.1 hj with h | rfl
    ·exact h1 j h
    ·exact h2
   ·exact fun h => ⟨fun j hj => h j (by omega), h k (by omega)⟩
theorem tabLe_iff {D T : Tb} {n : Nat} : ∀ {i : Nat}, tabLe D T n i = true ↔ ∀ a, a < i → ∀ j, j < n → D a j ≤ T a j
 | 0 => by simp [tabLe]
 | i + 1 => by
   simp only [tabLe, Bool.and_eq_true, tabLe_iff (i := i), rowLe_iff]
   constructor
   ·rintro ⟨h1, h2⟩ a ha
    rcases Nat.lt_succ_iff_lt_or_eq.1 ha with h | rfl
    ·exact h1 a h
    ·exact h2
   ·exact fun h => ⟨fun a ha => h a (by omega), h i (by omega)⟩
theorem tabLe_no {D T : Tb} {i j n m : Nat} (hi : i < m) (hj : j < n) (h : ¬ D i j ≤ T i j) : tabLe D T n m = false := by
 cases hr : tabLe D T n m
 ·rfl
 ·exact absurd (tabLe_iff.1 hr i hi j hj) h

/-- What impl.ImpliesOk and spec.ImpliesOk tell. -/
def implies (p q : Pl) : Bool := planOk p && planOk q && decide (p.n = q.n) && (!fits p || tabLe (clT p) (tab0 q.bs) (nn p) (nn p))
def alike (p q : Pl) : Bool := implies p q && implies q p

theorem implies_ok {p q : Pl} (h : implies p q = true) : planOk p = true ∧ planOk q = true ∧ p.n = q.n := by
 unfold implies at h; simp only [Bool.and_eq_true, decide_eq_true_eq] at h; exact ⟨h.1.1.1, h.1.1.2, h.1.2⟩
/-- It holds just if all times that keep the first plan keep the second one. -/
theorem implies_iff {p q : Pl} (hp : planOk p = true) (hq : planOk q = true) (hn : p.n = q.n) : implies p q = true ↔ ∀ y, Sol p.bs y → Sol q.bs y := by
 have hnn : nn p = nn q := by unfold nn; rw [hn]
 unfold implies
 rw [hp, hq, decide_eq_true hn]
 simp only [Bool.and_true, Bool.true_and, Bool.or_eq_true, Bool.not_eq_true']
 cases hf : fits p
 ·simp only [true_or, true_iff]
  intro y hy
  have := (fits_iff hp).2 ⟨y, hy⟩
  rw [hf] at this; cases this
 ·have F := fit_of hf
  simp only [Bool.true_eq_false, false_or, tabLe_iff]
  constructor
  ·intro h y hy
   refine (tsol_tab0 (M := 99) (by unfold Far; omega) (within_of_ok hq) y).1 fun i j hi hj hlt => ?_
   have := h i (by omega) j (by omega)
   exact Int.le_trans (F.le (by omega) (by omega) hy (by omega)) this
  ·intro h i hi j hj
   by_cases hlt : tab0 q.bs i j < Far
   ·exact (F.tight hi hj _ fun y hy => (tsol_tab0 (M := 99) (by unfold Far; omega) (within_of_ok hq) y).2 (h y hy) i j (by omega) (by omega) hlt).2
   ·have := clT_le (p := p) i j; omega
theorem alike_iff {p q : Pl} (hp : planOk p = true) (hq : planOk q = true) (hn : p.n = q.n) : alike p q = true ↔ ∀ y, Sol p.bs y ↔ Sol q.bs y := by
 unfold alike
 rw [Bool.and_eq_true, implies_iff hp hq hn, implies_iff hq hp hn.symm]
 exact ⟨fun h y => ⟨h.1 y, h.2 y⟩, fun h => ⟨fun y => (h y).1, fun y => (h y).2⟩⟩
end Pp

namespace Pp

/-- The turned plan. -/
def turn (p : Pl) : Pl := if planOk p then ⟨p.n, p.bs.map fun b => ⟨b.t, b.f, b.m⟩⟩ else ⟨0, []⟩
theorem turn_ok {p : Pl} (h : planOk p = true) : planOk (turn p) = true ∧ nn (turn p) = nn p ∧ (turn p).n = p.n ∧ (turn p).bs = p.bs.map fun b => ⟨b.t, b.f, b.m⟩ := by
 unfold turn
 rw [if_pos h]
 refine ⟨?_, rfl, rfl, rfl⟩
 obtain ⟨h1, h2, h3⟩ := planOk_iff.1 h
 refine planOk_iff.2 ⟨h1, by simpa using h2, fun b hb => ?_⟩
 obtain ⟨a, ha, rfl⟩ := List.mem_map.1 hb
 have := bdOk_iff.1 (h3 a ha)
 exact bdOk_iff.2 ⟨this.2.1, this.1, this.2.2⟩
theorem turn_sol {p : Pl} (h : planOk p = true) (x : Nat → Int) : Sol (turn p).bs x ↔ Sol p.bs (fun v => -x v) := by
 rw [(turn_ok h).2.2.2]
 unfold Sol
 constructor
 ·intro hx b hb
  have := hx ⟨b.t, b.f, b.m⟩ (List.mem_map.2 ⟨b, hb, rfl⟩)
  (try dsimp only at this ⊢)
  omega
 ·intro hx b hb
  obtain ⟨a, ha, rfl⟩ := List.mem_map.1 hb
  have := hx a ha
  (try dsimp only at this ⊢)
  omega
theorem turn_fits {p : Pl} (h : fits p = true) : fits (turn p) = true := by
 have hp := planOk_of_fits h
 obtain ⟨y, hy⟩ := (fits_iff hp).1 h
 exact (fits_iff (turn_ok hp).1).2 ⟨fun v => -y v, (turn_sol hp _).2 (by simpa using hy)⟩
/-! ### rows of times -/

end Pp

namespace Pp

end Pp

namespace Pp

/-- A plan's bounds without one of them. -/
def del (bs : List Bd) (k : Nat) : List Bd := bs.eraseIdx k
def needless (p : Pl) (k : Nat) : Bool := decide (k < p.bs.length) && alike p ⟨p.n, del p.bs k⟩
/-- What impl.NeedlessOk and spec.NeedlessOk tell, of any number. -/
def needlessI (p : Pl) (k : Int) : Bool := decide (0 ≤ k) && needless p k.toNat
def trimGo (n : Int) : Nat → List Bd → List Bd
 | 0, bs => bs
 | k + 1, bs => trimGo n k (if needless ⟨n, bs⟩ k then del bs k else bs)
def trim (p : Pl) : Pl := if planOk p then ⟨p.n, trimGo p.n p.bs.length p.bs⟩ else ⟨0, []⟩

theorem del_length {bs : List Bd} {k : Nat} (h : k < bs.length) : (del bs k).length = bs.length - 1 := by unfold del; rw [List.length_eraseIdx, if_pos h]
theorem del_le (bs : List Bd) (k : Nat) : (del bs k).length ≤ bs.length := by unfold del; exact List.length_eraseIdx_le ..
theorem del_mem {bs : List Bd} {k : Nat} {x : Bd} (h : x ∈ del bs k) : x ∈ bs := by unfold del at h; exact List.mem_of_mem_eraseIdx h
theorem del_eq (bs : List Bd) (k : Nat) : del bs k = bs.take k ++ bs.drop (k + 1) := by unfold del; exact List.eraseIdx_eq_take_drop_succ ..
theorem del_ok {n : Int} {bs : List Bd} (h : planOk ⟨n, bs⟩ = true) (k : Nat) : planOk ⟨n, del bs k⟩ = true := by
 rw [planOk_iff] at h ⊢
 exact ⟨h.1, Nat.le_trans (del_le bs k) h.2.1, fun b hb => h.2.2 b (del_mem hb)⟩
theorem del_sol {bs : List Bd} {k : Nat} {y : Nat → Int} (h : Sol bs y) : Sol (del bs k) y := fun b hb => h b (del_mem hb)
theorem needless_iff {n : Int} {bs : List Bd} (h : planOk ⟨n, bs⟩ = true) (k : Nat) : needless ⟨n, bs⟩ k = true ↔ k < bs.length ∧ ∀ y, Sol (del bs k) y → Sol bs y := by
 unfold needless
 rw [Bool.and_eq_true, decide_eq_true_eq, alike_iff h (del_ok h k) rfl]
 exact ⟨fun ⟨h1, h2⟩ => ⟨h1, fun y hy => (h2 y).2 hy⟩, fun ⟨h1, h2⟩ => ⟨h1, fun y => ⟨del_sol, h2 y⟩⟩⟩
theorem del_del {bs : List Bd} {k j : Nat} (hkj : k ≤ j) {x : Bd} (h : x ∈ del (del bs k) j) : x ∈ del bs (j + 1) := by
 unfold del at h ⊢
 rw [List.mem_eraseIdx_iff_getElem?] at h ⊢
 obtain ⟨i, hij, hi⟩ := h
 rw [List.getElem?_eraseIdx] at hi
 split at hi
 ·exact ⟨i, by omega, hi⟩
 ·exact ⟨i + 1, by omega, hi⟩
theorem trimGo_spec {n : Int} : ∀ {k : Nat} {bs : List Bd}, planOk ⟨n, bs⟩ = true → k ≤ bs.length → (∀ j, k ≤ j → needless ⟨n, bs⟩ j = false) →
  planOk ⟨n, trimGo n k bs⟩ = true ∧ (∀ y, Sol (trimGo n k bs) y ↔ Sol bs y) ∧ ∀ j, needless ⟨n, trimGo n k bs⟩ j = false
 | 0, bs, h, _, hj => ⟨h, fun _ => Iff.rfl, fun j => hj j (Nat.zero_le _)⟩
 | k + 1, bs, h, hk, hj => by
   simp only [trimGo]
   cases hn : needless ⟨n, bs⟩ k
   ·rw [if_neg (by simp)]
    refine trimGo_spec h (by omega) fun j hkj => ?_
    rcases Nat.eq_or_lt_of_le hkj with rfl | h2
    ·exact hn
    ·exact hj j h2
   ·rw [if_pos rfl]
    have h1 := (needless_iff h k).1 hn
    have hd := del_ok h k
    have e : ∀ y, Sol (del bs k) y ↔ Sol bs y := fun y => ⟨h1.2 y, del_sol⟩
    have hl := del_length h1.1
    obtain ⟨r1, r2, r3⟩ := trimGo_spec (k := k) hd (by omega) (fun j hkj => by
     cases hc : needless ⟨n, del bs k⟩ j
     ·rfl
     ·have h2 := (needless_iff hd j).1 hc
      have := hj (j + 1) (by omega)
      rw [(needless_iff h (j + 1)).2 ⟨by omega, fun y hy => (e y).1 (h2.2 y fun b hb => hy b (del_del hkj hb))⟩] at this
      cases this)
    exact ⟨r1, fun y => (r2 y).trans (e y), r3⟩
theorem trimGo_none {n : Int} : ∀ {k : Nat} {bs : List Bd}, (∀ j, needless ⟨n, bs⟩ j = false) → trimGo n k bs = bs
 | 0, _, _ => rfl
 | k + 1, bs, h => by simp only [trimGo]; rw [h k, if_neg (by simp)]; exact trimGo_none h
theorem trim_ok {p : Pl} (h : planOk p = true) : planOk (trim p) = true ∧ (trim p).n = p.n ∧ (∀ j, needless (trim p) j = false) ∧ alike (trim p) p = true ∧ trim (trim p) = trim p ∧ (trim p).bs.length ≤ 16 := by
 have e : trim p = ⟨p.n, trimGo p.n p.bs.length p.bs⟩ := by unfold trim; rw [if_pos h]
 obtain ⟨r1, r2, r3⟩ := trimGo_spec (n := p.n) (bs := p.bs) h (Nat.le_refl _) (fun j hj => by unfold needless; rw [decide_eq_false (by dsimp only; omega)]; rfl)
 rw [e]
 refine ⟨r1, rfl, r3, (alike_iff r1 h rfl).2 r2, ?_, (planOk_iff.1 r1).2.1⟩
 unfold trim
 rw [if_pos r1]
 dsimp only
 rw [trimGo_none r3]
theorem trim_no {p : Pl} (h : planOk p = false) : trim p = ⟨0, []⟩ := by unfold trim; rw [h]; rfl
end Pp
end Go.Proofs.YtmnajkhoacogjaaGreatDoor
