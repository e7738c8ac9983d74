/-
  Plain laws: times that keep a plan.
-/
import Derived.Test.YtdijfkpccbkdfaaP5
namespace Go.Proofs.Ytdijfkpccbkdfaa
set_option linter.unusedVariables false
set_option linter.unusedSimpArgs false
namespace Pp

def keptB (xs : List Int) (b : Bd) : Bool := decide (xs.getD b.t.toNat 0 - xs.getD b.f.toNat 0 ≤ b.m)
def timesOk (p : Pl) (xs : List Int) : Bool := planOk p && decide (xs.length = nn p) && xs.all fun x => inB x (-2000) 2000
def keepsOk (p : Pl) (xs : List Int) : Bool := timesOk p xs && p.bs.all (keptB xs)
theorem keepsOk_iff {p : Pl} {xs : List Int} : keepsOk p xs = true ↔ timesOk p xs = true ∧ Sol p.bs (fun v => xs.getD v 0) := by
  unfold keepsOk keptB Sol
  rw [Bool.and_eq_true, List.all_eq_true]
  simp only [decide_eq_true_eq]

/-- What LatestOf tells keeps the plan. -/
theorem latest_keeps {p : Pl} {f : Int} {xs : List Int} (h : latest p f = (xs, true)) : keepsOk p xs = true ∧ fits p = true ∧ (0 ≤ f ∧ f < p.n) ∧ xs.length = nn p ∧ xs.getD f.toNat 0 = 0 ∧ (∀ k, k < nn p → clT p f.toNat k < Far ∧ xs.getD k 0 = clT p f.toNat k) := by
  unfold latest at h
  split at h
  · rename_i hc
    simp only [Bool.and_eq_true, inB_iff] at hc
    obtain ⟨hfit, hf0, hf1⟩ := hc
    have F := fit_of hfit
    have hn := nn_ok F.ok
    have hr := rowOf_yes (tell := fun k => mostOf p f k) (n := nn p) (by rw [h])
    rw [h] at hr
    obtain ⟨h1, h2, h3⟩ := hr
    dsimp only at h1 h2 h3
    have hm : ∀ k, k < nn p → clT p f.toNat k < Far ∧ xs.getD k 0 = clT p f.toNat k := fun k hk => by
      obtain ⟨_, _, _, _, hlt, he⟩ := mostOf_some (h2 k hk)
      simp only [Int.toNat_natCast] at hlt he
      exact ⟨hlt, by rw [h3 k hk, he]⟩
    have hfn : f.toNat < nn p := by omega
    refine ⟨keepsOk_iff.2 ⟨?_, ?_⟩, hfit, by omega, h1, by rw [(hm _ hfn).2, F.diag _ hfn], hm⟩
    · unfold timesOk
      rw [F.ok, decide_eq_true h1]
      simp only [Bool.true_and, List.all_eq_true]
      intro x hx
      obtain ⟨k, hk, rfl⟩ := List.getElem_of_mem hx
      have e : xs[k] = clT p f.toNat k := by
        have := (hm k (by omega)).2
        rw [List.getD_eq_getElem?_getD, List.getElem?_eq_getElem hk] at this
        exact this
      have a := clT_small F hfn (by omega : k < nn p) (hm k (by omega)).1
      have b := clT_low F hfn (by omega : k < nn p) (hm k (by omega)).1
      rw [e]
      exact inB_iff.2 ⟨by omega, by omega⟩
    · intro b hb
      obtain ⟨⟨f1, f2⟩, ⟨t1, t2⟩, m1, m2⟩ := within_of_ok F.ok b hb
      have e1 := hm b.t.toNat (by omega)
      have e2 := hm b.f.toNat (by omega)
      dsimp only
      rw [e1.2, e2.2]
      have e3 : clT p b.f.toNat b.t.toNat ≤ b.m := Int.le_trans (clo_le _ _ _ _) (tab0_bound hb (by omega) (by omega))
      have := F.closed b.f.toNat (by omega) f.toNat b.t.toNat hfn (by omega) e2.1 (by unfold Far; omega)
      omega
  · injection h with _ h; cases h

/-- The earliest times of the turned plan are the latest ones with the other signs. -/
theorem turned_early {p : Pl} {f : Int} {xs : List Int} (h : latest p f = (xs, true)) : ∃ ys, earliest (turn p) f = (ys, true) ∧ ys.length = xs.length ∧ ∀ k, k < xs.length → ys.getD k 0 = -xs.getD k 0 := by
  obtain ⟨_, hfit, hf, hl, _, hm⟩ := latest_keeps h
  have hp := planOk_of_fits hfit
  have hn := nn_ok hp
  have ht := turn_fits hfit
  obtain ⟨_, hk, hkn, _⟩ := turn_ok hp
  have hfn : f.toNat < nn p := by omega
  have hl' : ∀ k, k < nn p → leastOf (turn p) f k = (-(clT p f.toNat k), true) := fun k hk' => by
    have e : clT (turn p) k f.toNat = clT p f.toNat k := turn_clT hfit hk' hfn
    unfold leastOf
    rw [mostOf_is ht (f := (k : Int)) (t := f) (by rw [hkn]; omega) (by rw [hkn]; omega) (by simp only [Int.toNat_natCast]; rw [e]; exact (hm k hk').1)]
    simp only [Int.toNat_natCast]
    rw [e]
  have he : earliest (turn p) f = rowOf (fun k => leastOf (turn p) f k) (nn p) := by
    unfold earliest
    rw [ht, hkn, inB_iff.2 (show 0 ≤ f ∧ f ≤ p.n - 1 by omega), hk]
    rfl
  have h2 : (rowOf (fun k => leastOf (turn p) f k) (nn p)).2 = true := rowOf_all fun k hk' => by (try dsimp only); rw [hl' k hk']
  obtain ⟨r1, r2, r3⟩ := rowOf_yes h2
  refine ⟨(rowOf (fun k => leastOf (turn p) f k) (nn p)).1, by rw [he]; exact Prod.ext rfl h2, by omega, fun k hk' => ?_⟩
  rw [r3 k (by omega), (hm k (by omega)).2]
  (try dsimp only)
  rw [hl' k (by omega)]

/-- The earliest times are not after the latest ones. -/
theorem early_late {p : Pl} {f : Int} {xs ys : List Int} (h : latest p f = (xs, true)) (h' : earliest p f = (ys, true)) : ys.length = xs.length ∧ ∀ k, k < xs.length → ys.getD k 0 ≤ xs.getD k 0 := by
  obtain ⟨_, hfit, hf, hl, _, hm⟩ := latest_keeps h
  have F := fit_of hfit
  have hn := nn_ok F.ok
  have he : earliest p f = rowOf (fun k => leastOf p f k) (nn p) := by
    unfold earliest
    rw [hfit, inB_iff.2 (show 0 ≤ f ∧ f ≤ p.n - 1 by omega)]
    rfl
  rw [he] at h'
  have hr := rowOf_yes (tell := fun k => leastOf p f k) (n := nn p) (by rw [h'])
  rw [h'] at hr
  obtain ⟨r1, r2, r3⟩ := hr
  dsimp only at r1 r2 r3
  refine ⟨by omega, fun k hk => ?_⟩
  have hk' : k < nn p := by omega
  have hs : (mostOf p k f).2 = true := r2 k hk'
  obtain ⟨_, _, _, _, hlt, hee⟩ := mostOf_some hs
  simp only [Int.toNat_natCast] at hlt hee
  have e1 : ys.getD k 0 = -clT p k f.toNat := by rw [r3 k hk']; unfold leastOf; rw [hee]
  rw [e1, (hm k hk').2]
  have := F.closed k hk' f.toNat f.toNat (by omega) (by omega) (hm k hk').1 hlt
  rw [F.diag _ (by omega)] at this
  omega
theorem latest_no {p : Pl} {f : Int} {xs : List Int} (h : latest p f = (xs, false)) : xs = [] := by
  unfold latest at h
  split at h
  · have := rowOf_no (tell := fun k => mostOf p f k) (n := nn p) (by rw [h])
    rw [h] at this; exact this
  · injection h with h _; exact h.symm
theorem latest_small {p : Pl} {f : Int} {xs : List Int} (h : latest p f = (xs, true)) (k : Nat) (hk : k < xs.length) : -2000 ≤ xs.getD k 0 ∧ xs.getD k 0 ≤ 2000 := by
  have h1 := (keepsOk_iff.1 (latest_keeps h).1).1
  unfold timesOk at h1
  simp only [Bool.and_eq_true, List.all_eq_true, inB_iff] at h1
  have := h1.2 xs[k] (List.getElem_mem _)
  rw [List.getD_eq_getElem?_getD, List.getElem?_eq_getElem hk]
  exact this
end Pp
end Go.Proofs.Ytdijfkpccbkdfaa
