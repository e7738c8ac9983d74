/-
  Dispatch: states, windows, what is ready, the deadline. No program.
-/
import Derived.Test.YtjlaljnffmncpaaP5
namespace Go.Proofs.Ytjlaljnffmncpaa
set_option linter.unusedVariables false
set_option linter.unusedSimpArgs false
namespace Pp

structure St where
  now : Int
  done : List Int

def stateOk (p : Pl) (s : St) : Bool := fits p && decide (s.done.length = nn p) && inB s.now 0 2000 && decide (s.done.getD 0 0 = 0) && s.done.all (fun x => inB x (-1) s.now)

structure SOk (p : Pl) (s : St) : Prop where
  fit : fits p = true
  len : s.done.length = nn p
  now : 0 ≤ s.now ∧ s.now ≤ 2000
  zero : s.done.getD 0 0 = 0
  all : ∀ x ∈ s.done, -1 ≤ x ∧ x ≤ s.now
theorem stateOk_iff {p : Pl} {s : St} : stateOk p s = true ↔ SOk p s := by
  unfold stateOk
  simp only [Bool.and_eq_true, decide_eq_true_eq, List.all_eq_true, inB_iff]
  exact ⟨fun ⟨⟨⟨⟨a, b⟩, c⟩, d⟩, e⟩ => ⟨a, b, c, d, e⟩, fun h => ⟨⟨⟨⟨h.fit, h.len⟩, h.now⟩, h.zero⟩, h.all⟩⟩
theorem SOk.at {p : Pl} {s : St} (h : SOk p s) {i : Nat} (hi : i < nn p) : -1 ≤ s.done.getD i 0 ∧ s.done.getD i 0 ≤ s.now := by
  have hl : i < s.done.length := by rw [h.len]; exact hi
  have e : s.done.getD i 0 = s.done[i] := by rw [List.getD_eq_getElem?_getD, List.getElem?_eq_getElem hl]; rfl
  rw [e]
  exact h.all _ (List.getElem_mem hl)

/-- The numbers of a closed table are small, or say nothing. -/
def Small (n : Nat) (T : Tb) : Prop := ∀ i j, i < n → j < n → T i j ≤ Far ∧ (T i j < Far → -600 ≤ T i j ∧ T i j ≤ 600)
theorem small_clT {p : Pl} (h : fits p = true) : Small (nn p) (clT p) := fun i j hi hj =>
  ⟨clT_le i j, fun hf => ⟨clT_low (fit_of h) hi hj hf, clT_small (fit_of h) hi hj hf⟩⟩

def winAt (T : Tb) (pt : Nat) (a : Int × Int) (i : Nat) (x : Int) : Int × Int :=
  if x = -1 then a else (if T pt i < Far then max a.1 (x - T pt i) else a.1, if T i pt < Far then min a.2 (x + T i pt) else a.2)
def winTo (T : Tb) (xs : List Int) (now : Int) (pt : Nat) : Nat → Int × Int
  | 0 => (now, Far)
  | k + 1 => winAt T pt (winTo T xs now pt k) k (xs.getD k 0)
theorem winTo_step {T : Tb} {xs : List Int} {now : Int} {pt k : Nat} {lo hi x : Int} (h : winTo T xs now pt k = (lo, hi)) (hx : xs.getD k 0 = x) : winTo T xs now pt (k + 1) = winAt T pt (lo, hi) k x := by
  show winAt T pt (winTo T xs now pt k) k (xs.getD k 0) = _
  rw [h, hx]
theorem winTo_abs {n : Nat} {T : Tb} (hT : Small n T) {xs : List Int} (hl : xs.length = n) {now : Int} (hnow : 0 ≤ now ∧ now ≤ 2000) (hx : ∀ x ∈ xs, -1 ≤ x ∧ x ≤ now) {pt : Nat} (hp : pt < n) :
    ∀ k, k ≤ n → (0 ≤ (winTo T xs now pt k).1 ∧ (winTo T xs now pt k).1 ≤ 3000) ∧ -1000 ≤ (winTo T xs now pt k).2 ∧ (winTo T xs now pt k).2 ≤ 100000
  | 0, _ => by simp only [winTo, Far]; omega
  | k + 1, hk => by
    have ih := winTo_abs hT hl hnow hx hp k (by omega)
    have hl' : k < xs.length := by omega
    have e : xs.getD k 0 = xs[k] := by rw [List.getD_eq_getElem?_getD, List.getElem?_eq_getElem hl']; rfl
    have h0 := hx _ (List.getElem_mem hl')
    rw [← e] at h0
    have h1 := hT pt k hp (by omega)
    have h2 := hT k pt (by omega) hp
    simp only [winTo, winAt]
    generalize winTo T xs now pt k = a at *
    generalize T pt k = u at *
    generalize T k pt = v at *
    generalize xs.getD k 0 = x at *
    clear hl hx hT e hl'
    unfold Far at *
    split
    · exact ih
    · dsimp only
      refine ⟨?_, ?_⟩
      · split <;> omega
      · split <;> omega

def openB (xs : List Int) (pt : Int) : Bool := inB pt 0 ((xs.length : Int) - 1) && decide (xs.getD pt.toNat 0 = -1)
theorem openB_iff {xs : List Int} {pt : Int} : openB xs pt = true ↔ (0 ≤ pt ∧ pt < xs.length) ∧ xs.getD pt.toNat 0 = -1 := by
  unfold openB
  rw [Bool.and_eq_true, inB_iff, decide_eq_true_eq]
  constructor
  · rintro ⟨h, h2⟩; exact ⟨⟨h.1, by omega⟩, h2⟩
  · rintro ⟨h, h2⟩; exact ⟨⟨h.1, by omega⟩, h2⟩
def rdyTo (T : Tb) (xs : List Int) (pt : Nat) : Nat → Bool
  | 0 => true
  | k + 1 => rdyTo T xs pt k && !(decide (xs.getD k 0 = -1) && decide (T pt k < 0))
theorem rdyTo_iff {T : Tb} {xs : List Int} {pt : Nat} : ∀ {k : Nat}, rdyTo T xs pt k = true ↔ ∀ i, i < k → xs.getD i 0 = -1 → 0 ≤ T pt i
  | 0 => by simp [rdyTo]
  | k + 1 => by
    simp only [rdyTo, Bool.and_eq_true, rdyTo_iff (k := k), Bool.not_eq_true', Bool.and_eq_false_iff, decide_eq_false_iff_not]
    constructor
    · rintro ⟨h1, h2⟩ i hi hx
      by_cases e : i = k
      · subst e; rcases h2 with h2 | h2
        · exact absurd hx h2
        · omega
      · exact h1 i (by omega) hx
    · intro h
      refine ⟨fun i hi => h i (by omega), ?_⟩
      by_cases e : xs.getD k 0 = -1
      · have := h k (by omega) e; right; omega
      · exact .inl e
theorem rdyTo_no {T : Tb} {xs : List Int} {pt n i : Nat} (hi : i < n) (hx : xs.getD i 0 = -1) (h : T pt i < 0) : rdyTo T xs pt n = false := by
  rw [Bool.eq_false_iff]
  intro hr
  have := rdyTo_iff.1 hr i hi hx
  omega
def deadTo (T : Tb) (xs : List Int) (now : Int) (n : Nat) : Nat → Int
  | 0 => Far
  | k + 1 => if xs.getD k 0 = -1 then min (deadTo T xs now n k) (winTo T xs now k n).2 else deadTo T xs now n k

def window (p : Pl) (s : St) (pt : Int) : Int × Int × Bool :=
  if stateOk p s && openB s.done pt then ((winTo (clT p) s.done s.now pt.toNat (nn p)).1, (winTo (clT p) s.done s.now pt.toNat (nn p)).2, true) else (0, 0, false)
def isReady (p : Pl) (s : St) (pt : Int) : Bool := stateOk p s && openB s.done pt && rdyTo (clT p) s.done pt.toNat (nn p)
def deadline (p : Pl) (s : St) : Int := if stateOk p s then deadTo (clT p) s.done s.now (nn p) (nn p) else -1
def mayDo (p : Pl) (s : St) (pt t : Int) : Bool := isReady p s pt && inB t (window p s pt).1 (window p s pt).2.1 && decide (t ≤ deadline p s) && decide (t ≤ 2000)
def doAt (p : Pl) (s : St) (pt t : Int) : St × Bool :=
  if stateOk p s then (if mayDo p s pt t then (⟨t, s.done.set pt.toNat t⟩, true) else (s, false)) else (⟨0, []⟩, false)

theorem window_no {p : Pl} {s : St} {pt : Int} (h : (stateOk p s && openB s.done pt) = false) : window p s pt = (0, 0, false) := by unfold window; rw [h]; rfl
theorem window_yes {p : Pl} {s : St} {pt : Int} (h1 : stateOk p s = true) (h2 : openB s.done pt = true) : window p s pt = ((winTo (clT p) s.done s.now pt.toNat (nn p)).1, (winTo (clT p) s.done s.now pt.toNat (nn p)).2, true) := by unfold window; rw [h1, h2]; rfl
theorem window_abs {p : Pl} {s : St} {pt : Int} : (0 ≤ (window p s pt).1 ∧ (window p s pt).1 ≤ 3000) ∧ -1000 ≤ (window p s pt).2.1 ∧ (window p s pt).2.1 ≤ 100000 := by
  unfold window
  split
  · rename_i h
    rw [Bool.and_eq_true] at h
    have hs := stateOk_iff.1 h.1
    have ho := openB_iff.1 h.2
    exact winTo_abs (small_clT hs.fit) hs.len hs.now hs.all (by rw [← hs.len]; omega) _ (Nat.le_refl _)
  · simp
theorem deadTo_abs {n : Nat} {T : Tb} (hT : Small n T) {xs : List Int} (hl : xs.length = n) {now : Int} (hnow : 0 ≤ now ∧ now ≤ 2000) (hx : ∀ x ∈ xs, -1 ≤ x ∧ x ≤ now) :
    ∀ k, k ≤ n → -1000 ≤ deadTo T xs now n k ∧ deadTo T xs now n k ≤ 100000
  | 0, _ => by simp [deadTo, Far]
  | k + 1, hk => by
    have ih := deadTo_abs hT hl hnow hx k (by omega)
    have h := winTo_abs hT hl hnow hx (show k < n by omega) n (Nat.le_refl _)
    simp only [deadTo]
    split <;> omega
theorem deadline_abs {p : Pl} {s : St} : -1000 ≤ deadline p s ∧ deadline p s ≤ 100000 := by
  unfold deadline
  split
  · rename_i h
    have hs := stateOk_iff.1 h
    exact deadTo_abs (small_clT hs.fit) hs.len hs.now hs.all _ (Nat.le_refl _)
  · omega
end Pp
end Go.Proofs.Ytjlaljnffmncpaa
