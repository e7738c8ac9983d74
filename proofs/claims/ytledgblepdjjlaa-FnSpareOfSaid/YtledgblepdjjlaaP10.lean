/-
  Dispatch: states, windows, what is ready, the deadline. No program.
  The run: a new state, a step, as many steps as there are points. No program.
  Walks, and whether a state goes on. No program.
  What is done within its window never ends the plan; the run does all. No program.
  The run does all, and keeps the plan. No program.
-/
import Derived.Test.YtledgblepdjjlaaP2
namespace Go.Proofs.Ytledgblepdjjlaa
set_option linter.unusedVariables false
set_option linter.unusedSimpArgs false

namespace Pp

structure St where
  now : Int
  done : List Int

def stateOk (p : Pl) (s : St) : Bool := fits p && decide (s.done.length = nn p) && inB s.now 0 2000 && decide (s.done.getD 0 0 = 0) && s.done.all (fun x => inB x (-1) s.now)

structure SOk (p : Pl) (s : St) : Prop where
  fit : fits p = true
  len : s.done.length = nn p
  now : 0 ≤ s.now ∧ s.now ≤ 2000
  zero : s.done.getD 0 0 = 0
  all : ∀ x ∈ s.done, -1 ≤ x ∧ x ≤ s.now
theorem stateOk_iff {p : Pl} {s : St} : stateOk p s = true ↔ SOk p s := by
  unfold stateOk
  simp only [Bool.and_eq_true, decide_eq_true_eq, List.all_eq_true, inB_iff]
  exact ⟨fun ⟨⟨⟨⟨a, b⟩, c⟩, d⟩, e⟩ => ⟨a, b, c, d, e⟩, fun h => ⟨⟨⟨⟨h.fit, h.len⟩, h.now⟩, h.zero⟩, h.all⟩⟩
theorem SOk.at {p : Pl} {s : St} (h : SOk p s) {i : Nat} (hi : i < nn p) : -1 ≤ s.done.getD i 0 ∧ s.done.getD i 0 ≤ s.now := by
  have hl : i < s.done.length := by rw [h.len]; exact hi
  have e : s.done.getD i 0 = s.done[i] := by rw [List.getD_eq_getElem?_getD, List.getElem?_eq_getElem hl]; rfl
  rw [e]
  exact h.all _ (List.getElem_mem hl)

/-- The numbers of a closed table are small, or say nothing. -/
def Small (n : Nat) (T : Tb) : Prop := ∀ i j, i < n → j < n → T i j ≤ Far ∧ (T i j < Far → -600 ≤ T i j ∧ T i j ≤ 600)
theorem small_clT {p : Pl} (h : fits p = true) : Small (nn p) (clT p) := fun i j hi hj =>
  ⟨clT_le i j, fun hf => ⟨clT_low (fit_of h) hi hj hf, clT_small (fit_of h) hi hj hf⟩⟩

def winAt (T : Tb) (pt : Nat) (a : Int × Int) (i : Nat) (x : Int) : Int × Int :=
  if x = -1 then a else (if T pt i < Far then max a.1 (x - T pt i) else a.1, if T i pt < Far then min a.2 (x + T i pt) else a.2)
def winTo (T : Tb) (xs : List Int) (now : Int) (pt : Nat) : Nat → Int × Int
  | 0 => (now, Far)
  | k + 1 => winAt T pt (winTo T xs now pt k) k (xs.getD k 0)
theorem winTo_step {T : Tb} {xs : List Int} {now : Int} {pt k : Nat} {lo hi x : Int} (h : winTo T xs now pt k = (lo, hi)) (hx : xs.getD k 0 = x) : winTo T xs now pt (k + 1) = winAt T pt (lo, hi) k x := by
  show winAt T pt (winTo T xs now pt k) k (xs.getD k 0) = _
  rw [h, hx]
theorem winTo_abs {n : Nat} {T : Tb} (hT : Small n T) {xs : List Int} (hl : xs.length = n) {now : Int} (hnow : 0 ≤ now ∧ now ≤ 2000) (hx : ∀ x ∈ xs, -1 ≤ x ∧ x ≤ now) {pt : Nat} (hp : pt < n) :
    ∀ k, k ≤ n → (0 ≤ (winTo T xs now pt k).1 ∧ (winTo T xs now pt k).1 ≤ 3000) ∧ -1000 ≤ (winTo T xs now pt k).2 ∧ (winTo T xs now pt k).2 ≤ 100000
  | 0, _ => by simp only [winTo, Far]; omega
  | k + 1, hk => by
    have ih := winTo_abs hT hl hnow hx hp k (by omega)
    have hl' : k < xs.length := by omega
    have e : xs.getD k 0 = xs[k] := by rw [List.getD_eq_getElem?_getD, List.getElem?_eq_getElem hl']; rfl
    have h0 := hx _ (List.getElem_mem hl')
    rw [← e] at h0
    have h1 := hT pt k hp (by omega)
    have h2 := hT k pt (by omega) hp
    simp only [winTo, winAt]
    generalize winTo T xs now pt k = a at *
    generalize T pt k = u at *
    generalize T k pt = v at *
    generalize xs.getD k 0 = x at *
    clear hl hx hT e hl'
    unfold Far at *
    split
    · exact ih
    · dsimp only
      refine ⟨?_, ?_⟩
      · split <;> omega
      · split <;> omega

def openB (xs : List Int) (pt : Int) : Bool := inB pt 0 ((xs.length : Int) - 1) && decide (xs.getD pt.toNat 0 = -1)
theorem openB_iff {xs : List Int} {pt : Int} : openB xs pt = true ↔ (0 ≤ pt ∧ pt < xs.length) ∧ xs.getD pt.toNat 0 = -1 := by
  unfold openB
  rw [Bool.and_eq_true, inB_iff, decide_eq_true_eq]
  constructor
  · rintro ⟨h, h2⟩; exact ⟨⟨h.1, by omega⟩, h2⟩
  · rintro ⟨h, h2⟩; exact ⟨⟨h.1, by omega⟩, h2⟩
def rdyTo (T : Tb) (xs : List Int) (pt : Nat) : Nat → Bool
  | 0 => true
  | k + 1 => rdyTo T xs pt k && !(decide (xs.getD k 0 = -1) && decide (T pt k < 0))
theorem rdyTo_iff {T : Tb} {xs : List Int} {pt : Nat} : ∀ {k : Nat}, rdyTo T xs pt k = true ↔ ∀ i, i < k → xs.getD i 0 = -1 → 0 ≤ T pt i
  | 0 => by simp [rdyTo]
  | k + 1 => by
    simp only [rdyTo, Bool.and_eq_true, rdyTo_iff (k := k), Bool.not_eq_true', Bool.and_eq_false_iff, decide_eq_false_iff_not]
    constructor
    · rintro ⟨h1, h2⟩ i hi hx
      by_cases e : i = k
      · subst e; rcases h2 with h2 | h2
        · exact absurd hx h2
        · omega
      · exact h1 i (by omega) hx
    · intro h
      refine ⟨fun i hi => h i (by omega), ?_⟩
      by_cases e : xs.getD k 0 = -1
      · have := h k (by omega) e; right; omega
      · exact .inl e
theorem rdyTo_no {T : Tb} {xs : List Int} {pt n i : Nat} (hi : i < n) (hx : xs.getD i 0 = -1) (h : T pt i < 0) : rdyTo T xs pt n = false := by
  rw [Bool.eq_false_iff]
  intro hr
  have := rdyTo_iff.1 hr i hi hx
  omega
def deadTo (T : Tb) (xs : List Int) (now : Int) (n : Nat) : Nat → Int
  | 0 => Far
  | k + 1 => if xs.getD k 0 = -1 then min (deadTo T xs now n k) (winTo T xs now k n).2 else deadTo T xs now n k

def window (p : Pl) (s : St) (pt : Int) : Int × Int × Bool :=
  if stateOk p s && openB s.done pt then ((winTo (clT p) s.done s.now pt.toNat (nn p)).1, (winTo (clT p) s.done s.now pt.toNat (nn p)).2, true) else (0, 0, false)
def isReady (p : Pl) (s : St) (pt : Int) : Bool := stateOk p s && openB s.done pt && rdyTo (clT p) s.done pt.toNat (nn p)
def deadline (p : Pl) (s : St) : Int := if stateOk p s then deadTo (clT p) s.done s.now (nn p) (nn p) else -1
def mayDo (p : Pl) (s : St) (pt t : Int) : Bool := isReady p s pt && inB t (window p s pt).1 (window p s pt).2.1 && decide (t ≤ deadline p s) && decide (t ≤ 2000)
def doAt (p : Pl) (s : St) (pt t : Int) : St × Bool :=
  if stateOk p s then (if mayDo p s pt t then (⟨t, s.done.set pt.toNat t⟩, true) else (s, false)) else (⟨0, []⟩, false)

theorem window_no {p : Pl} {s : St} {pt : Int} (h : (stateOk p s && openB s.done pt) = false) : window p s pt = (0, 0, false) := by unfold window; rw [h]; rfl
theorem window_yes {p : Pl} {s : St} {pt : Int} (h1 : stateOk p s = true) (h2 : openB s.done pt = true) : window p s pt = ((winTo (clT p) s.done s.now pt.toNat (nn p)).1, (winTo (clT p) s.done s.now pt.toNat (nn p)).2, true) := by unfold window; rw [h1, h2]; rfl
theorem window_abs {p : Pl} {s : St} {pt : Int} : (0 ≤ (window p s pt).1 ∧ (window p s pt).1 ≤ 3000) ∧ -1000 ≤ (window p s pt).2.1 ∧ (window p s pt).2.1 ≤ 100000 := by
  unfold window
  split
  · rename_i h
    rw [Bool.and_eq_true] at h
    have hs := stateOk_iff.1 h.1
    have ho := openB_iff.1 h.2
    exact winTo_abs (small_clT hs.fit) hs.len hs.now hs.all (by rw [← hs.len]; omega) _ (Nat.le_refl _)
  · simp
theorem deadTo_abs {n : Nat} {T : Tb} (hT : Small n T) {xs : List Int} (hl : xs.length = n) {now : Int} (hnow : 0 ≤ now ∧ now ≤ 2000) (hx : ∀ x ∈ xs, -1 ≤ x ∧ x ≤ now) :
    ∀ k, k ≤ n → -1000 ≤ deadTo T xs now n k ∧ deadTo T xs now n k ≤ 100000
  | 0, _ => by simp [deadTo, Far]
  | k + 1, hk => by
    have ih := deadTo_abs hT hl hnow hx k (by omega)
    have h := winTo_abs hT hl hnow hx (show k < n by omega) n (Nat.le_refl _)
    simp only [deadTo]
    split <;> omega
theorem deadline_abs {p : Pl} {s : St} : -1000 ≤ deadline p s ∧ deadline p s ≤ 100000 := by
  unfold deadline
  split
  · rename_i h
    have hs := stateOk_iff.1 h
    exact deadTo_abs (small_clT hs.fit) hs.len hs.now hs.all _ (Nat.le_refl _)
  · omega
end Pp

namespace Pp

def stateNew (p : Pl) : St × Bool := if fits p then (⟨0, 0 :: List.replicate (nn p - 1) (-1)⟩, true) else (⟨0, []⟩, false)
theorem stateNew_ok {p : Pl} (h : fits p = true) : stateOk p (stateNew p).1 = true := by
  have hn := nn_ok (planOk_of_fits h)
  rw [stateOk_iff]
  unfold stateNew
  rw [if_pos h]
  refine ⟨h, ?_, by simp, by simp, ?_⟩
  · simp; omega
  · intro x hx
    simp only [List.mem_cons, List.mem_replicate] at hx
    dsimp only
    omega

theorem doAt_ok {p : Pl} {s q : St} {pt t : Int} (h : doAt p s pt t = (q, true)) : stateOk p q = true := by
  unfold doAt at h
  split at h
  · rename_i hs
    split at h
    · rename_i hm
      injection h with h1 _
      subst h1
      have hS := stateOk_iff.1 hs
      unfold mayDo at hm
      simp only [Bool.and_eq_true, decide_eq_true_eq, inB_iff] at hm
      obtain ⟨⟨⟨hr, hw1, hw2⟩, _⟩, h2000⟩ := hm
      unfold isReady at hr
      simp only [Bool.and_eq_true] at hr
      obtain ⟨⟨_, ho⟩, _⟩ := hr
      rw [window_yes hs ho] at hw1
      dsimp only at hw1
      obtain ⟨⟨p0, p1⟩, hv⟩ := openB_iff.1 ho
      have hlow : ∀ k, s.now ≤ (winTo (clT p) s.done s.now pt.toNat k).1 := by
        intro k
        induction k with
        | zero => exact Int.le_refl _
        | succ k ih =>
          simp only [winTo, winAt]
          split
          · exact ih
          · dsimp only; split <;> omega
      have hnow := hlow (nn p)
      have hn0 := hS.now
      rw [stateOk_iff]
      refine ⟨hS.fit, by simpa using hS.len, ⟨by dsimp only; omega, h2000⟩, ?_, ?_⟩
      · dsimp only
        have hne : pt.toNat ≠ 0 := fun e => by rw [e, hS.zero] at hv; omega
        rw [List.getD_eq_getElem?_getD, List.getElem?_set]
        rw [if_neg hne, ← List.getD_eq_getElem?_getD]
        exact hS.zero
      · intro x hx
        dsimp only at hx ⊢
        rcases List.mem_or_eq_of_mem_set hx with h | h
        · have := hS.all x h; omega
        · omega
    · injection h with _ h2; cases h2
  · injection h with _ h2; cases h2

def readyTo (p : Pl) (s : St) : Nat → List Int
  | 0 => []
  | k + 1 => if isReady p s (k : Int) then readyTo p s k ++ [(k : Int)] else readyTo p s k
theorem readyTo_le (p : Pl) (s : St) : ∀ k, (readyTo p s k).length ≤ k
  | 0 => Nat.le_refl _
  | k + 1 => by
    have := readyTo_le p s k
    simp only [readyTo]
    split
    · simp; omega
    · omega
def ixOf (pick : Int) (len j : Nat) : Nat := ((pick % len + j) % len).toNat
theorem ixOf_lt {pick : Int} {len j : Nat} (h : 0 < len) : ixOf pick len j < len := by
  unfold ixOf
  have h1 : 0 ≤ (pick % len + j) % len := Int.emod_nonneg _ (by omega)
  have h2 : (pick % len + j) % len < len := Int.emod_lt_of_pos _ (by omega)
  omega
theorem ixOf_eq {pick : Int} {len j : Nat} (h : 0 < len) (hp : 0 ≤ pick) : ((Int.tmod (Int.tmod pick len + j) len)) = (ixOf pick len j : Int) := by
  unfold ixOf
  have h1 : 0 ≤ pick % (len : Int) := Int.emod_nonneg _ (by omega)
  have h3 : 0 ≤ (pick % len + j) % len := Int.emod_nonneg _ (by omega)
  rw [Int.tmod_eq_emod_of_nonneg hp, Int.tmod_eq_emod_of_nonneg (by omega), Int.toNat_of_nonneg h3]

def tryFrom (p : Pl) (s : St) (rs : List Int) (pick : Int) : Nat → St
  | 0 => s
  | m + 1 =>
    if (doAt p s (rs.getD (ixOf pick rs.length (rs.length - (m + 1))) 0) (window p s (rs.getD (ixOf pick rs.length (rs.length - (m + 1))) 0)).1).2
    then (doAt p s (rs.getD (ixOf pick rs.length (rs.length - (m + 1))) 0) (window p s (rs.getD (ixOf pick rs.length (rs.length - (m + 1))) 0)).1).1
    else tryFrom p s rs pick m
theorem tryFrom_ok {p : Pl} {s : St} {rs : List Int} {pick : Int} (h : stateOk p s = true) : ∀ m, stateOk p (tryFrom p s rs pick m) = true
  | 0 => h
  | m + 1 => by
    simp only [tryFrom]
    split
    · rename_i hd
      exact doAt_ok (Prod.ext rfl hd)
    · exact tryFrom_ok h m
def stepR (p : Pl) (s : St) (pick : Int) : St := tryFrom p s (readyTo p s (nn p)) pick (readyTo p s (nn p)).length
def pickOf (picks : List Int) (k : Nat) : Int := max 0 (picks.getD k 0)
def runTo (p : Pl) (picks : List Int) : Nat → St
  | 0 => (stateNew p).1
  | k + 1 => stepR p (runTo p picks k) (pickOf picks k)
def runOf (p : Pl) (picks : List Int) : St × Bool := if fits p then (runTo p picks (nn p), true) else (⟨0, []⟩, false)
theorem runTo_ok {p : Pl} (h : fits p = true) (picks : List Int) : ∀ k, stateOk p (runTo p picks k) = true
  | 0 => stateNew_ok h
  | k + 1 => tryFrom_ok (runTo_ok h picks k) _
end Pp

namespace Pp

/-- A walk along bounds, and its sum. -/
inductive Walk (bs : List Bd) : Nat → Nat → Int → Prop
  | nil (i : Nat) : Walk bs i i 0
  | snoc {i u j : Nat} {W : Int} {b : Bd} : Walk bs i u W → b ∈ bs → b.f = (u : Int) → b.t = (j : Int) → Walk bs i j (W + b.m)

theorem Walk.append {bs : List Bd} {i u : Nat} {W : Int} (h : Walk bs i u W) : ∀ {j : Nat} {V : Int}, Walk bs u j V → Walk bs i j (W + V) := by
  intro j V h2
  induction h2 with
  | nil => rw [Int.add_zero]; exact h
  | snoc _ hb hf ht ih => rw [← Int.add_assoc]; exact Walk.snoc ih hb hf ht
theorem walk_tab0 {bs : List Bd} {i j : Nat} (h : tab0 bs i j < Far) : Walk bs i j (tab0 bs i j) := by
  rcases tab0_or bs i j with e | ⟨e1, e⟩ | ⟨b, hb, hbf, hbt, e⟩
  · omega
  · subst e1; rw [e]; exact Walk.nil i
  · rw [e]
    have := Walk.snoc (Walk.nil (bs := bs) i) hb hbf hbt
    rwa [Int.zero_add] at this
theorem walk_clo {bs : List Bd} : ∀ (k i j : Nat), clo (tab0 bs) k i j < Far → Walk bs i j (clo (tab0 bs) k i j)
  | 0, i, j, h => walk_tab0 h
  | k + 1, i, j, h => by
    rcases relax_or k (clo (tab0 bs) k) i j with e | ⟨h1, h2, e⟩
    · have e' : clo (tab0 bs) (k + 1) i j = clo (tab0 bs) k i j := e
      rw [e'] at h ⊢
      exact walk_clo k i j h
    · have e' : clo (tab0 bs) (k + 1) i j = clo (tab0 bs) k i k + clo (tab0 bs) k k j := e
      rw [e']
      exact (walk_clo k i k h1).append (walk_clo k k j h2)

/-- What a state adds to the bounds. -/
def goTo (s : St) : Nat → List Bd
  | 0 => []
  | k + 1 => goTo s k ++ (if s.done.getD k 0 = -1 then [⟨(k : Int), 0, -s.now⟩] else [⟨0, (k : Int), s.done.getD k 0⟩, ⟨(k : Int), 0, -(s.done.getD k 0)⟩])
theorem goTo_mem {s : St} {b : Bd} : ∀ {k : Nat}, b ∈ goTo s k ↔ ∃ i, i < k ∧ ((s.done.getD i 0 = -1 ∧ b = ⟨(i : Int), 0, -s.now⟩) ∨ (s.done.getD i 0 ≠ -1 ∧ (b = ⟨0, (i : Int), s.done.getD i 0⟩ ∨ b = ⟨(i : Int), 0, -(s.done.getD i 0)⟩)))
  | 0 => by simp [goTo]
  | k + 1 => by
    simp only [goTo, List.mem_append, goTo_mem (k := k)]
    constructor
    · rintro (⟨i, hi, h⟩ | h)
      · exact ⟨i, by omega, h⟩
      · refine ⟨k, by omega, ?_⟩
        split at h
        · rename_i e; simp only [List.mem_singleton] at h; exact .inl ⟨e, h⟩
        · rename_i e; simp only [List.mem_cons, List.not_mem_nil, or_false] at h; exact .inr ⟨e, h⟩
    · rintro ⟨i, hi, h⟩
      by_cases e : i = k
      · subst e
        right
        rcases h with ⟨e1, h⟩ | ⟨e1, h⟩
        · rw [if_pos e1]; simp [h]
        · rw [if_neg e1]; simpa using h
      · exact .inl ⟨i, by omega, h⟩

def xOf (s : St) (i : Nat) : Int := if s.done.getD i 0 = -1 then s.now else s.done.getD i 0
/-- Times that go on from a state. -/
structure Goes (p : Pl) (s : St) (y : Nat → Int) : Prop where
  sol : Sol p.bs y
  left : ∀ i, i < nn p → s.done.getD i 0 = -1 → s.now ≤ y i
  done : ∀ i, i < nn p → s.done.getD i 0 ≠ -1 → y i = s.done.getD i 0

def goBs (p : Pl) (s : St) : List Bd := p.bs ++ goTo s (nn p)
def goesOn (p : Pl) (s : St) : Bool := stateOk p s && diagOk (nn p) (clo (tab0 (goBs p s)) (nn p))

section
variable {p : Pl} {s : St}
theorem SOk.x (h : SOk p s) {i : Nat} (hi : i < nn p) : 0 ≤ xOf s i ∧ xOf s i ≤ s.now := by
  have := h.at hi
  have := h.now
  unfold xOf
  split <;> omega
theorem goBs_within (h : SOk p s) : Within (nn p) 2000 (goBs p s) := by
  have hn := nn_ok (planOk_of_fits h.fit)
  intro b hb
  rcases List.mem_append.1 hb with hb | hb
  · obtain ⟨h1, h2, h3⟩ := within_of_ok (planOk_of_fits h.fit) b hb
    exact ⟨h1, h2, by omega⟩
  · obtain ⟨i, hi, h2⟩ := goTo_mem.1 hb
    have ha := h.at hi
    have hnw := h.now
    rcases h2 with ⟨e, rfl⟩ | ⟨e, rfl | rfl⟩ <;> dsimp only <;> (refine ⟨?_, ?_, ?_⟩ <;> omega)
theorem goBs_sol (h : SOk p s) (y : Nat → Int) (h0 : y 0 = 0) : Sol (goBs p s) y ↔ Goes p s y := by
  unfold goBs
  rw [sol_append]
  constructor
  · rintro ⟨h1, h2⟩
    refine ⟨h1, fun i hi e => ?_, fun i hi e => ?_⟩
    · have := h2 _ (goTo_mem.2 ⟨i, hi, .inl ⟨e, rfl⟩⟩)
      simp only [Int.toNat_natCast, Int.toNat_zero] at this
      omega
    · have a := h2 _ (goTo_mem.2 ⟨i, hi, .inr ⟨e, .inl rfl⟩⟩)
      have b := h2 _ (goTo_mem.2 ⟨i, hi, .inr ⟨e, .inr rfl⟩⟩)
      simp only [Int.toNat_natCast, Int.toNat_zero] at a b
      omega
  · intro hg
    refine ⟨hg.sol, fun b hb => ?_⟩
    obtain ⟨i, hi, h2⟩ := goTo_mem.1 hb
    rcases h2 with ⟨e, rfl⟩ | ⟨e, rfl | rfl⟩ <;> simp only [Int.toNat_natCast, Int.toNat_zero]
    · have := hg.left i hi e; omega
    · have := hg.done i hi e; omega
    · have := hg.done i hi e; omega

theorem goBs_mild (h : SOk p s) : MildTo (nn p) (tab0 (goBs p s)) ∧ ∀ k, k ≤ nn p → Low (nn p) (clo (tab0 (goBs p s)) k) := by
  have hn := nn_ok (planOk_of_fits h.fit)
  have hW := goBs_within h
  have habs : ∀ i j, (tab0 (goBs p s) i j < Far → tab0 (goBs p s) i j ≤ 2000) ∧ -2000 ≤ tab0 (goBs p s) i j := fun i j => by
    have := tab0_abs (by omega : (0 : Int) ≤ 2000) hW i j
    unfold Far at *
    exact ⟨this.1, by omega⟩
  -- into the first point
  have f1 : ∀ i, i < nn p → tab0 (goBs p s) i 0 ≤ -xOf s i := by
    intro i hi
    unfold xOf
    by_cases e : s.done.getD i 0 = -1
    · rw [if_pos e]
      exact tab0_bound (b := ⟨(i : Int), 0, -s.now⟩) (List.mem_append.2 (.inr (goTo_mem.2 ⟨i, hi, .inl ⟨e, rfl⟩⟩))) rfl rfl
    · rw [if_neg e]
      exact tab0_bound (b := ⟨(i : Int), 0, -(s.done.getD i 0)⟩) (List.mem_append.2 (.inr (goTo_mem.2 ⟨i, hi, .inr ⟨e, .inr rfl⟩⟩))) rfl rfl
  have f2 : ∀ j, j < nn p → s.done.getD j 0 ≠ -1 → tab0 (goBs p s) 0 j ≤ xOf s j := by
    intro j hj e
    unfold xOf
    rw [if_neg e]
    exact tab0_bound (b := ⟨0, (j : Int), s.done.getD j 0⟩) (List.mem_append.2 (.inr (goTo_mem.2 ⟨j, hj, .inr ⟨e, .inl rfl⟩⟩))) rfl rfl
  have f4 : ∀ i j, j < nn p → s.done.getD j 0 = -1 → tab0 (goBs p s) i j < Far → tab0 (goBs p s) i j ≤ 99 := by
    intro i j hj e hf
    rcases tab0_or (goBs p s) i j with e2 | ⟨_, e2⟩ | ⟨b, hb, hbf, hbt, e2⟩
    · omega
    · omega
    · rw [e2]
      rcases List.mem_append.1 hb with hb | hb
      · have := (within_of_ok (planOk_of_fits h.fit) b hb).2.2; omega
      · obtain ⟨u, hu, h2⟩ := goTo_mem.1 hb
        have hj0 : j ≠ 0 := fun e0 => by rw [e0, h.zero] at e; omega
        rcases h2 with ⟨_, rfl⟩ | ⟨eu, rfl | rfl⟩ <;> dsimp only at hbt
        · omega
        · have : u = j := by omega
          subst this; exact absurd e eu
        · omega
  have key : ∀ k, k + 1 ≤ nn p → ∀ i j, i < nn p → j < nn p → clo (tab0 (goBs p s)) (k + 1) i j < Far → clo (tab0 (goBs p s)) (k + 1) i j ≤ xOf s j - xOf s i + 99 * 2 ^ k := by
    intro k
    induction k with
    | zero =>
      intro _ i j hi hj hf
      have hxi := h.x hi
      have hxj := h.x hj
      have g1 := f1 i hi
      by_cases e : s.done.getD j 0 = -1
      · have ex : xOf s j = s.now := by unfold xOf; rw [if_pos e]
        rcases relax_or 0 (tab0 (goBs p s)) i j with e1 | ⟨h1, h2, e1⟩
        · have e' : clo (tab0 (goBs p s)) 1 i j = tab0 (goBs p s) i j := e1
          rw [e'] at hf ⊢
          have := f4 i j hj e hf
          omega
        · have e' : clo (tab0 (goBs p s)) 1 i j = tab0 (goBs p s) i 0 + tab0 (goBs p s) 0 j := e1
          rw [e']
          have := f4 0 j hj e h2
          omega
      · have g2 := f2 j hj e
        have hF : Far = 100000 := rfl
        have hnw := h.now
        have h1 : tab0 (goBs p s) i 0 < Far := by omega
        have h2 : tab0 (goBs p s) 0 j < Far := by omega
        have := relax_via (T := tab0 (goBs p s)) h1 h2
        have e' : clo (tab0 (goBs p s)) 1 i j = relax 0 (tab0 (goBs p s)) i j := rfl
        rw [e'] 
        omega
    | succ k ih =>
      intro hk i j hi hj hf
      have hkn : k + 1 < nn p := by omega
      have hp : (2 : Int) ^ (k + 1) = 2 * 2 ^ k := by rw [Int.pow_succ]; omega
      have hp1 : (1 : Int) ≤ 2 ^ k := by
        have : (0 : Int) < 2 ^ k := Int.pow_pos (by omega)
        omega
      rcases relax_or (k + 1) (clo (tab0 (goBs p s)) (k + 1)) i j with e1 | ⟨h1, h2, e1⟩
      · have e' : clo (tab0 (goBs p s)) (k + 1 + 1) i j = clo (tab0 (goBs p s)) (k + 1) i j := e1
        rw [e'] at hf ⊢
        have := ih (by omega) i j hi hj hf
        omega
      · have e' : clo (tab0 (goBs p s)) (k + 1 + 1) i j = clo (tab0 (goBs p s)) (k + 1) i (k + 1) + clo (tab0 (goBs p s)) (k + 1) (k + 1) j := e1
        rw [e']
        have a := ih (by omega) i (k + 1) hi hkn h1
        have b := ih (by omega) (k + 1) j hkn hj h2
        omega
  constructor
  · intro k hk i j hi hj hf
    have hF : Far = 100000 := rfl
    cases k with
    | zero => have := (habs i j).1 hf; have e : clo (tab0 (goBs p s)) 0 i j = tab0 (goBs p s) i j := rfl; rw [e]; omega
    | succ k =>
      have := key k hk i j hi hj hf
      have hxi := h.x hi
      have hxj := h.x hj
      have hnw := h.now
      have hk5 : k ≤ 5 := by omega
      have h2 : (2 : Int) ^ k ≤ 32 := by
        have : (2 : Int) ^ k ≤ 2 ^ 5 := by exact_mod_cast Nat.pow_le_pow_right (by omega) hk5
        simpa using this
      omega
  · intro k hk i j hi hj
    have := (clo_abs (by omega : (0 : Int) ≤ 2000) (fun i j _ _ => habs i j) k hk i j hi hj).2
    have h2 : (2 : Int) ^ k ≤ 64 := by
      have : (2 : Int) ^ k ≤ 2 ^ 6 := by exact_mod_cast Nat.pow_le_pow_right (by omega) (by omega : k ≤ 6)
      simpa using this
    omega

theorem goes_iff (h : SOk p s) : diagOk (nn p) (clo (tab0 (goBs p s)) (nn p)) = true ↔ ∃ y, Goes p s y := by
  have hn := nn_ok (planOk_of_fits h.fit)
  obtain ⟨hM, hL⟩ := goBs_mild h
  have hW := goBs_within h
  have hF : (2000 : Int) < Far := by unfold Far; omega
  rw [diagOk_iff]
  constructor
  · intro hd
    obtain ⟨y, hy⟩ := sol_some (hM _ (Nat.le_refl _)) (clo_closed hM hd) hd
    have hy2 := (tsol_tab0 hF hW y).1 ((tsol_clo y).1 hy)
    refine ⟨fun i => y i - y 0, (goBs_sol h _ (by omega)).1 fun b hb => ?_⟩
    have := hy2 b hb
    omega
  · rintro ⟨y, hg⟩ i hi
    have h0 : y 0 = 0 := by rw [hg.done 0 (by omega) (by rw [h.zero]; omega), h.zero]
    have hs := (tsol_clo y).2 ((tsol_tab0 hF hW y).2 ((goBs_sol h y h0).2 hg))
    have hF : Far = 100000 := rfl
    by_cases hlt : clo (tab0 (goBs p s)) (nn p) i i < Far
    · have := hs i i hi hi hlt; omega
    · omega
theorem goesOn_iff : goesOn p s = true ↔ SOk p s ∧ ∃ y, Goes p s y := by
  unfold goesOn
  rw [Bool.and_eq_true, stateOk_iff]
  exact ⟨fun ⟨a, b⟩ => ⟨a, (goes_iff a).1 b⟩, fun ⟨a, b⟩ => ⟨a, (goes_iff a).2 b⟩⟩
end
end Pp

namespace Pp

/-! ### windows -/

theorem win_facts (T : Tb) (xs : List Int) (now : Int) (pt : Nat) : ∀ k,
    (now ≤ (winTo T xs now pt k).1) ∧ (∀ i, i < k → xs.getD i 0 ≠ -1 → T pt i < Far → xs.getD i 0 - T pt i ≤ (winTo T xs now pt k).1) ∧
    ((winTo T xs now pt k).1 = now ∨ ∃ i, i < k ∧ xs.getD i 0 ≠ -1 ∧ T pt i < Far ∧ (winTo T xs now pt k).1 = xs.getD i 0 - T pt i) ∧
    ((winTo T xs now pt k).2 ≤ Far) ∧ (∀ i, i < k → xs.getD i 0 ≠ -1 → T i pt < Far → (winTo T xs now pt k).2 ≤ xs.getD i 0 + T i pt) ∧
    (∀ v, v ≤ Far → (∀ i, i < k → xs.getD i 0 ≠ -1 → T i pt < Far → v ≤ xs.getD i 0 + T i pt) → v ≤ (winTo T xs now pt k).2)
  | 0 => ⟨Int.le_refl _, by intro i hi; omega, .inl rfl, Int.le_refl _, by intro i hi; omega, fun v hv _ => hv⟩
  | k + 1 => by
    obtain ⟨a1, a2, a3, a4, a5, a6⟩ := win_facts T xs now pt k
    simp only [winTo, winAt]
    by_cases e : xs.getD k 0 = -1
    · rw [if_pos e]
      refine ⟨a1, fun i hi hx => ?_, ?_, a4, fun i hi hx => ?_, fun v hv h => a6 v hv fun i hi => h i (by omega)⟩
      · by_cases ek : i = k
        · subst ek; exact absurd e hx
        · exact a2 i (by omega) hx
      · rcases a3 with h | ⟨i, hi, h⟩
        · exact .inl h
        · exact .inr ⟨i, by omega, h⟩
      · by_cases ek : i = k
        · subst ek; exact absurd e hx
        · exact a5 i (by omega) hx
    · rw [if_neg e]
      dsimp only
      refine ⟨?_, fun i hi hx hf => ?_, ?_, ?_, fun i hi hx hf => ?_, fun v hv h => ?_⟩
      · split <;> omega
      · by_cases ek : i = k
        · subst ek; rw [if_pos hf]; omega
        · have := a2 i (by omega) hx hf; split <;> omega
      · by_cases hf : T pt k < Far
        · rw [if_pos hf]
          by_cases hm : (winTo T xs now pt k).1 ≤ xs.getD k 0 - T pt k
          · exact .inr ⟨k, by omega, e, hf, by omega⟩
          · rcases a3 with h | ⟨i, hi, h1, h2, h3⟩
            · exact .inl (by omega)
            · exact .inr ⟨i, by omega, h1, h2, by omega⟩
        · rw [if_neg hf]
          rcases a3 with h | ⟨i, hi, h1, h2, h3⟩
          · exact .inl (by omega)
          · exact .inr ⟨i, by omega, h1, h2, by omega⟩
      · split <;> omega
      · by_cases ek : i = k
        · subst ek; rw [if_pos hf]; omega
        · have := a5 i (by omega) hx hf; split <;> omega
      · have h1 := a6 v hv fun i hi => h i (by omega)
        by_cases hf : T k pt < Far
        · rw [if_pos hf]; have := h k (by omega) e hf; omega
        · rw [if_neg hf]; exact h1
theorem dead_facts (T : Tb) (xs : List Int) (now : Int) (n : Nat) : ∀ k,
    (∀ j, j < k → xs.getD j 0 = -1 → deadTo T xs now n k ≤ (winTo T xs now j n).2) ∧
    (∀ v, v ≤ Far → (∀ j, j < k → xs.getD j 0 = -1 → v ≤ (winTo T xs now j n).2) → v ≤ deadTo T xs now n k)
  | 0 => ⟨by intro j hj; omega, fun v hv _ => hv⟩
  | k + 1 => by
    obtain ⟨a, b⟩ := dead_facts T xs now n k
    simp only [deadTo]
    refine ⟨fun j hj e => ?_, fun v hv h => ?_⟩
    · by_cases ek : j = k
      · subst ek; rw [if_pos e]; omega
      · have := a j (by omega) e; split <;> omega
    · have h1 := b v hv fun j hj => h j (by omega)
      by_cases e : xs.getD k 0 = -1
      · rw [if_pos e]; have := h k (by omega) e; omega
      · rw [if_neg e]; exact h1

section
variable {p : Pl} {s : St}

theorem Goes.le (hs : SOk p s) {y : Nat → Int} (hg : Goes p s y) {i j : Nat} (hi : i < nn p) (hj : j < nn p) (hf : clT p i j < Far) : y j - y i ≤ clT p i j := (fit_of hs.fit).le hi hj hg.sol hf

/-- The point that is ready is not late: from it a walk to what is done leaves what is not done. -/
theorem ready_walk (hs : SOk p s) {y : Nat → Int} (hg : Goes p s y) {pt : Nat} (hpt : pt < nn p) (ho : s.done.getD pt 0 = -1) (hr : ∀ i, i < nn p → s.done.getD i 0 = -1 → 0 ≤ clT p pt i) :
    ∀ {j : Nat} {W : Int}, Walk p.bs pt j W → (j < nn p ∧ ∀ z, Sol p.bs z → z j - z pt ≤ W) ∧ (s.done.getD j 0 ≠ -1 → s.done.getD j 0 - W ≤ s.now + 99) := by
  have F := fit_of hs.fit
  intro j W h
  induction h with
  | nil => exact ⟨⟨hpt, fun z _ => by omega⟩, fun h => absurd ho h⟩
  | @snoc u j V b h1 hb hf ht ih =>
    obtain ⟨⟨hu, h3⟩, h4⟩ := ih
    obtain ⟨_, b2, b3⟩ := within_of_ok F.ok _ hb
    have hj : j < nn p := by omega
    refine ⟨⟨hj, fun z hz => ?_⟩, fun hd => ?_⟩
    · have a := h3 z hz
      have c := hz _ hb
      rw [hf, ht] at c
      simp only [Int.toNat_natCast] at c
      omega
    · by_cases eu : s.done.getD u 0 = -1
      · -- the walk so far is at least the table's number, which is not less than 0
        have hV : 0 ≤ V := by
          have h0 := hr u hu eu
          by_cases hV : V < Far
          · have := (F.tight hpt hu V h3).2
            omega
          · unfold Far at hV; omega
        have := hs.at hj
        omega
      · have a := h4 eu
        have c := hg.sol _ hb
        rw [hf, ht] at c
        simp only [Int.toNat_natCast] at c
        rw [hg.done u hu eu, hg.done j hj hd] at c
        omega

theorem ready_low (hs : SOk p s) {y : Nat → Int} (hg : Goes p s y) {pt : Nat} (hpt : pt < nn p) (ho : s.done.getD pt 0 = -1) (hr : ∀ i, i < nn p → s.done.getD i 0 = -1 → 0 ≤ clT p pt i) :
    (winTo (clT p) s.done s.now pt (nn p)).1 ≤ s.now + 99 := by
  obtain ⟨_, _, h3, _⟩ := win_facts (clT p) s.done s.now pt (nn p)
  rcases h3 with e | ⟨i, hi, h1, h2, e⟩
  · omega
  · rw [e]
    exact (ready_walk hs hg hpt ho hr (walk_clo (nn p) pt i h2)).2 h1

/-- A number that is the least of some. -/
theorem least_of {n : Nat} (f : Nat → Int) (q : Nat → Prop) [DecidablePred q] (h : ∃ i, i < n ∧ q i) : ∃ i, i < n ∧ q i ∧ ∀ j, j < n → q j → f i ≤ f j := by
  induction n with
  | zero => obtain ⟨i, hi, _⟩ := h; omega
  | succ n ih =>
    by_cases h1 : ∃ i, i < n ∧ q i
    · obtain ⟨i, hi, hq, hl⟩ := ih h1
      by_cases h2 : q n ∧ f n < f i
      · exact ⟨n, by omega, h2.1, fun j hj hqj => by
          by_cases e : j = n
          · subst e; omega
          · have := hl j (by omega) hqj; omega⟩
      · exact ⟨i, by omega, hq, fun j hj hqj => by
          by_cases e : j = n
          · subst e
            have : ¬ f j < f i := fun hc => h2 ⟨hqj, hc⟩
            omega
          · exact hl j (by omega) hqj⟩
    · obtain ⟨i, hi, hq⟩ := h
      have e : i = n := by
        by_cases e : i = n
        · exact e
        · exact absurd ⟨i, by omega, hq⟩ h1
      subst e
      exact ⟨i, by omega, hq, fun j hj hqj => by
        by_cases e : j = i
        · subst e; omega
        · exact absurd ⟨j, by omega, hqj⟩ h1⟩

/-- Some point may be done now or later. -/
theorem may_some (hs : SOk p s) {y : Nat → Int} (hg : Goes p s y) (hl : ∃ i, i < nn p ∧ s.done.getD i 0 = -1) (hnow : s.now + 99 ≤ 2000) :
    ∃ pt, pt < nn p ∧ s.done.getD pt 0 = -1 ∧ isReady p s (pt : Int) = true ∧ mayDo p s (pt : Int) (window p s (pt : Int)).1 = true := by
  obtain ⟨pt, hpt, ho, hmin⟩ := least_of y (fun i => s.done.getD i 0 = -1) hl
  have hlen := hs.len
  have hso := stateOk_iff.2 hs
  have hopen : openB s.done (pt : Int) = true := openB_iff.2 ⟨⟨by omega, by omega⟩, by rw [Int.toNat_natCast]; exact ho⟩
  have hr : ∀ i, i < nn p → s.done.getD i 0 = -1 → 0 ≤ clT p pt i := by
    intro i hi e
    by_cases hf : clT p pt i < Far
    · have := hg.le hs hpt hi hf
      have := hmin i hi e
      omega
    · unfold Far at hf; omega
  have hrdy : isReady p s (pt : Int) = true := by
    unfold isReady
    rw [hso, hopen, Int.toNat_natCast, rdyTo_iff.2 hr]; rfl
  have hlow := ready_low hs hg hpt ho hr
  obtain ⟨a1, a2, a3, a4, a5, a6⟩ := win_facts (clT p) s.done s.now pt (nn p)
  have hly : (winTo (clT p) s.done s.now pt (nn p)).1 ≤ y pt := by
    rcases a3 with e | ⟨i, hi, h1, h2, e⟩
    · rw [e]; exact hg.left pt hpt ho
    · have := hg.le hs hpt hi h2
      rw [hg.done i hi h1] at this
      omega
  have hFar : Far = 100000 := rfl
  have hhigh : ∀ j, j < nn p → s.done.getD j 0 = -1 → (winTo (clT p) s.done s.now pt (nn p)).1 ≤ (winTo (clT p) s.done s.now j (nn p)).2 := by
    intro j hj e
    obtain ⟨_, _, _, _, _, b6⟩ := win_facts (clT p) s.done s.now j (nn p)
    refine b6 _ (by omega) fun i hi hx hf => ?_
    have := hg.le hs hi hj hf
    rw [hg.done i hi hx] at this
    have := hmin j hj e
    omega
  refine ⟨pt, hpt, ho, hrdy, ?_⟩
  unfold mayDo
  rw [hrdy, window_yes hso hopen, Int.toNat_natCast]
  dsimp only
  have hd : (winTo (clT p) s.done s.now pt (nn p)).1 ≤ deadline p s := by
    unfold deadline
    rw [if_pos hso]
    exact (dead_facts (clT p) s.done s.now (nn p) (nn p)).2 _ (by omega) hhigh
  rw [inB_iff.2 ⟨Int.le_refl _, hhigh pt hpt ho⟩, decide_eq_true hd, decide_eq_true (by omega : (winTo (clT p) s.done s.now pt (nn p)).1 ≤ 2000)]; rfl

theorem list_max : ∀ (L : List Int), L ≠ [] → ∃ v ∈ L, ∀ a ∈ L, a ≤ v
  | [], h => absurd rfl h
  | [a], _ => ⟨a, by simp, by simp⟩
  | a :: b :: l, _ => by
    obtain ⟨v, hv, h⟩ := list_max (b :: l) (by simp)
    by_cases e : a ≤ v
    · exact ⟨v, List.mem_cons_of_mem _ hv, fun x hx => by
        rcases List.mem_cons.1 hx with rfl | hx
        · exact e
        · exact h x hx⟩
    · exact ⟨a, by simp, fun x hx => by
        rcases List.mem_cons.1 hx with rfl | hx
        · omega
        · have := h x hx; omega⟩

/-- What a point may be done at keeps the plan going. -/
theorem doAt_goes (hs : SOk p s) {y : Nat → Int} (hg : Goes p s y) {pt : Nat} {t : Int} (hm : mayDo p s (pt : Int) t = true) : ∃ z, Goes p ⟨t, s.done.set pt t⟩ z := by
  have F := fit_of hs.fit
  have hso := stateOk_iff.2 hs
  have hlen := hs.len
  have hFar : Far = 100000 := rfl
  unfold mayDo at hm
  simp only [Bool.and_eq_true, decide_eq_true_eq, inB_iff] at hm
  obtain ⟨⟨⟨hrd, hw1, hw2⟩, hdl⟩, h2000⟩ := hm
  unfold isReady at hrd
  simp only [Bool.and_eq_true] at hrd
  obtain ⟨⟨_, hopen⟩, hrdy⟩ := hrd
  rw [window_yes hso hopen] at hw1 hw2
  dsimp only at hw1 hw2
  obtain ⟨⟨_, hptl⟩, ho⟩ := openB_iff.1 hopen
  rw [Int.toNat_natCast] at hw1 hw2 hrdy ho
  have hpt : pt < nn p := by omega
  have hr := rdyTo_iff.1 hrdy
  obtain ⟨a1, a2, _, _, a5, _⟩ := win_facts (clT p) s.done s.now pt (nn p)
  unfold deadline at hdl
  rw [if_pos hso] at hdl
  have hd := (dead_facts (clT p) s.done s.now (nn p) (nn p)).1
  have hnow := hs.now
  -- who has a time, and which
  obtain ⟨Y, hY⟩ : ∃ Y : Nat → Int, Y = fun k => if k = pt then t else s.done.getD k 0 := ⟨_, rfl⟩
  have hYp : Y pt = t := by rw [hY]; exact if_pos rfl
  have hYd : ∀ k, k ≠ pt → Y k = s.done.getD k 0 := fun k h => by rw [hY]; exact if_neg h
  have hne : ∀ k, s.done.getD k 0 ≠ -1 → k ≠ pt := fun k h e => by subst e; exact h ho
  -- the numbers from which a left point takes the greatest
  have hcand : ∀ j, ∃ v, (j < nn p → t ≤ v ∧ (∀ k, k < nn p → (k = pt ∨ s.done.getD k 0 ≠ -1) → clT p j k < Far → Y k - clT p j k ≤ v) ∧ (∀ k, k < nn p → s.done.getD k 0 = -1 → clT p j k < Far → t - clT p j k ≤ v) ∧
      ((∃ k, k < nn p ∧ (k = pt ∨ s.done.getD k 0 ≠ -1) ∧ clT p j k < Far ∧ v = Y k - clT p j k) ∨ (∃ k, k < nn p ∧ s.done.getD k 0 = -1 ∧ clT p j k < Far ∧ v = t - clT p j k) ∨ v = t)) := by
    intro j
    obtain ⟨v, hv, hmax⟩ := list_max (t :: (List.range (nn p)).map fun k => if clT p j k < Far then (if k = pt ∨ s.done.getD k 0 ≠ -1 then Y k - clT p j k else t - clT p j k) else t) (by simp)
    refine ⟨v, fun hj => ⟨hmax t (by simp), fun k hk hA hf => ?_, fun k hk e hf => ?_, ?_⟩⟩
    · exact hmax _ (List.mem_cons_of_mem _ (List.mem_map.2 ⟨k, List.mem_range.2 hk, by rw [if_pos hf, if_pos hA]⟩))
    · by_cases ep : k = pt
      · subst ep
        have := hmax _ (List.mem_cons_of_mem _ (List.mem_map.2 ⟨k, List.mem_range.2 hk, by rw [if_pos hf, if_pos (Or.inl rfl)]⟩))
        rw [hYp] at this; exact this
      · exact hmax _ (List.mem_cons_of_mem _ (List.mem_map.2 ⟨k, List.mem_range.2 hk, by rw [if_pos hf, if_neg (by rintro (h | h); exact ep h; exact h e)]⟩))
    · rcases List.mem_cons.1 hv with h | h
      · exact .inr (.inr h)
      · obtain ⟨k, hk, e⟩ := List.mem_map.1 h
        have hk := List.mem_range.1 hk
        by_cases hf : clT p j k < Far
        · rw [if_pos hf] at e
          by_cases hA : k = pt ∨ s.done.getD k 0 ≠ -1
          · rw [if_pos hA] at e; exact .inl ⟨k, hk, hA, hf, e.symm⟩
          · rw [if_neg hA] at e
            have : s.done.getD k 0 = -1 := by
              by_cases e2 : s.done.getD k 0 = -1
              · exact e2
              · exact absurd (Or.inr e2) hA
            exact .inr (.inl ⟨k, hk, this, hf, e.symm⟩)
        · rw [if_neg hf] at e; exact .inr (.inr e.symm)
  obtain ⟨M, hM⟩ := Classical.axiomOfChoice hcand
  -- what has a time is told right
  have hAA : ∀ i k, i < nn p → k < nn p → (i = pt ∨ s.done.getD i 0 ≠ -1) → (k = pt ∨ s.done.getD k 0 ≠ -1) → clT p i k < Far → Y k - Y i ≤ clT p i k := by
    intro i k hi hk hAi hAk hf
    by_cases ei : i = pt <;> by_cases ek : k = pt
    · subst ei; subst ek; rw [F.diag k hk] at *; omega
    · subst ei
      have hk1 : s.done.getD k 0 ≠ -1 := by rcases hAk with h | h; exact absurd h ek; exact h
      rw [hYp, hYd k ek]
      have := a2 k hk hk1 hf
      omega
    · subst ek
      have hi1 : s.done.getD i 0 ≠ -1 := by rcases hAi with h | h; exact absurd h ei; exact h
      rw [hYp, hYd i ei]
      have := a5 i hi hi1 hf
      omega
    · have hk1 : s.done.getD k 0 ≠ -1 := by rcases hAk with h | h; exact absurd h ek; exact h
      have hi1 : s.done.getD i 0 ≠ -1 := by rcases hAi with h | h; exact absurd h ei; exact h
      rw [hYd k ek, hYd i ei]
      have := hg.le hs hi hk hf
      rw [hg.done k hk hk1, hg.done i hi hi1] at this
      exact this
  -- what has a time is not so early that a left one could not be at the time told
  have hAU : ∀ i k, i < nn p → k < nn p → (i = pt ∨ s.done.getD i 0 ≠ -1) → s.done.getD k 0 = -1 → clT p i k < Far → t ≤ Y i + clT p i k := by
    intro i k hi hk hAi ek hf
    by_cases ei : i = pt
    · subst ei; rw [hYp]; have := hr k hk ek; omega
    · have hi1 : s.done.getD i 0 ≠ -1 := by rcases hAi with h | h; exact absurd h ei; exact h
      rw [hYd i ei]
      have h1 := hd k hk ek
      obtain ⟨_, _, _, _, b5, _⟩ := win_facts (clT p) s.done s.now k (nn p)
      have := b5 i hi hi1 hf
      omega
  obtain ⟨Z, hZ⟩ : ∃ Z : Nat → Int, Z = fun j => if j = pt ∨ s.done.getD j 0 ≠ -1 then Y j else M j := ⟨_, rfl⟩
  have hZA : ∀ j, (j = pt ∨ s.done.getD j 0 ≠ -1) → Z j = Y j := fun j h => by rw [hZ]; exact if_pos h
  have hZU : ∀ j, ¬ (j = pt ∨ s.done.getD j 0 ≠ -1) → Z j = M j := fun j h => by rw [hZ]; exact if_neg h
  have hU : ∀ j, ¬ (j = pt ∨ s.done.getD j 0 ≠ -1) → s.done.getD j 0 = -1 := fun j h => by
    by_cases e : s.done.getD j 0 = -1
    · exact e
    · exact absurd (Or.inr e) h
  have hT : TSol (nn p) (clT p) Z := by
    intro i j hi hj hf
    have htri := fun k (hk : k < nn p) (h2 : clT p j k < Far) => F.closed j hj i k hi hk hf h2
    have hfin : ∀ k, k < nn p → clT p j k < Far → clT p i k < Far := fun k hk h2 => by
      have h1 := htri k hk h2
      have := clT_small F hi hj hf
      have := clT_small F hj hk h2
      omega
    by_cases hAi : i = pt ∨ s.done.getD i 0 ≠ -1 <;> by_cases hAj : j = pt ∨ s.done.getD j 0 ≠ -1
    · rw [hZA i hAi, hZA j hAj]; exact hAA i j hi hj hAi hAj hf
    · rw [hZA i hAi, hZU j hAj]
      obtain ⟨_, _, _, h4⟩ := hM j hj
      rcases h4 with ⟨k, hk, hAk, h2, e⟩ | ⟨k, hk, ek, h2, e⟩ | e
      · have := hAA i k hi hk hAi hAk (hfin k hk h2); have := htri k hk h2; omega
      · have := hAU i k hi hk hAi ek (hfin k hk h2); have := htri k hk h2; omega
      · have := hAU i j hi hj hAi (hU j hAj) hf; omega
    · rw [hZU i hAi, hZA j hAj]
      obtain ⟨_, h2, _, _⟩ := hM i hi
      have := h2 j hj hAj hf; omega
    · rw [hZU i hAi, hZU j hAj]
      obtain ⟨h1, h2, h3, _⟩ := hM i hi
      obtain ⟨_, _, _, h4⟩ := hM j hj
      rcases h4 with ⟨k, hk, hAk, hf2, e⟩ | ⟨k, hk, ek, hf2, e⟩ | e
      · have := h2 k hk hAk (hfin k hk hf2); have := htri k hk hf2; omega
      · have := h3 k hk ek (hfin k hk hf2); have := htri k hk hf2; omega
      · have := h3 j hj (hU j hAj) hf; omega
  have hget : ∀ j, j ≠ pt → (s.done.set pt t).getD j 0 = s.done.getD j 0 := fun j h => by
    rw [List.getD_eq_getElem?_getD, List.getElem?_set, if_neg (fun e => h e.symm), ← List.getD_eq_getElem?_getD]
  have hgetp : (s.done.set pt t).getD pt 0 = t := by
    rw [List.getD_eq_getElem?_getD, List.getElem?_set, if_pos rfl, if_pos (by omega)]; rfl
  have hlo : s.now ≤ t := by omega
  refine ⟨Z, (F.sol Z).1 hT, fun i hi e => ?_, fun i hi e => ?_⟩
  · dsimp only at e ⊢
    have hip : i ≠ pt := fun h => by subst h; rw [hgetp] at e; omega
    rw [hget i hip] at e
    rw [hZU i (by rintro (h | h); exact hip h; exact h e)]
    exact (hM i hi).1
  · dsimp only at e ⊢
    by_cases hip : i = pt
    · subst hip; rw [hgetp, hZA i (.inl rfl), hYp]
    · rw [hget i hip] at e ⊢
      rw [hZA i (.inr e), hYd i hip]
end
end Pp

namespace Pp

section
variable {p : Pl} {s : St}
theorem readyTo_mem {x : Int} : ∀ {k : Nat}, x ∈ readyTo p s k ↔ ∃ i, i < k ∧ isReady p s (i : Int) = true ∧ x = (i : Int)
  | 0 => by simp [readyTo]
  | k + 1 => by
    simp only [readyTo]
    constructor
    · intro h
      split at h
      · rename_i hr
        rcases List.mem_append.1 h with h | h
        · obtain ⟨i, hi, h⟩ := (readyTo_mem (k := k)).1 h; exact ⟨i, by omega, h⟩
        · rw [List.mem_singleton] at h; exact ⟨k, by omega, hr, h⟩
      · obtain ⟨i, hi, h⟩ := (readyTo_mem (k := k)).1 h; exact ⟨i, by omega, h⟩
    · rintro ⟨i, hi, hr, hx⟩
      by_cases e : i = k
      · subst e; rw [if_pos hr]; exact List.mem_append.2 (.inr (by rw [hx]; simp))
      · have := (readyTo_mem (k := k)).2 ⟨i, by omega, hr, hx⟩
        split
        · exact List.mem_append.2 (.inl this)
        · exact this
theorem ixOf_hit {pick : Int} {len ix : Nat} (h : ix < len) : ∃ j, j < len ∧ ixOf pick len j = ix := by
  have h0 : 0 ≤ ((ix : Int) - pick) % (len : Int) := Int.emod_nonneg _ (by omega)
  have h1 : ((ix : Int) - pick) % (len : Int) < len := Int.emod_lt_of_pos _ (by omega)
  refine ⟨(((ix : Int) - pick) % (len : Int)).toNat, by omega, ?_⟩
  unfold ixOf
  rw [Int.toNat_of_nonneg h0, ← Int.add_emod, show pick + ((ix : Int) - pick) = ix by omega, Int.emod_eq_of_lt (by omega) (by omega)]
  omega
theorem tryFrom_hit {rs : List Int} {pick : Int} : ∀ (mm : Nat), mm ≤ rs.length → (∃ j, rs.length - mm ≤ j ∧ j < rs.length ∧ (doAt p s (rs.getD (ixOf pick rs.length j) 0) (window p s (rs.getD (ixOf pick rs.length j) 0)).1).2 = true) →
    ∃ pt ∈ rs, doAt p s pt (window p s pt).1 = (tryFrom p s rs pick mm, true)
  | 0, _, ⟨j, h1, h2, _⟩ => by omega
  | mm + 1, hm, ⟨j, h1, h2, h3⟩ => by
    simp only [tryFrom]
    split
    · rename_i hd
      refine ⟨_, ?_, Prod.ext rfl hd⟩
      have hix := ixOf_lt (pick := pick) (j := rs.length - (mm + 1)) (show 0 < rs.length by omega)
      rw [List.getD_eq_getElem?_getD, List.getElem?_eq_getElem hix]
      exact List.getElem_mem hix
    · rename_i hd
      have hj : j ≠ rs.length - (mm + 1) := fun e => by subst e; exact hd h3
      exact tryFrom_hit mm (by omega) ⟨j, by omega, h2, h3⟩
theorem doAt_yes {q : St} {pt t : Int} (h : doAt p s pt t = (q, true)) : mayDo p s pt t = true ∧ q = ⟨t, s.done.set pt.toNat t⟩ ∧ 0 ≤ pt ∧ pt.toNat < s.done.length ∧ s.done.getD pt.toNat 0 = -1 := by
  unfold doAt at h
  split at h
  · split at h
    · rename_i hm
      injection h with h1 _
      have hm' := hm
      unfold mayDo at hm'
      simp only [Bool.and_eq_true] at hm'
      obtain ⟨⟨⟨hr, _⟩, _⟩, _⟩ := hm'
      unfold isReady at hr
      simp only [Bool.and_eq_true] at hr
      obtain ⟨⟨a, b⟩, c⟩ := openB_iff.1 hr.1.2
      exact ⟨hm, h1.symm, a, by omega, c⟩
    · injection h with _ h2; cases h2
  · injection h with _ h2; cases h2

theorem count_set {xs : List Int} {k : Nat} {t : Int} (hk : k < xs.length) (h : xs.getD k 0 = -1) (ht : t ≠ -1) : (xs.set k t).count (-1) + 1 = xs.count (-1) := by
  induction xs generalizing k with
  | nil => simp at hk
  | cons a l ih =>
    cases k with
    | zero =>
      simp only [List.getD_cons_zero] at h
      subst h
      rw [List.set_cons_zero, List.count_cons_self, List.count_cons_of_ne ht]
    | succ k =>
      rw [List.set_cons_succ, List.count_cons, List.count_cons]
      have := ih (k := k) (by simpa using hk) (by simpa using h)
      omega
theorem none_left {xs : List Int} (h : xs.count (-1) = 0) (i : Nat) (hi : i < xs.length) : xs.getD i 0 ≠ -1 := by
  intro e
  rw [List.getD_eq_getElem?_getD, List.getElem?_eq_getElem hi] at e
  have : (-1 : Int) ∈ xs := by
    have h2 : xs[i] = -1 := e
    rw [← h2]; exact List.getElem_mem hi
  have := List.count_pos_iff.2 this
  omega

theorem step_goes (hs : SOk p s) {y : Nat → Int} (hg : Goes p s y) (hnow : s.now + 99 ≤ 2000) (pick : Int) (hl : ∃ i, i < nn p ∧ s.done.getD i 0 = -1) :
    ∃ z, Goes p (stepR p s pick) z ∧ (stepR p s pick).now ≤ s.now + 99 ∧ (stepR p s pick).done.count (-1) + 1 = s.done.count (-1) := by
  obtain ⟨pt, hpt, ho, hrdy, hmay⟩ := may_some hs hg hl hnow
  have hso := stateOk_iff.2 hs
  have hmem : (pt : Int) ∈ readyTo p s (nn p) := readyTo_mem.2 ⟨pt, hpt, hrdy, rfl⟩
  obtain ⟨ix, hix, he⟩ := List.getElem_of_mem hmem
  obtain ⟨j, hj, hje⟩ := ixOf_hit (pick := pick) hix
  have hget : (readyTo p s (nn p)).getD ix 0 = (pt : Int) := by rw [List.getD_eq_getElem?_getD, List.getElem?_eq_getElem hix, he]; rfl
  have hd : (doAt p s (pt : Int) (window p s (pt : Int)).1).2 = true := by unfold doAt; rw [if_pos hso, if_pos hmay]
  obtain ⟨pt2, hmem2, hd2⟩ := tryFrom_hit (p := p) (s := s) (rs := readyTo p s (nn p)) (pick := pick) _ (Nat.le_refl _) ⟨j, by omega, hj, by rw [hje, hget]; exact hd⟩
  obtain ⟨k, hk, hr2, rfl⟩ := readyTo_mem.1 hmem2
  obtain ⟨hm2, hq, _, hkl, ho2⟩ := doAt_yes hd2
  rw [Int.toNat_natCast] at hq hkl ho2
  have hst : stepR p s pick = ⟨(window p s (k : Int)).1, s.done.set k (window p s (k : Int)).1⟩ := hq
  have hopen : openB s.done (k : Int) = true := openB_iff.2 ⟨⟨by omega, by omega⟩, by rw [Int.toNat_natCast]; exact ho2⟩
  have hwin : (window p s (k : Int)).1 = (winTo (clT p) s.done s.now k (nn p)).1 := by rw [window_yes hso hopen, Int.toNat_natCast]
  have hrk : ∀ i, i < nn p → s.done.getD i 0 = -1 → 0 ≤ clT p k i := by
    unfold isReady at hr2
    simp only [Bool.and_eq_true, Int.toNat_natCast] at hr2
    exact rdyTo_iff.1 hr2.2
  have hlow := ready_low hs hg hk ho2 hrk
  have hlo := (win_facts (clT p) s.done s.now k (nn p)).1
  obtain ⟨z, hz⟩ := doAt_goes hs hg hm2
  have hn0 := hs.now
  rw [hst]
  refine ⟨z, hz, by dsimp only; rw [hwin]; exact hlow, ?_⟩
  exact count_set hkl ho2 (by rw [hwin]; omega)
theorem step_none (hl : ∀ i, i < nn p → s.done.getD i 0 ≠ -1) (hlen : s.done.length = nn p) (pick : Int) : stepR p s pick = s := by
  have h : readyTo p s (nn p) = [] := by
    rw [List.eq_nil_iff_forall_not_mem]
    intro x hx
    obtain ⟨i, hi, hr, _⟩ := readyTo_mem.1 hx
    unfold isReady at hr
    simp only [Bool.and_eq_true] at hr
    have := (openB_iff.1 hr.1.2).2
    rw [Int.toNat_natCast] at this
    exact hl i hi this
  unfold stepR
  rw [h]
  rfl
end

theorem run_goes {p : Pl} (hf : fits p = true) (hg : goesOn p (stateNew p).1 = true) (picks : List Int) : ∀ k, k ≤ nn p →
    (∃ y, Goes p (runTo p picks k) y) ∧ (runTo p picks k).now ≤ 99 * k ∧ (runTo p picks k).done.count (-1) ≤ nn p - 1 - k
  | 0, _ => by
    obtain ⟨_, hy⟩ := goesOn_iff.1 hg
    refine ⟨hy, ?_, ?_⟩
    · show (stateNew p).1.now ≤ _
      unfold stateNew; rw [if_pos hf]; simp
    · show (stateNew p).1.done.count (-1) ≤ _
      unfold stateNew; rw [if_pos hf]
      simp [List.count_cons, List.count_replicate]
  | k + 1, hk => by
    obtain ⟨⟨y, hy⟩, hn, hc⟩ := run_goes hf hg picks k (by omega)
    have hs := stateOk_iff.1 (runTo_ok hf picks k)
    have h6 := (nn_ok (planOk_of_fits hf)).1
    show (∃ y, Goes p (stepR p (runTo p picks k) (pickOf picks k)) y) ∧ (stepR p (runTo p picks k) (pickOf picks k)).now ≤ _ ∧ (stepR p (runTo p picks k) (pickOf picks k)).done.count (-1) ≤ _
    by_cases hl : ∃ i, i < nn p ∧ (runTo p picks k).done.getD i 0 = -1
    · obtain ⟨z, hz, h1, h2⟩ := step_goes hs hy (by omega) (pickOf picks k) hl
      exact ⟨⟨z, hz⟩, by omega, by omega⟩
    · have hl' : ∀ i, i < nn p → (runTo p picks k).done.getD i 0 ≠ -1 := fun i hi e => hl ⟨i, hi, e⟩
      rw [step_none hl' hs.len]
      refine ⟨⟨y, hy⟩, by omega, ?_⟩
      have : (runTo p picks k).done.count (-1) = 0 := by
        rw [List.count_eq_zero]
        intro hm
        obtain ⟨i, hi, e⟩ := List.getElem_of_mem hm
        apply hl' i (by rw [← hs.len]; exact hi)
        rw [List.getD_eq_getElem?_getD, List.getElem?_eq_getElem hi, e]; rfl
      omega

/-- In the end all is done, and the plan is kept. -/
theorem run_law {p : Pl} (hf : fits p = true) (hg : goesOn p (stateNew p).1 = true) (picks : List Int) :
    (∀ x ∈ (runTo p picks (nn p)).done, x ≠ -1) ∧ keepsOk p (runTo p picks (nn p)).done = true := by
  obtain ⟨⟨y, hy⟩, _, hc⟩ := run_goes hf hg picks (nn p) (Nat.le_refl _)
  have hs := stateOk_iff.1 (runTo_ok hf picks (nn p))
  have hp := planOk_of_fits hf
  have hn := nn_ok hp
  have hc0 : (runTo p picks (nn p)).done.count (-1) = 0 := by omega
  have hl := none_left hc0
  refine ⟨fun x hx e => by subst e; exact List.count_eq_zero.1 hc0 hx, ?_⟩
  rw [keepsOk_iff]
  constructor
  · unfold timesOk
    rw [hp, decide_eq_true hs.len]
    simp only [Bool.true_and, List.all_eq_true, inB_iff]
    intro x hx
    have := hs.all x hx
    have := hs.now
    omega
  · intro b hb
    obtain ⟨b1, b2, _⟩ := within_of_ok hp b hb
    have h1 := hy.done b.t.toNat (by omega) (hl _ (by rw [hs.len]; omega))
    have h2 := hy.done b.f.toNat (by omega) (hl _ (by rw [hs.len]; omega))
    have := hy.sol b hb
    rw [h1, h2] at this
    exact this
end Pp
end Go.Proofs.Ytledgblepdjjlaa
