/-
  Projects, plain: late begins; the plan of a project.
-/
import Derived.Test.YtmgikoaeomieeaaP47
namespace Go.Proofs.Ytmgikoaeomieeaa.Pp

/-! ### late begins -/
/-- How late a task may begin, by those after it, of which so many have been seen. -/
def ltl (L F : List Int) (e : Nat → Int) (c : Int) (i : Nat) : Nat → Int
  | 0 => c - L.getD i 0
  | d + 1 => if aft F (i + 1 + d) i then min (ltl L F e c i d) (e (i + 1 + d) - L.getD i 0) else ltl L F e c i d
/-- Late begins of the last m tasks. -/
def lateTo (L F : List Int) (c : Int) : Nat → Nat → Int
  | 0 => fun _ => 0
  | m + 1 => fun j => if j = L.length - 1 - m then ltl L F (lateTo L F c m) c (L.length - 1 - m) m else lateTo L F c m j
def lateAt (L F : List Int) (j : Nat) : Int := lateTo L F (lenOf L F) L.length j
theorem ltl_congr {L F : List Int} {e e' : Nat → Int} {c : Int} {i : Nat} : ∀ {d : Nat}, (∀ k, i < k → k ≤ i + d → e k = e' k) → ltl L F e c i d = ltl L F e' c i d
  | 0, _ => rfl
  | d + 1, h => by
    simp only [ltl]
    rw [ltl_congr (fun k h1 h2 => h k h1 (by omega)), h (i + 1 + d) (by omega) (by omega)]
theorem lateTo_keep {L F : List Int} {c : Int} {m j : Nat} (hj : L.length - m ≤ j) (hm : m < L.length) : lateTo L F c (m + 1) j = lateTo L F c m j := by
  show (if j = L.length - 1 - m then _ else _) = _
  rw [if_neg (by omega)]
theorem lateTo_at {L F : List Int} {c : Int} : ∀ {m j : Nat}, m ≤ L.length → L.length - m ≤ j → j < L.length → lateTo L F c m j = ltl L F (lateTo L F c m) c j (L.length - 1 - j)
  | 0, j, _, h1, h2 => by omega
  | m + 1, j, hm, h1, h2 => by
    by_cases e : j = L.length - 1 - m
    · subst e
      have e2 : L.length - 1 - (L.length - 1 - m) = m := by omega
      rw [e2]
      have : lateTo L F c (m + 1) (L.length - 1 - m) = ltl L F (lateTo L F c m) c (L.length - 1 - m) m := by
        show (if _ = _ then _ else _) = _
        rw [if_pos rfl]
      rw [this]
      exact ltl_congr (fun k h1 h2 => (lateTo_keep (by omega) (by omega)).symm)
    · rw [lateTo_keep (by omega) (by omega), lateTo_at (by omega) (by omega) h2]
      exact ltl_congr (fun k h1 h2 => (lateTo_keep (by omega) (by omega)).symm)
theorem late_at {L F : List Int} {i : Nat} (h : i < L.length) : lateAt L F i = ltl L F (lateAt L F) (lenOf L F) i (L.length - 1 - i) := lateTo_at (Nat.le_refl _) (by omega) h
theorem ltl_le {L F : List Int} {e : Nat → Int} {c : Int} {i : Nat} : ∀ {d : Nat}, ltl L F e c i d ≤ c - L.getD i 0
  | 0 => Int.le_refl _
  | d + 1 => by simp only [ltl]; have := ltl_le (L := L) (F := F) (e := e) (c := c) (i := i) (d := d); split <;> omega
theorem ltl_le_at {L F : List Int} {e : Nat → Int} {c : Int} {i : Nat} : ∀ {d k : Nat}, i < k → k ≤ i + d → aft F k i = true → ltl L F e c i d ≤ e k - L.getD i 0
  | 0, k, h1, h2, _ => by omega
  | d + 1, k, h1, h2, ha => by
    simp only [ltl]
    by_cases ek : k = i + 1 + d
    · subst ek; rw [if_pos ha]; omega
    · have := ltl_le_at (L := L) (e := e) (c := c) h1 (show k ≤ i + d by omega) ha
      split <;> omega
theorem ltl_ge {L F : List Int} {e : Nat → Int} {c v : Int} {i : Nat} (h0 : v ≤ c - L.getD i 0) : ∀ {d : Nat}, (∀ k, i < k → k ≤ i + d → aft F k i = true → v ≤ e k - L.getD i 0) → v ≤ ltl L F e c i d
  | 0, _ => h0
  | d + 1, h => by
    simp only [ltl]
    have h1 := ltl_ge h0 (fun k h1 h2 ha => h k h1 (by omega) ha : ∀ k, i < k → k ≤ i + d → aft F k i = true → v ≤ e k - L.getD i 0)
    by_cases ha : aft F (i + 1 + d) i = true
    · rw [if_pos ha]; have := h (i + 1 + d) (by omega) (by omega) ha; omega
    · rw [if_neg ha]; exact h1
theorem late_le {L F : List Int} {i : Nat} (h : i < L.length) : lateAt L F i ≤ lenOf L F - L.getD i 0 := by rw [late_at h]; exact ltl_le
theorem late_before {L F : List Int} {i k : Nat} (h1 : i < k) (h2 : k < L.length) (ha : aft F k i = true) : lateAt L F i ≤ lateAt L F k - L.getD i 0 := by
  rw [late_at (show i < L.length by omega)]
  exact ltl_le_at h1 (by omega) ha
theorem late_most {L F : List Int} {y : Nat → Int} (h1 : ∀ i, i < L.length → y i ≤ lenOf L F - L.getD i 0) (h2 : ∀ i k, i < k → k < L.length → aft F k i = true → y i ≤ y k - L.getD i 0) : ∀ d i, i + d + 1 = L.length → y i ≤ lateAt L F i := by
  intro d
  induction d using Nat.strongRecOn with
  | _ d ih =>
    intro i hi
    rw [late_at (by omega)]
    refine ltl_ge (h1 i (by omega)) (fun k hk1 hk2 ha => ?_)
    have := ih (d - (k - i)) (by omega) k (by omega)
    have := h2 i k hk1 (by omega) ha
    omega
theorem early_after {L F : List Int} {i k : Nat} (h1 : k < i) (h2 : i < L.length) (ha : aft F i k = true) : (early L F).getD k 0 + L.getD k 0 ≤ (early L F).getD i 0 := by
  rw [early_at (i := i) h2]
  exact erl_ge h1 ha
theorem early_end {L F : List Int} {i : Nat} (h : i < L.length) : (early L F).getD i 0 + L.getD i 0 ≤ lenOf L F := endTo_ge L _ h
theorem early_low {L F : List Int} {i : Nat} (h : i < L.length) : 0 ≤ (early L F).getD i 0 := by rw [early_at h]; exact erl_nonneg _ _ _ _ _
theorem late_early {L F : List Int} {i : Nat} (h : i < L.length) : (early L F).getD i 0 ≤ lateAt L F i :=
  late_most (y := fun j => (early L F).getD j 0) (fun i hi => by have := early_end (F := F) hi; (try dsimp only); omega) (fun i k h1 h2 ha => by have := early_after h1 h2 ha; (try dsimp only); omega) (L.length - 1 - i) i (by omega)

/-! ### the plan -/
def afB (L F : List Int) (i : Nat) : Nat → List Bd
  | 0 => []
  | k + 1 => afB L F i k ++ (if aft F i k then [⟨(i : Int) + 1, (k : Int) + 1, -L.getD k 0⟩] else [])
def prB (L F : List Int) : Nat → List Bd
  | 0 => []
  | i + 1 => prB L F i ++ [⟨(i : Int) + 1, 0, 0⟩] ++ afB L F i i ++ [⟨(L.length : Int) + 1, (i : Int) + 1, -L.getD i 0⟩]
def prPlan (L F : List Int) : Pl := ⟨(L.length : Int) + 2, prB L F L.length⟩
theorem afB_mem {L F : List Int} {i : Nat} {b : Bd} : ∀ {n : Nat}, b ∈ afB L F i n ↔ ∃ k, k < n ∧ aft F i k = true ∧ b = ⟨(i : Int) + 1, (k : Int) + 1, -L.getD k 0⟩
  | 0 => by simp [afB]
  | n + 1 => by
    simp only [afB, List.mem_append, afB_mem (n := n)]
    constructor
    · rintro (⟨k, h1, h2, h3⟩ | h)
      · exact ⟨k, by omega, h2, h3⟩
      · by_cases ha : aft F i n = true
        · rw [if_pos ha] at h
          exact ⟨n, by omega, ha, by simpa using h⟩
        · rw [if_neg ha] at h; simp at h
    · rintro ⟨k, h1, h2, h3⟩
      by_cases e : k = n
      · subst e; right; rw [if_pos h2]; simp [h3]
      · exact .inl ⟨k, by omega, h2, h3⟩
theorem prB_mem {L F : List Int} {b : Bd} : ∀ {n : Nat}, b ∈ prB L F n ↔ ∃ i, i < n ∧ (b = ⟨(i : Int) + 1, 0, 0⟩ ∨ (∃ k, k < i ∧ aft F i k = true ∧ b = ⟨(i : Int) + 1, (k : Int) + 1, -L.getD k 0⟩) ∨ b = ⟨(L.length : Int) + 1, (i : Int) + 1, -L.getD i 0⟩)
  | 0 => by simp [prB]
  | n + 1 => by
    simp only [prB, List.mem_append, prB_mem (n := n), afB_mem, List.mem_singleton]
    constructor
    · rintro (((⟨i, h1, h2⟩ | h) | h) | h)
      · exact ⟨i, by omega, h2⟩
      · exact ⟨n, by omega, .inl h⟩
      · exact ⟨n, by omega, .inr (.inl h)⟩
      · exact ⟨n, by omega, .inr (.inr h)⟩
    · rintro ⟨i, h1, h2⟩
      by_cases e : i = n
      · subst e
        rcases h2 with h | h | h
        · exact .inl (.inl (.inr h))
        · exact .inl (.inr h)
        · exact .inr h
      · exact .inl (.inl (.inl ⟨i, by omega, h2⟩))
theorem pr_sol {L F : List Int} {y : Nat → Int} : Sol (prB L F L.length) y ↔ ∀ i, i < L.length → y 0 ≤ y (i + 1) ∧ (∀ k, k < i → aft F i k = true → y (k + 1) + L.getD k 0 ≤ y (i + 1)) ∧ y (i + 1) + L.getD i 0 ≤ y (L.length + 1) := by
  have e1 : ∀ j : Nat, ((j : Int) + 1).toNat = j + 1 := fun j => by omega
  constructor
  · intro h i hi
    refine ⟨?_, fun k hk ha => ?_, ?_⟩
    · have := h _ (prB_mem.2 ⟨i, hi, .inl rfl⟩)
      dsimp only at this
      rw [e1] at this
      simp only [Int.toNat_zero] at this
      omega
    · have := h _ (prB_mem.2 ⟨i, hi, .inr (.inl ⟨k, hk, ha, rfl⟩)⟩)
      dsimp only at this
      rw [e1, e1] at this
      omega
    · have := h _ (prB_mem.2 ⟨i, hi, .inr (.inr rfl)⟩)
      dsimp only at this
      rw [e1, e1] at this
      omega
  · intro h b hb
    obtain ⟨i, hi, hc⟩ := prB_mem.1 hb
    obtain ⟨h1, h2, h3⟩ := h i hi
    rcases hc with rfl | ⟨k, hk, ha, rfl⟩ | rfl
    · dsimp only; rw [e1]; simp only [Int.toNat_zero]; omega
    · have := h2 k hk ha
      dsimp only; rw [e1, e1]; omega
    · dsimp only; rw [e1, e1]; omega
theorem afB_len (L F : List Int) (i : Nat) : ∀ k, (afB L F i k).length ≤ k
  | 0 => Nat.le_refl _
  | k + 1 => by
    simp only [afB, List.length_append]
    have := afB_len L F i k
    split
    · simp; omega
    · simp; omega
theorem prB_len (L F : List Int) {n : Nat} (hn : n ≤ 4) : (prB L F n).length ≤ 14 ∧ (prB L F n).length ≤ 4 * n + 4 := by
  have h0 := afB_len L F 0 0
  have h1 := afB_len L F 1 1
  have h2 := afB_len L F 2 2
  have h3 := afB_len L F 3 3
  have : n = 0 ∨ n = 1 ∨ n = 2 ∨ n = 3 ∨ n = 4 := by omega
  rcases this with rfl | rfl | rfl | rfl | rfl <;> simp only [prB, List.length_append, List.length_cons, List.length_nil] <;> omega
theorem pr_bdOk {L F : List Int} (hp : projOk L F = true) {b : Bd} {m : Nat} (hm : m ≤ L.length) (hb : b ∈ prB L F m) : bdOk ((L.length : Int) + 2) b = true := by
  obtain ⟨i, hi, hc⟩ := prB_mem.1 hb
  rw [bdOk_iff]
  have hL := long_at hp (show i < L.length by omega)
  rcases hc with rfl | ⟨k, hk, ha, rfl⟩ | rfl
  · dsimp only; omega
  · have := long_at hp (show k < L.length by omega)
    dsimp only; omega
  · dsimp only; omega
theorem pr_ok {L F : List Int} (hp : projOk L F = true) (h4 : L.length ≤ 4) : planOk (prPlan L F) = true := by
  rw [planOk_iff]
  refine ⟨by show 1 ≤ (L.length : Int) + 2 ∧ (L.length : Int) + 2 ≤ 6; omega, ?_, fun b hb => pr_bdOk hp (Nat.le_refl _) hb⟩
  have := prB_len L F h4
  show (prB L F L.length).length ≤ 16
  omega
theorem pr_nn (L F : List Int) : nn (prPlan L F) = L.length + 2 := by show ((L.length : Int) + 2).toNat = _; omega
/-- The greatest difference, by the times that keep a plan. -/
theorem most_is {p : Pl} (hp : planOk p = true) {i j : Nat} (hi : i < nn p) (hj : j < nn p) {v : Int} (hle : ∀ y, Sol p.bs y → y j - y i ≤ v) (hex : ∃ y, Sol p.bs y ∧ y j - y i = v) : mostOf p (i : Int) (j : Int) = (v, true) := by
  obtain ⟨y, hy, e⟩ := hex
  have hf : fits p = true := (fits_iff hp).2 ⟨y, hy⟩
  have G := fit_of hf
  have hn := nn_ok hp
  obtain ⟨h1, h2⟩ := G.tight hi hj v hle
  have h3 := G.le hi hj hy h1
  rw [mostOf_is hf (by omega) (by omega) (by simpa using h1)]
  simp only [Int.toNat_natCast]
  have : clT p i j = v := by omega
  rw [this]
/-- The early times, as times of the plan's points. -/
def earlyY (L F : List Int) (c : Int) : Nat → Int
  | 0 => 0
  | k + 1 => if k < L.length then (early L F).getD k 0 else c
theorem early_sol {L F : List Int} {c : Int} (hc : lenOf L F ≤ c) : Sol (prB L F L.length) (earlyY L F c) := by
  refine pr_sol.2 (fun i hi => ⟨?_, fun k hk ha => ?_, ?_⟩)
  · show (0 : Int) ≤ if i < L.length then _ else _
    rw [if_pos hi]; exact early_low hi
  · show (if k < L.length then _ else _) + _ ≤ if i < L.length then _ else _
    rw [if_pos hi, if_pos (by omega)]; exact early_after hk hi ha
  · show (if i < L.length then _ else _) + _ ≤ if L.length < L.length then _ else _
    rw [if_pos hi, if_neg (by omega)]
    have := early_end (F := F) hi
    omega
theorem pr_fits {L F : List Int} (hp : projOk L F = true) (h4 : L.length ≤ 4) : fits (prPlan L F) = true := (fits_iff (pr_ok hp h4)).2 ⟨_, early_sol (Int.le_refl _)⟩
theorem early_least {L F : List Int} {y : Nat → Int} (hy : Sol (prB L F L.length) y) : ∀ i, i < L.length → y 0 + (early L F).getD i 0 ≤ y (i + 1) := by
  intro i
  induction i using Nat.strongRecOn with
  | _ i ih =>
    intro hi
    obtain ⟨h1, h2, h3⟩ := pr_sol.1 hy i hi
    have : (early L F).getD i 0 ≤ y (i + 1) - y 0 := by
      rw [early_at hi]
      refine erl_le (by omega) (fun k hk ha => ?_)
      have := ih k hk (by omega)
      have := h2 k hk ha
      omega
    omega
/-- The plan tells each task's early begin. -/
theorem pr_early {L F : List Int} (hp : projOk L F = true) (h4 : L.length ≤ 4) {k : Nat} (hk : k < L.length) : leastOf (prPlan L F) 0 ((k : Int) + 1) = ((early L F).getD k 0, true) := by
  have hn := pr_nn L F
  have := most_is (pr_ok hp h4) (i := k + 1) (j := 0) (by omega) (by omega) (v := -(early L F).getD k 0) (fun y hy => by have := early_least hy k hk; omega) ⟨_, early_sol (Int.le_refl _), by
    show (0 : Int) - (if k < L.length then _ else _) = _
    rw [if_pos hk]; omega⟩
  rw [show ((k + 1 : Nat) : Int) = (k : Int) + 1 by omega] at this
  unfold leastOf
  rw [show (0 : Int) = ((0 : Nat) : Int) from rfl, this]
  simp
theorem len_attain {L F : List Int} (hp : projOk L F = true) (h : 0 < L.length) : ∃ k, k < L.length ∧ lenOf L F = (early L F).getD k 0 + L.getD k 0 := by
  have h1 := early_end (F := F) (i := 0) h
  have h2 := early_low (F := F) (i := 0) h
  have h3 := long_at hp h
  rcases endTo_attain L (early L F) L.length with e | ⟨k, hk, e⟩
  · have e2 : lenOf L F = 0 := e
    omega
  · exact ⟨k, hk, e⟩
theorem len_low (L F : List Int) : 0 ≤ lenOf L F := endTo_nonneg L _ _
theorem len_bound {L F : List Int} (hp : projOk L F = true) : lenOf L F ≤ 20 * (L.length : Int) := by
  have key : ∀ i, i < L.length → (early L F).getD i 0 ≤ 20 * (i : Int) := by
    intro i
    induction i using Nat.strongRecOn with
    | _ i ih =>
      intro hi
      rw [early_at hi]
      refine erl_le (by omega) (fun k hk _ => ?_)
      have := ih k hk (by omega)
      have := long_at hp (show k < L.length by omega)
      omega
  refine endTo_le (by omega) (fun k hk => ?_)
  have := key k hk
  have := long_at hp hk
  omega
/-- .. and how long it lasts. -/
theorem pr_len {L F : List Int} (hp : projOk L F = true) (h4 : L.length ≤ 4) (h : 0 < L.length) : leastOf (prPlan L F) 0 ((L.length : Int) + 1) = (lenOf L F, true) := by
  have hn := pr_nn L F
  obtain ⟨k, hk, e⟩ := len_attain hp h
  have := most_is (pr_ok hp h4) (i := L.length + 1) (j := 0) (by omega) (by omega) (v := -lenOf L F) (fun y hy => by
    have h1 := early_least hy k hk
    obtain ⟨_, _, h2⟩ := pr_sol.1 hy k hk
    omega) ⟨_, early_sol (Int.le_refl _), by
    show (0 : Int) - (if L.length < L.length then _ else _) = _
    rw [if_neg (by omega)]; omega⟩
  rw [show ((L.length + 1 : Nat) : Int) = (L.length : Int) + 1 by omega] at this
  unfold leastOf
  rw [show (0 : Int) = ((0 : Nat) : Int) from rfl, this]
  simp
/-- The late times, as times of the plan's points. -/
def lateY (L F : List Int) : Nat → Int
  | 0 => 0
  | k + 1 => if k < L.length then lateAt L F k else lenOf L F
theorem late_sol {L F : List Int} : Sol (prB L F L.length) (lateY L F) := by
  refine pr_sol.2 (fun i hi => ⟨?_, fun k hk ha => ?_, ?_⟩)
  · show (0 : Int) ≤ if i < L.length then _ else _
    rw [if_pos hi]
    have := early_low (F := F) hi
    have := late_early (F := F) hi
    omega
  · show (if k < L.length then _ else _) + _ ≤ if i < L.length then _ else _
    rw [if_pos hi, if_pos (by omega)]
    have := late_before hk hi ha
    omega
  · show (if i < L.length then _ else _) + _ ≤ if L.length < L.length then _ else _
    rw [if_pos hi, if_neg (by omega)]
    have := late_le (F := F) hi
    omega
/-- Set to its length, the plan tells each task's late begin. -/
theorem pr_late {L F : List Int} (h : planOk ⟨(L.length : Int) + 2, prB L F L.length ++ [⟨0, (L.length : Int) + 1, lenOf L F⟩, ⟨(L.length : Int) + 1, 0, -lenOf L F⟩]⟩ = true) {k : Nat} (hk : k < L.length) :
    mostOf ⟨(L.length : Int) + 2, prB L F L.length ++ [⟨0, (L.length : Int) + 1, lenOf L F⟩, ⟨(L.length : Int) + 1, 0, -lenOf L F⟩]⟩ 0 ((k : Int) + 1) = (lateAt L F k, true) := by
  have hn : nn ⟨(L.length : Int) + 2, prB L F L.length ++ [⟨0, (L.length : Int) + 1, lenOf L F⟩, ⟨(L.length : Int) + 1, 0, -lenOf L F⟩]⟩ = L.length + 2 := by show ((L.length : Int) + 2).toNat = _; omega
  have e1 : ((L.length : Int) + 1).toNat = L.length + 1 := by omega
  have := most_is h (i := 0) (j := k + 1) (by omega) (by omega) (v := lateAt L F k) (fun y hy => by
    obtain ⟨h1, h2⟩ := (set_sol y).1 hy
    rw [e1] at h2
    simp only [Int.toNat_zero] at h2
    have h3 := pr_sol.1 h1
    have := late_most (L := L) (F := F) (y := fun j => y (j + 1) - y 0) (fun i hi => by have := (h3 i hi).2.2; (try dsimp only); omega) (fun i k h1 h2 ha => by have := (h3 k h2).2.1 i h1 ha; (try dsimp only); omega) (L.length - 1 - k) k (by omega)
    exact this) ⟨lateY L F, (set_sol _).2 ⟨late_sol, by
      rw [e1]
      show (if L.length < L.length then _ else _) - (0 : Int) = _
      rw [if_neg (by omega)]; omega⟩, by
    show (if k < L.length then _ else _) - (0 : Int) = _
    rw [if_pos hk]; omega⟩
  rw [show ((k + 1 : Nat) : Int) = (k : Int) + 1 by omega] at this
  exact this
theorem late_bound {L F : List Int} (hp : projOk L F = true) {i : Nat} (hi : i < L.length) : 0 ≤ lateAt L F i ∧ lateAt L F i ≤ 120 := by
  have h1 := early_low (F := F) hi
  have h2 := late_early (F := F) hi
  have h3 := late_le (F := F) hi
  have h4 := long_at hp hi
  have h5 := len_bound hp
  have h6 := (projOk_iff.1 hp).1
  omega
end Go.Proofs.Ytmgikoaeomieeaa.Pp
