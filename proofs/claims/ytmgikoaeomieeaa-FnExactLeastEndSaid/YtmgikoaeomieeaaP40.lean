/-
  Projects, plain: begins of tasks, made one by one; no right begins end before the best of them.
-/
import Derived.Test.YtmgikoaeomieeaaP2
namespace Go.Proofs.Ytmgikoaeomieeaa.Pp

/-- Whether a task comes after another one. -/
def aft (F : List Int) (i k : Nat) : Bool := decide (F.getD i 0 / 2 ^ k % 2 = 1)
def projOk (L F : List Int) : Bool := decide (L.length ≤ 6) && decide (F.length = L.length) && L.all (fun v => inB v 1 20) && (List.range F.length).all (fun i => inB (F.getD i 0) 0 (2 ^ i - 1))
theorem projOk_iff {L F : List Int} : projOk L F = true ↔ L.length ≤ 6 ∧ F.length = L.length ∧ (∀ v ∈ L, 1 ≤ v ∧ v ≤ 20) ∧ ∀ i, i < F.length → 0 ≤ F.getD i 0 ∧ F.getD i 0 ≤ 2 ^ i - 1 := by
  simp [projOk, inB_iff, and_assoc]
theorem long_at {L F : List Int} (h : projOk L F = true) {i : Nat} (hi : i < L.length) : 1 ≤ L.getD i 0 ∧ L.getD i 0 ≤ 20 := by
  rw [List.getD_eq_getElem?_getD, List.getElem?_eq_getElem hi]
  exact (projOk_iff.1 h).2.2.1 _ (List.getElem_mem hi)

/-! ### early begins -/
def erl (L F e : List Int) (i : Nat) : Nat → Int
  | 0 => 0
  | k + 1 => if aft F i k then max (erl L F e i k) (e.getD k 0 + L.getD k 0) else erl L F e i k
def earlyTo (L F : List Int) : Nat → List Int
  | 0 => []
  | k + 1 => earlyTo L F k ++ [erl L F (earlyTo L F k) k k]
def early (L F : List Int) : List Int := earlyTo L F L.length
theorem earlyTo_length (L F : List Int) : ∀ k, (earlyTo L F k).length = k
  | 0 => rfl
  | k + 1 => by simp only [earlyTo, List.length_append, earlyTo_length L F k]; rfl
/-- The greatest end. -/
def endTo (L b : List Int) : Nat → Int
  | 0 => 0
  | k + 1 => max (endTo L b k) (b.getD k 0 + L.getD k 0)
def endOf (L b : List Int) : Int := endTo L b L.length
def lenOf (L F : List Int) : Int := endOf L (early L F)
theorem endTo_ge (L b : List Int) : ∀ {n k : Nat}, k < n → b.getD k 0 + L.getD k 0 ≤ endTo L b n
  | n + 1, k, h => by
    simp only [endTo]
    by_cases e : k = n
    · subst e; omega
    · have := endTo_ge L b (n := n) (k := k) (by omega); omega
theorem endTo_nonneg (L b : List Int) : ∀ n, 0 ≤ endTo L b n
  | 0 => Int.le_refl _
  | n + 1 => by simp only [endTo]; have := endTo_nonneg L b n; omega
theorem endTo_le {L b : List Int} {c : Int} (h0 : 0 ≤ c) : ∀ {n : Nat}, (∀ k, k < n → b.getD k 0 + L.getD k 0 ≤ c) → endTo L b n ≤ c
  | 0, _ => h0
  | n + 1, h => by
    simp only [endTo]
    have := endTo_le h0 (n := n) (fun k hk => h k (by omega))
    have := h n (by omega)
    omega
theorem erl_ge {L F e : List Int} {i : Nat} : ∀ {n k : Nat}, k < n → aft F i k = true → e.getD k 0 + L.getD k 0 ≤ erl L F e i n
  | n + 1, k, h, ha => by
    simp only [erl]
    by_cases ek : k = n
    · subst ek; rw [if_pos ha]; omega
    · have := erl_ge (L := L) (e := e) (n := n) (k := k) (by omega) ha
      split <;> omega
theorem erl_nonneg (L F e : List Int) (i : Nat) : ∀ n, 0 ≤ erl L F e i n
  | 0 => Int.le_refl _
  | n + 1 => by simp only [erl]; have := erl_nonneg L F e i n; split <;> omega
theorem erl_le {L F e : List Int} {i : Nat} {c : Int} (h0 : 0 ≤ c) : ∀ {n : Nat}, (∀ k, k < n → aft F i k = true → e.getD k 0 + L.getD k 0 ≤ c) → erl L F e i n ≤ c
  | 0, _ => h0
  | n + 1, h => by
    simp only [erl]
    have := erl_le h0 (n := n) (fun k hk => h k (by omega))
    split
    · rename_i ha
      have := h n (by omega) ha
      omega
    · exact this
theorem erl_congr {L F e e' : List Int} {i : Nat} : ∀ {n : Nat}, (∀ k, k < n → e.getD k 0 = e'.getD k 0) → erl L F e i n = erl L F e' i n
  | 0, _ => rfl
  | n + 1, h => by simp only [erl]; rw [erl_congr (fun k hk => h k (by omega)), h n (by omega)]
theorem earlyTo_at (L F : List Int) : ∀ {n i : Nat}, i < n → (earlyTo L F n).getD i 0 = erl L F (earlyTo L F i) i i
  | n + 1, i, h => by
    simp only [earlyTo]
    rw [List.getD_eq_getElem?_getD]
    by_cases e : i = n
    · subst e
      rw [List.getElem?_append_right (by rw [earlyTo_length]; exact Nat.le_refl _)]
      simp [earlyTo_length]
    · rw [List.getElem?_append_left (by rw [earlyTo_length]; omega), ← List.getD_eq_getElem?_getD]
      exact earlyTo_at L F (by omega)
theorem early_at {L F : List Int} {i : Nat} (h : i < L.length) : (early L F).getD i 0 = erl L F (early L F) i i := by
  unfold early
  rw [earlyTo_at L F h]
  exact erl_congr (fun k hk => by rw [earlyTo_at L F hk, earlyTo_at L F (by omega)])

/-! ### how many are being done -/
def isBusy (L b : List Int) (t : Int) (i : Nat) : Bool := decide (0 ≤ b.getD i 0 ∧ b.getD i 0 ≤ t ∧ t < b.getD i 0 + L.getD i 0)
def cnt (f : Nat → Bool) : Nat → Nat
  | 0 => 0
  | k + 1 => cnt f k + (if f k then 1 else 0)
def busyN (L b : List Int) (t : Int) : Nat := cnt (isBusy L b t) b.length
theorem cnt_le {f g : Nat → Bool} : ∀ {n : Nat}, (∀ k, k < n → f k = true → g k = true) → cnt f n ≤ cnt g n
  | 0, _ => Nat.le_refl _
  | n + 1, h => by
    simp only [cnt]
    have := cnt_le (n := n) (fun k hk => h k (by omega))
    by_cases e : f n = true
    · rw [if_pos e, if_pos (h n (by omega) e)]; omega
    · rw [if_neg e]; omega
theorem cnt_lt {f g : Nat → Bool} {i : Nat} (hf : f i = false) (hg : g i = true) : ∀ {n : Nat}, i < n → (∀ k, k < n → f k = true → g k = true) → cnt f n + 1 ≤ cnt g n
  | n + 1, hi, h => by
    simp only [cnt]
    by_cases e : i = n
    · subst e
      have := cnt_le (f := f) (g := g) (n := i) (fun k hk => h k (by omega))
      rw [hf, hg]
      simp
      omega
    · have := cnt_lt hf hg (n := n) (by omega) (fun k hk => h k (by omega))
      by_cases e : f n = true
      · rw [if_pos e, if_pos (h n (by omega) e)]; omega
      · rw [if_neg e]; omega
theorem cnt_bound (f : Nat → Bool) : ∀ n, cnt f n ≤ n
  | 0 => Nat.le_refl _
  | n + 1 => by simp only [cnt]; have := cnt_bound f n; split <;> omega
/-- One more at one place. -/
theorem cnt_set {f g : Nat → Bool} {i : Nat} : ∀ {n : Nat}, (∀ k, k < n → k ≠ i → f k = g k) → cnt g n ≤ cnt f n + (if g i = true then 1 else 0)
  | 0, _ => Nat.zero_le _
  | n + 1, h => by
    simp only [cnt]
    by_cases e : i = n
    · subst e
      have h2 : cnt g i = cnt f i := by
        have h1 : ∀ {m : Nat}, m ≤ i → cnt g m = cnt f m := by
          intro m
          induction m with
          | zero => intro _; rfl
          | succ m ih => intro hm; simp only [cnt]; rw [ih (by omega), h m (by omega) (by omega)]
        exact h1 (Nat.le_refl _)
      rw [h2]
      split <;> omega
    · have := cnt_set (i := i) (n := n) (fun k hk => h k (by omega))
      rw [h n (by omega) (fun x => e x.symm)]
      omega
/-- Right begins. -/
def beginsOk (L F : List Int) (h : Int) (b : List Int) : Bool :=
  projOk L F && decide (b.length = L.length) && b.all (fun v => inB v 0 2000) && inB h 1 3 && (List.range b.length).all (fun i => (List.range i).all (fun k => !aft F i k || decide (b.getD k 0 + L.getD k 0 ≤ b.getD i 0)) && decide ((busyN L b (b.getD i 0) : Int) ≤ h))
theorem beginsOk_iff {L F : List Int} {h : Int} {b : List Int} : beginsOk L F h b = true ↔ projOk L F = true ∧ b.length = L.length ∧ (∀ v ∈ b, 0 ≤ v ∧ v ≤ 2000) ∧ (1 ≤ h ∧ h ≤ 3) ∧ ∀ i, i < b.length → (∀ k, k < i → aft F i k = true → b.getD k 0 + L.getD k 0 ≤ b.getD i 0) ∧ (busyN L b (b.getD i 0) : Int) ≤ h := by
  simp only [beginsOk, Bool.and_eq_true, decide_eq_true_eq, List.all_eq_true, List.mem_range, inB_iff, and_assoc, Bool.or_eq_true, Bool.not_eq_true']
  constructor
  · rintro ⟨h1, h2, h3, h4, h5, h6⟩
    refine ⟨h1, h2, h3, h4, h5, fun i hi => ⟨fun k hk ha => ?_, (h6 i hi).2⟩⟩
    rcases (h6 i hi).1 k hk with h | h
    · rw [ha] at h; cases h
    · exact h
  · rintro ⟨h1, h2, h3, h4, h5, h6⟩
    refine ⟨h1, h2, h3, h4, h5, fun i hi => ⟨fun k hk => ?_, (h6 i hi).2⟩⟩
    cases ha : aft F i k
    · exact .inl rfl
    · exact .inr ((h6 i hi).1 k hk ha)
end Go.Proofs.Ytmgikoaeomieeaa.Pp
