/-
  Projects, plain: begins of tasks, made one by one; no right begins end before the best of them.
  Projects, plain: begins that are made one by one, by an order.
  Projects, plain: some order makes begins that end no later than any right begins.
  Projects, plain: work and hands; with one hand, and with many.
  Projects, plain: all orders, and the least end.
  Projects, plain: orders by number.
  Projects, plain: begins as time goes on (greedy).
  Projects, plain: where no hand is idle the end is less than twice the least one.
  Projects, plain: late begins; the plan of a project.
-/
import Derived.Test.YtmgikoaeomieeaaP2
namespace Go.Proofs.Ytmgikoaeomieeaa.Pp
set_option linter.unusedVariables false
set_option linter.unusedSimpArgs false

/-- Whether a task comes after another one. -/
def aft (F : List Int) (i k : Nat) : Bool := decide (F.getD i 0 / 2 ^ k % 2 = 1)
def projOk (L F : List Int) : Bool := decide (L.length ≤ 6) && decide (F.length = L.length) && L.all (fun v => inB v 1 20) && (List.range F.length).all (fun i => inB (F.getD i 0) 0 (2 ^ i - 1))
theorem projOk_iff {L F : List Int} : projOk L F = true ↔ L.length ≤ 6 ∧ F.length = L.length ∧ (∀ v ∈ L, 1 ≤ v ∧ v ≤ 20) ∧ ∀ i, i < F.length → 0 ≤ F.getD i 0 ∧ F.getD i 0 ≤ 2 ^ i - 1 := by
  simp [projOk, inB_iff, and_assoc]
theorem long_at {L F : List Int} (h : projOk L F = true) {i : Nat} (hi : i < L.length) : 1 ≤ L.getD i 0 ∧ L.getD i 0 ≤ 20 := by
  rw [List.getD_eq_getElem?_getD, List.getElem?_eq_getElem hi]
  exact (projOk_iff.1 h).2.2.1 _ (List.getElem_mem hi)

/-! ### early begins -/
def erl (L F e : List Int) (i : Nat) : Nat → Int
  | 0 => 0
  | k + 1 => if aft F i k then max (erl L F e i k) (e.getD k 0 + L.getD k 0) else erl L F e i k
def earlyTo (L F : List Int) : Nat → List Int
  | 0 => []
  | k + 1 => earlyTo L F k ++ [erl L F (earlyTo L F k) k k]
def early (L F : List Int) : List Int := earlyTo L F L.length
theorem earlyTo_length (L F : List Int) : ∀ k, (earlyTo L F k).length = k
  | 0 => rfl
  | k + 1 => by simp only [earlyTo, List.length_append, earlyTo_length L F k]; rfl
/-- The greatest end. -/
def endTo (L b : List Int) : Nat → Int
  | 0 => 0
  | k + 1 => max (endTo L b k) (b.getD k 0 + L.getD k 0)
def endOf (L b : List Int) : Int := endTo L b L.length
def lenOf (L F : List Int) : Int := endOf L (early L F)
theorem endTo_ge (L b : List Int) : ∀ {n k : Nat}, k < n → b.getD k 0 + L.getD k 0 ≤ endTo L b n
  | n + 1, k, h => by
    simp only [endTo]
    by_cases e : k = n
    · subst e; omega
    · have := endTo_ge L b (n := n) (k := k) (by omega); omega
theorem endTo_nonneg (L b : List Int) : ∀ n, 0 ≤ endTo L b n
  | 0 => Int.le_refl _
  | n + 1 => by simp only [endTo]; have := endTo_nonneg L b n; omega
theorem endTo_le {L b : List Int} {c : Int} (h0 : 0 ≤ c) : ∀ {n : Nat}, (∀ k, k < n → b.getD k 0 + L.getD k 0 ≤ c) → endTo L b n ≤ c
  | 0, _ => h0
  | n + 1, h => by
    simp only [endTo]
    have := endTo_le h0 (n := n) (fun k hk => h k (by omega))
    have := h n (by omega)
    omega
theorem erl_ge {L F e : List Int} {i : Nat} : ∀ {n k : Nat}, k < n → aft F i k = true → e.getD k 0 + L.getD k 0 ≤ erl L F e i n
  | n + 1, k, h, ha => by
    simp only [erl]
    by_cases ek : k = n
    · subst ek; rw [if_pos ha]; omega
    · have := erl_ge (L := L) (e := e) (n := n) (k := k) (by omega) ha
      split <;> omega
theorem erl_nonneg (L F e : List Int) (i : Nat) : ∀ n, 0 ≤ erl L F e i n
  | 0 => Int.le_refl _
  | n + 1 => by simp only [erl]; have := erl_nonneg L F e i n; split <;> omega
theorem erl_le {L F e : List Int} {i : Nat} {c : Int} (h0 : 0 ≤ c) : ∀ {n : Nat}, (∀ k, k < n → aft F i k = true → e.getD k 0 + L.getD k 0 ≤ c) → erl L F e i n ≤ c
  | 0, _ => h0
  | n + 1, h => by
    simp only [erl]
    have := erl_le h0 (n := n) (fun k hk => h k (by omega))
    split
    · rename_i ha
      have := h n (by omega) ha
      omega
    · exact this
theorem erl_congr {L F e e' : List Int} {i : Nat} : ∀ {n : Nat}, (∀ k, k < n → e.getD k 0 = e'.getD k 0) → erl L F e i n = erl L F e' i n
  | 0, _ => rfl
  | n + 1, h => by simp only [erl]; rw [erl_congr (fun k hk => h k (by omega)), h n (by omega)]
theorem earlyTo_at (L F : List Int) : ∀ {n i : Nat}, i < n → (earlyTo L F n).getD i 0 = erl L F (earlyTo L F i) i i
  | n + 1, i, h => by
    simp only [earlyTo]
    rw [List.getD_eq_getElem?_getD]
    by_cases e : i = n
    · subst e
      rw [List.getElem?_append_right (by rw [earlyTo_length]; exact Nat.le_refl _)]
      simp [earlyTo_length]
    · rw [List.getElem?_append_left (by rw [earlyTo_length]; omega), ← List.getD_eq_getElem?_getD]
      exact earlyTo_at L F (by omega)
theorem early_at {L F : List Int} {i : Nat} (h : i < L.length) : (early L F).getD i 0 = erl L F (early L F) i i := by
  unfold early
  rw [earlyTo_at L F h]
  exact erl_congr (fun k hk => by rw [earlyTo_at L F hk, earlyTo_at L F (by omega)])

/-! ### how many are being done -/
def isBusy (L b : List Int) (t : Int) (i : Nat) : Bool := decide (0 ≤ b.getD i 0 ∧ b.getD i 0 ≤ t ∧ t < b.getD i 0 + L.getD i 0)
def cnt (f : Nat → Bool) : Nat → Nat
  | 0 => 0
  | k + 1 => cnt f k + (if f k then 1 else 0)
def busyN (L b : List Int) (t : Int) : Nat := cnt (isBusy L b t) b.length
theorem cnt_le {f g : Nat → Bool} : ∀ {n : Nat}, (∀ k, k < n → f k = true → g k = true) → cnt f n ≤ cnt g n
  | 0, _ => Nat.le_refl _
  | n + 1, h => by
    simp only [cnt]
    have := cnt_le (n := n) (fun k hk => h k (by omega))
    by_cases e : f n = true
    · rw [if_pos e, if_pos (h n (by omega) e)]; omega
    · rw [if_neg e]; omega
theorem cnt_lt {f g : Nat → Bool} {i : Nat} (hf : f i = false) (hg : g i = true) : ∀ {n : Nat}, i < n → (∀ k, k < n → f k = true → g k = true) → cnt f n + 1 ≤ cnt g n
  | n + 1, hi, h => by
    simp only [cnt]
    by_cases e : i = n
    · subst e
      have := cnt_le (f := f) (g := g) (n := i) (fun k hk => h k (by omega))
      rw [hf, hg]
      simp
      omega
    · have := cnt_lt hf hg (n := n) (by omega) (fun k hk => h k (by omega))
      by_cases e : f n = true
      · rw [if_pos e, if_pos (h n (by omega) e)]; omega
      · rw [if_neg e]; omega
theorem cnt_bound (f : Nat → Bool) : ∀ n, cnt f n ≤ n
  | 0 => Nat.le_refl _
  | n + 1 => by simp only [cnt]; have := cnt_bound f n; split <;> omega
/-- One more at one place. -/
theorem cnt_set {f g : Nat → Bool} {i : Nat} : ∀ {n : Nat}, (∀ k, k < n → k ≠ i → f k = g k) → cnt g n ≤ cnt f n + (if g i = true then 1 else 0)
  | 0, _ => Nat.zero_le _
  | n + 1, h => by
    simp only [cnt]
    by_cases e : i = n
    · subst e
      have h2 : cnt g i = cnt f i := by
        have h1 : ∀ {m : Nat}, m ≤ i → cnt g m = cnt f m := by
          intro m
          induction m with
          | zero => intro _; rfl
          | succ m ih => intro hm; simp only [cnt]; rw [ih (by omega), h m (by omega) (by omega)]
        exact h1 (Nat.le_refl _)
      rw [h2]
      split <;> omega
    · have := cnt_set (i := i) (n := n) (fun k hk => h k (by omega))
      rw [h n (by omega) (fun x => e x.symm)]
      omega
/-- Right begins. -/
def beginsOk (L F : List Int) (h : Int) (b : List Int) : Bool :=
  projOk L F && decide (b.length = L.length) && b.all (fun v => inB v 0 2000) && inB h 1 3 && (List.range b.length).all (fun i => (List.range i).all (fun k => !aft F i k || decide (b.getD k 0 + L.getD k 0 ≤ b.getD i 0)) && decide ((busyN L b (b.getD i 0) : Int) ≤ h))
theorem beginsOk_iff {L F : List Int} {h : Int} {b : List Int} : beginsOk L F h b = true ↔ projOk L F = true ∧ b.length = L.length ∧ (∀ v ∈ b, 0 ≤ v ∧ v ≤ 2000) ∧ (1 ≤ h ∧ h ≤ 3) ∧ ∀ i, i < b.length → (∀ k, k < i → aft F i k = true → b.getD k 0 + L.getD k 0 ≤ b.getD i 0) ∧ (busyN L b (b.getD i 0) : Int) ≤ h := by
  simp only [beginsOk, Bool.and_eq_true, decide_eq_true_eq, List.all_eq_true, List.mem_range, inB_iff, and_assoc, Bool.or_eq_true, Bool.not_eq_true']
  constructor
  · rintro ⟨h1, h2, h3, h4, h5, h6⟩
    refine ⟨h1, h2, h3, h4, h5, fun i hi => ⟨fun k hk ha => ?_, (h6 i hi).2⟩⟩
    rcases (h6 i hi).1 k hk with h | h
    · rw [ha] at h; cases h
    · exact h
  · rintro ⟨h1, h2, h3, h4, h5, h6⟩
    refine ⟨h1, h2, h3, h4, h5, fun i hi => ⟨fun k hk => ?_, (h6 i hi).2⟩⟩
    cases ha : aft F i k
    · exact .inl rfl
    · exact .inr ((h6 i hi).1 k hk ha)

/-- All tasks after which a task comes have begun. -/
def frOk (F b : List Int) (i : Nat) : Nat → Bool
  | 0 => true
  | k + 1 => frOk F b i k && (!aft F i k || decide (0 ≤ b.getD k 0))
theorem frOk_iff {F b : List Int} {i : Nat} : ∀ {n : Nat}, frOk F b i n = true ↔ ∀ k, k < n → aft F i k = true → 0 ≤ b.getD k 0
  | 0 => by simp [frOk]
  | n + 1 => by
    simp only [frOk, Bool.and_eq_true, frOk_iff (n := n), Bool.or_eq_true, Bool.not_eq_true', decide_eq_true_eq]
    constructor
    · rintro ⟨h1, h2⟩ k hk ha
      by_cases e : k = n
      · subst e
        rcases h2 with h | h
        · rw [ha] at h; cases h
        · exact h
      · exact h1 k (by omega) ha
    · intro h
      refine ⟨fun k hk ha => h k (by omega) ha, ?_⟩
      cases ha : aft F i n
      · exact .inl rfl
      · exact .inr (h n (by omega) ha)
/-- A hand is free as long as the task lasts (so many times on). -/
def freeN (L b : List Int) (h : Int) (t : Int) : Nat → Bool
  | 0 => true
  | k + 1 => freeN L b h t k && decide ((busyN L b (t + k) : Int) < h)
theorem freeN_iff {L b : List Int} {h t : Int} : ∀ {n : Nat}, freeN L b h t n = true ↔ ∀ k : Nat, k < n → (busyN L b (t + k) : Int) < h
  | 0 => by simp [freeN]
  | n + 1 => by
    simp only [freeN, Bool.and_eq_true, freeN_iff (n := n), decide_eq_true_eq]
    constructor
    · rintro ⟨h1, h2⟩ k hk
      by_cases e : k = n
      · subst e; exact h2
      · exact h1 k (by omega)
    · intro hh
      exact ⟨fun k hk => hh k (by omega), hh n (by omega)⟩
def freeAt (L b : List Int) (h : Int) (i : Nat) (t : Int) : Bool := freeN L b h t (L.getD i 0).toNat
/-- The least time from t on at which a hand is free. -/
def findT (L b : List Int) (h : Int) (i : Nat) : Nat → Int → Int
  | 0, t => t
  | f + 1, t => if freeAt L b h i t then t else findT L b h i f (t + 1)
theorem findT_ge (L b : List Int) (h : Int) (i : Nat) : ∀ f t, t ≤ findT L b h i f t ∧ findT L b h i f t ≤ t + f
  | 0, t => by simp [findT]
  | f + 1, t => by
    simp only [findT]
    split
    · omega
    · have := findT_ge L b h i f (t + 1); omega
theorem findT_free {L b : List Int} {h : Int} {i : Nat} : ∀ {f : Nat} {t u : Int}, t ≤ u → u ≤ t + f → freeAt L b h i u = true → freeAt L b h i (findT L b h i f t) = true ∧ findT L b h i f t ≤ u
  | 0, t, u, h1, h2, h3 => by
    have e : u = t := by omega
    subst e
    exact ⟨h3, Int.le_refl _⟩
  | f + 1, t, u, h1, h2, h3 => by
    simp only [findT]
    split
    · rename_i hf
      exact ⟨hf, h1⟩
    · rename_i hf
      have hne : t ≠ u := fun e => hf (e ▸ h3)
      exact findT_free (by omega) (by omega) h3

/-- The first task of an order that may begin does so. -/
def stepBy (L F : List Int) (h : Int) (b : List Int) : List Int → List Int
  | [] => b
  | v :: os => if b.getD v.toNat 0 = -1 ∧ frOk F b v.toNat v.toNat = true then b.set v.toNat (findT L b h v.toNat 200 (erl L F b v.toNat v.toNat)) else stepBy L F h b os
def runBy (L F : List Int) (h : Int) (order : List Int) : Nat → List Int → List Int
  | 0, b => b
  | k + 1, b => runBy L F h order k (stepBy L F h b order)
def noneB (n : Nat) : List Int := List.replicate n (-1)
def beginsBy (L F : List Int) (h : Int) (order : List Int) : List Int := runBy L F h order order.length (noneB L.length)
/-- An order of all tasks. -/
def IsOrder (n : Nat) (order : List Int) : Prop := order.length = n ∧ order.Nodup ∧ ∀ v ∈ order, 0 ≤ v ∧ v < n

theorem getD_set {b : List Int} {i j : Nat} {v : Int} (hi : i < b.length) : (b.set i v).getD j 0 = if j = i then v else b.getD j 0 := by
  rw [List.getD_eq_getElem?_getD, List.getD_eq_getElem?_getD]
  by_cases e : j = i
  · subst e; rw [List.getElem?_set_self hi, if_pos rfl]; rfl
  · rw [List.getElem?_set_ne (fun x => e x.symm), if_neg e]
theorem getD_none {n i : Nat} (h : i < n) : (noneB n).getD i 0 = -1 := by
  unfold noneB
  rw [List.getD_eq_getElem?_getD, List.getElem?_replicate, if_pos h]; rfl
theorem cnt_zero {f : Nat → Bool} : ∀ {n : Nat}, (∀ k, k < n → f k = false) → cnt f n = 0
  | 0, _ => rfl
  | n + 1, h => by simp only [cnt]; rw [cnt_zero (fun k hk => h k (by omega)), h n (by omega)]; rfl
theorem cnt_all {f : Nat → Bool} : ∀ {n : Nat}, cnt f n = n → ∀ k, k < n → f k = true
  | n + 1, h, k, hk => by
    simp only [cnt] at h
    have hb := cnt_bound f n
    have hn : f n = true := by
      cases e : f n
      · rw [e] at h; simp at h; omega
      · rfl
    rw [hn] at h
    simp at h
    by_cases e : k = n
    · subst e; exact hn
    · exact cnt_all h k (by omega)
theorem cnt_some {f : Nat → Bool} : ∀ {n : Nat}, cnt f n < n → ∃ k, k < n ∧ f k = false
  | n + 1, h => by
    simp only [cnt] at h
    by_cases e : f n = true
    · rw [if_pos e] at h
      obtain ⟨k, hk, hf⟩ := cnt_some (f := f) (n := n) (by omega)
      exact ⟨k, by omega, hf⟩
    · exact ⟨n, by omega, by simpa using e⟩
theorem cnt_one {f g : Nat → Bool} {i : Nat} (hf : f i = false) (hg : g i = true) : ∀ {n : Nat}, i < n → (∀ k, k < n → k ≠ i → f k = g k) → cnt g n = cnt f n + 1
  | n + 1, hi, h => by
    simp only [cnt]
    by_cases e : i = n
    · subst e
      have h1 : ∀ {m : Nat}, m ≤ i → cnt g m = cnt f m := by
        intro m
        induction m with
        | zero => intro _; rfl
        | succ m ih => intro hm; simp only [cnt]; rw [ih (by omega), h m (by omega) (by omega)]
      rw [h1 (Nat.le_refl _), hf, hg]
      simp
    · rw [cnt_one hf hg (n := n) (by omega) (fun k hk => h k (by omega)), h n (by omega) (fun x => e x.symm)]
      omega
def begun (b : List Int) (i : Nat) : Bool := decide (0 ≤ b.getD i 0)
/-- What holds of begins that are being made, of so many tasks. -/
structure Made (L F : List Int) (h : Int) (m : Nat) (b : List Int) : Prop where
  len : b.length = L.length
  num : cnt (begun b) b.length = m
  val : ∀ i, i < b.length → b.getD i 0 = -1 ∨ (0 ≤ b.getD i 0 ∧ b.getD i 0 + L.getD i 0 ≤ 20 * (m : Int))
  pre : ∀ i, i < b.length → 0 ≤ b.getD i 0 → ∀ k, k < i → aft F i k = true → 0 ≤ b.getD k 0 ∧ b.getD k 0 + L.getD k 0 ≤ b.getD i 0
  few : ∀ t, (busyN L b t : Int) ≤ h
theorem made_none {L F : List Int} {h : Int} (h0 : 0 ≤ h) : Made L F h 0 (noneB L.length) := by
  have hl : (noneB L.length).length = L.length := by simp [noneB]
  refine ⟨hl, cnt_zero (fun k hk => ?_), fun i hi => .inl (getD_none (by omega)), fun i hi hb => ?_, fun t => ?_⟩
  · unfold begun; rw [getD_none (by omega)]; rfl
  · rw [getD_none (by omega)] at hb; omega
  · have : busyN L (noneB L.length) t = 0 := cnt_zero (fun k hk => by
      unfold isBusy
      rw [getD_none (by omega)]
      simp)
    omega
section
variable {L F : List Int} {h : Int} {m i : Nat} {b : List Int}
theorem Made.late (hM : Made L F h m b) (h1 : 1 ≤ h) (k : Nat) : (busyN L b (20 * (m : Int) + k) : Int) < h := by
  have : busyN L b (20 * (m : Int) + k) = 0 := cnt_zero (fun j hj => by
    have := hM.val j hj
    exact decide_eq_false (fun ⟨h1, h2, h3⟩ => by rcases this with e | e <;> omega))
  omega
theorem made_set (hp : projOk L F = true) (hM : Made L F h m b) (h1 : 1 ≤ h) (hm : m < 6) (hi : i < b.length) (hb : b.getD i 0 = -1) (hf : frOk F b i i = true) :
    Made L F h (m + 1) (b.set i (findT L b h i 200 (erl L F b i i))) ∧ 0 ≤ findT L b h i 200 (erl L F b i i) ∧ erl L F b i i ≤ findT L b h i 200 (erl L F b i i) ∧ ∀ u, erl L F b i i ≤ u → u ≤ 120 → freeAt L b h i u = true → findT L b h i 200 (erl L F b i i) ≤ u := by
  have hLi := long_at hp (show i < L.length by rw [← hM.len]; exact hi)
  have hfr := frOk_iff.1 hf
  have e0 := erl_nonneg L F b i i
  have e1 : erl L F b i i ≤ 20 * (m : Int) := erl_le (by omega) (fun k hk ha => by
    have := hM.val k (by omega)
    have := hfr k hk ha
    omega)
  have hfree : freeAt L b h i (20 * (m : Int)) = true := freeN_iff.2 (fun k _ => hM.late h1 k)
  obtain ⟨g1, g2⟩ := findT_free (f := 200) e1 (by omega) hfree
  have g3 := (findT_ge L b h i 200 (erl L F b i i)).1
  obtain ⟨v, hv⟩ : ∃ v, findT L b h i 200 (erl L F b i i) = v := ⟨_, rfl⟩
  rw [hv] at g1 g2 g3 ⊢
  have hlen : (b.set i v).length = b.length := List.length_set
  have hat : ∀ j, (b.set i v).getD j 0 = if j = i then v else b.getD j 0 := fun j => getD_set hi
  refine ⟨⟨by rw [hlen]; exact hM.len, ?_, fun j hj => ?_, fun j hj hbj k hk ha => ?_, fun t => ?_⟩, by omega, g3, fun u h2 h3 h4 => ?_⟩
  · rw [hlen, cnt_one (f := begun b) (g := begun (b.set i v)) (i := i) (by unfold begun; rw [hb]; rfl) (by unfold begun; rw [hat, if_pos rfl]; simp; omega) hi (fun k _ hk => by unfold begun; rw [hat, if_neg hk]), hM.num]
  · rw [hat]
    split
    · rename_i e
      subst e
      exact .inr ⟨by omega, by omega⟩
    · have := hM.val j (by omega)
      omega
  · rw [hat] at hbj ⊢
    rw [hat]
    by_cases ej : j = i
    · subst ej
      rw [if_neg (by omega), if_pos rfl]
      have := erl_ge (L := L) (e := b) hk ha
      exact ⟨hfr k hk ha, by omega⟩
    · rw [if_neg ej] at hbj ⊢
      have := hM.pre j (by omega) hbj k hk ha
      have : k ≠ i := fun e => by subst e; omega
      rw [if_neg this]
      assumption
  · have hset := cnt_set (f := isBusy L b t) (g := isBusy L (b.set i v) t) (i := i) (n := b.length) (fun k _ hk => by unfold isBusy; rw [hat, if_neg hk])
    unfold busyN
    rw [hlen]
    have hfew := hM.few t
    unfold busyN at hfew
    by_cases hb2 : isBusy L (b.set i v) t i = true
    · rw [if_pos hb2] at hset
      unfold isBusy at hb2
      rw [hat, if_pos rfl, decide_eq_true_eq] at hb2
      have := freeN_iff.1 g1 (t - v).toNat (by omega)
      rw [show v + ((t - v).toNat : Int) = t by omega] at this
      unfold busyN at this
      omega
    · rw [if_neg hb2] at hset
      omega
  · have := (findT_free (L := L) (b := b) (h := h) (i := i) (f := 200) h2 (by omega) h4).2
    omega
/-- Who may begin. -/
def elig (F b : List Int) (v : Int) : Prop := b.getD v.toNat 0 = -1 ∧ frOk F b v.toNat v.toNat = true
theorem stepBy_first (L F : List Int) (h : Int) (b : List Int) : ∀ {order : List Int}, (∃ v ∈ order, elig F b v) → ∃ v pre post, order = pre ++ v :: post ∧ (∀ u ∈ pre, ¬ elig F b u) ∧ elig F b v ∧ stepBy L F h b order = b.set v.toNat (findT L b h v.toNat 200 (erl L F b v.toNat v.toNat))
  | [], ⟨v, hv, _⟩ => by simp at hv
  | w :: os, hex => by
    by_cases hw : elig F b w
    · exact ⟨w, [], os, rfl, by simp, hw, by simp only [stepBy]; exact if_pos hw⟩
    · obtain ⟨v, hv, he⟩ := hex
      have hv2 : v ∈ os := by
        rcases List.mem_cons.1 hv with e | e
        · subst e; exact absurd he hw
        · exact e
      obtain ⟨u, pre, post, e1, e2, e3, e4⟩ := stepBy_first L F h b (order := os) ⟨v, hv2, he⟩
      refine ⟨u, w :: pre, post, by rw [e1]; rfl, fun x hx => ?_, e3, by simp only [stepBy]; exact (if_neg hw).trans e4⟩
      rcases List.mem_cons.1 hx with e | e
      · subst e; exact hw
      · exact e2 x e
theorem elig_some (hM : Made L F h m b) (hm : m < b.length) : ∃ i, i < b.length ∧ b.getD i 0 = -1 ∧ frOk F b i i = true := by
  obtain ⟨k, hk, hf⟩ := cnt_some (f := begun b) (n := b.length) (by rw [hM.num]; exact hm)
  -- the least one
  have key : ∀ n, (∃ k, k < n ∧ k < b.length ∧ begun b k = false) → ∃ k, k < b.length ∧ begun b k = false ∧ ∀ j, j < k → begun b j = true := by
    intro n
    induction n with
    | zero => rintro ⟨k, h, _⟩; omega
    | succ n ih =>
      rintro ⟨k, h1, h2, h3⟩
      by_cases hex : ∃ k, k < n ∧ k < b.length ∧ begun b k = false
      · exact ih hex
      · refine ⟨k, h2, h3, fun j hj => ?_⟩
        cases e : begun b j
        · exact absurd ⟨j, by omega, by omega, e⟩ hex
        · rfl
  obtain ⟨i, hi, h1, h2⟩ := key b.length ⟨k, hk, hk, hf⟩
  refine ⟨i, hi, ?_, frOk_iff.2 (fun j hj _ => ?_)⟩
  · have := hM.val i hi
    have h3 := of_decide_eq_false h1
    rcases this with e | e
    · exact e
    · exact absurd e.1 h3
  · exact of_decide_eq_true (h2 j hj)
end
theorem order_mem {n : Nat} {order : List Int} (ho : IsOrder n order) {i : Nat} (hi : i < n) : (i : Int) ∈ order := by
  obtain ⟨h1, h2, h3⟩ := ho
  apply Classical.byContradiction
  intro hno
  have hsub : order.Nodup ∧ ∀ v ∈ (i : Int) :: order, 0 ≤ v ∧ v < n := ⟨h2, fun v hv => by
    rcases List.mem_cons.1 hv with e | e
    · subst e; omega
    · exact h3 v e⟩
  have hnd : ((i : Int) :: order).Nodup := List.nodup_cons.2 ⟨hno, h2⟩
  have key : ∀ (n : Nat) (l : List Int), l.Nodup → (∀ x ∈ l, 0 ≤ x ∧ x < n) → l.length ≤ n := by
    intro n
    induction n with
    | zero =>
      intro l _ h
      cases l with
      | nil => exact Nat.le_refl _
      | cons a l => have := h a (by simp); omega
    | succ n ih =>
      intro l hd h
      by_cases hm : (n : Int) ∈ l
      · have h1 := ih (l.erase n) (hd.erase _) (fun x hx => by
          have h2 := (hd.mem_erase_iff).1 hx
          have := h x h2.2
          have := h2.1
          omega)
        rw [List.length_erase_of_mem hm] at h1
        omega
      · exact Nat.le_succ_of_le (ih l hd (fun x hx => by
          have := h x hx
          have : x ≠ n := fun e => hm (e ▸ hx)
          omega))
  have := key n _ hnd hsub.2
  simp at this
  omega
theorem run_made {L F : List Int} {h : Int} {order : List Int} (hp : projOk L F = true) (h1 : 1 ≤ h) (ho : IsOrder L.length order) : ∀ (k m : Nat) (b : List Int), Made L F h m b → m + k ≤ L.length → Made L F h (m + k) (runBy L F h order k b)
  | 0, m, b, hM, _ => hM
  | k + 1, m, b, hM, hk => by
    simp only [runBy]
    have hl := hM.len
    have h6 := (projOk_iff.1 hp).1
    obtain ⟨i, hi, hb, hf⟩ := elig_some hM (by omega)
    obtain ⟨v, _, _, _, _, he, e⟩ := stepBy_first L F h b (order := order) ⟨(i : Int), order_mem ho (by omega), by unfold elig; rw [Int.toNat_natCast]; exact ⟨hb, hf⟩⟩
    rw [e]
    have hv : v.toNat < b.length := by
      apply Classical.byContradiction
      intro hno
      have := he.1
      rw [List.getD_eq_getElem?_getD, List.getElem?_eq_none (by omega)] at this
      simp at this
    have hM2 := (made_set hp hM h1 (by omega) hv he.1 he.2).1
    have := run_made hp h1 ho k (m + 1) _ hM2 (by omega)
    rw [show m + (k + 1) = m + 1 + k by omega]
    exact this
theorem by_made {L F : List Int} {h : Int} {order : List Int} (hp : projOk L F = true) (h1 : 1 ≤ h) (ho : IsOrder L.length order) : Made L F h L.length (beginsBy L F h order) := by
  have := run_made hp h1 ho order.length 0 _ (made_none (by omega)) (by rw [ho.1]; omega)
  unfold beginsBy
  rw [ho.1]
  rwa [Nat.zero_add, ho.1] at this
theorem Made.all {L F : List Int} {h : Int} {b : List Int} (hp : projOk L F = true) (hM : Made L F h L.length b) {i : Nat} (hi : i < L.length) : 0 ≤ b.getD i 0 ∧ b.getD i 0 + L.getD i 0 ≤ 120 := by
  have h6 := (projOk_iff.1 hp).1
  have hl := hM.len
  have h1 := cnt_all (f := begun b) (n := b.length) (by rw [hM.num, hl]) i (by omega)
  unfold begun at h1
  rw [decide_eq_true_eq] at h1
  have := hM.val i (by omega)
  omega
/-- Begins by an order are right. -/
theorem by_ok {L F : List Int} {h : Int} {order : List Int} (hp : projOk L F = true) (h1 : 1 ≤ h ∧ h ≤ 3) (ho : IsOrder L.length order) : beginsOk L F h (beginsBy L F h order) = true := by
  have hM := by_made hp h1.1 ho
  have hl := hM.len
  refine beginsOk_iff.2 ⟨hp, hl, fun v hv => ?_, h1, fun i hi => ⟨fun k hk ha => (hM.pre i hi (hM.all hp (by omega)).1 k hk ha).2, hM.few _⟩⟩
  obtain ⟨i, hi, e⟩ := List.getElem_of_mem hv
  have a := hM.all hp (show i < L.length by omega)
  have c := long_at hp (show i < L.length by omega)
  have ev : (beginsBy L F h order).getD i 0 = v := by rw [List.getD_eq_getElem?_getD, List.getElem?_eq_getElem hi, e]; rfl
  rw [ev] at a
  omega

/-- The tasks, by their begins. -/
def byBegin (n : Nat) (b : List Int) : List Int := ((List.range n).map (fun (i : Nat) => (i : Int))).mergeSort (fun i j => decide (b.getD i.toNat 0 ≤ b.getD j.toNat 0))
theorem range_order (n : Nat) : IsOrder n ((List.range n).map (fun (i : Nat) => (i : Int))) := by
  refine ⟨by simp, ?_, fun v hv => ?_⟩
  · unfold List.Nodup
    rw [List.pairwise_map]
    refine List.Pairwise.imp ?_ (List.nodup_range (n := n))
    intro a b h e
    exact h (by omega)
  · obtain ⟨i, hi, rfl⟩ := List.mem_map.1 hv
    rw [List.mem_range] at hi
    omega
theorem order_perm {n : Nat} {a b : List Int} (h : a.Perm b) (ha : IsOrder n a) : IsOrder n b :=
  ⟨by rw [← h.length_eq]; exact ha.1, h.nodup_iff.1 ha.2.1, fun v hv => ha.2.2 v (h.mem_iff.2 hv)⟩
theorem byBegin_order (n : Nat) (b : List Int) : IsOrder n (byBegin n b) := order_perm (List.mergeSort_perm _ _).symm (range_order n)
theorem byBegin_sorted (n : Nat) (b : List Int) : (byBegin n b).Pairwise (fun i j => b.getD i.toNat 0 ≤ b.getD j.toNat 0) := by
  have h := List.pairwise_mergeSort (le := fun (i j : Int) => decide (b.getD i.toNat 0 ≤ b.getD j.toNat 0)) (fun a b c h1 h2 => by simp at h1 h2 ⊢; omega) (fun a b => by simp; omega) ((List.range n).map (fun (i : Nat) => (i : Int)))
  exact h.imp (fun h => by simpa using h)
section
variable {L F : List Int} {h : Int} {b : List Int}
/-- Behind so many steps: the first ones of the order have begun, none later than in the right begins. -/
structure Ser (L F : List Int) (h : Int) (b order : List Int) (m : Nat) (s : List Int) : Prop where
  made : Made L F h m s
  yes : ∀ j, j < m → ∀ v, order[j]? = some v → 0 ≤ s.getD v.toNat 0 ∧ s.getD v.toNat 0 ≤ b.getD v.toNat 0
  no : ∀ j, m ≤ j → ∀ v, order[j]? = some v → s.getD v.toNat 0 = -1
theorem ser_step (hb : beginsOk L F h b = true) {m : Nat} {s : List Int} (hm : m < L.length) (hS : Ser L F h b (byBegin L.length b) m s) : Ser L F h b (byBegin L.length b) (m + 1) (stepBy L F h s (byBegin L.length b)) := by
  obtain ⟨hp, hlen, hbv, hh, hbi⟩ := beginsOk_iff.1 hb
  have h6 := (projOk_iff.1 hp).1
  have ho := byBegin_order L.length b
  have hs := byBegin_sorted L.length b
  obtain ⟨order, hor⟩ : ∃ order, byBegin L.length b = order := ⟨_, rfl⟩
  rw [hor] at ho hs hS ⊢
  obtain ⟨o1, o2, o3⟩ := ho
  have hml : m < order.length := by omega
  have hx := List.getElem?_eq_getElem hml
  obtain ⟨v, hv⟩ : ∃ v, order[m] = v := ⟨_, rfl⟩
  rw [hv] at hx
  have hv0 := o3 v (List.mem_of_getElem? hx)
  obtain ⟨i, rfl⟩ := Int.eq_ofNat_of_zero_le hv0.1
  have hi : i < L.length := by omega
  have hsl := hS.made.len
  have hat : ∀ k, k < L.length → ∃ j, order[j]? = some (k : Int) := fun k hk => List.getElem?_of_mem (order_mem ⟨o1, o2, o3⟩ hk)
  have hsort : ∀ (j1 j2 : Nat) (a c : Int), j1 < j2 → order[j1]? = some a → order[j2]? = some c → b.getD a.toNat 0 ≤ b.getD c.toNat 0 := by
    intro j1 j2 a c hj h1 h2
    obtain ⟨l1, e1⟩ := List.getElem?_eq_some_iff.1 h1
    obtain ⟨l2, e2⟩ := List.getElem?_eq_some_iff.1 h2
    have := List.pairwise_iff_getElem.1 hs j1 j2 l1 l2 hj
    rw [e1, e2] at this
    exact this
  -- who has begun, is ahead in the order
  have hbeg : ∀ k, k < L.length → 0 ≤ s.getD k 0 → ∃ j, j < m ∧ order[j]? = some (k : Int) := by
    intro k hk h0
    obtain ⟨j, hj⟩ := hat k hk
    refine ⟨j, ?_, hj⟩
    apply Classical.byContradiction
    intro hno
    have := hS.no j (by omega) _ hj
    rw [Int.toNat_natCast] at this
    omega
  have hle : ∀ k, k < L.length → 0 ≤ s.getD k 0 → s.getD k 0 ≤ b.getD k 0 ∧ b.getD k 0 ≤ b.getD i 0 := by
    intro k hk h0
    obtain ⟨j, hj, e⟩ := hbeg k hk h0
    have h1 := (hS.yes j hj _ e).2
    have h2 := hsort j m _ _ hj e hx
    rw [Int.toNat_natCast] at h1 h2
    rw [Int.toNat_natCast] at h2
    exact ⟨h1, h2⟩
  have hi1 : s.getD i 0 = -1 := by
    have := hS.no m (Nat.le_refl _) _ hx
    rwa [Int.toNat_natCast] at this
  obtain ⟨hpre, hfew⟩ := hbi i (by omega)
  have hfr : frOk F s i i = true := frOk_iff.2 (fun k hk ha => by
    have h1 := hpre k hk ha
    have h2 := long_at hp (show k < L.length by omega)
    obtain ⟨j, hj⟩ := hat k (by omega)
    have hjm : j < m := by
      apply Classical.byContradiction
      intro hno
      by_cases e : j = m
      · subst e
        rw [hx] at hj
        have := Option.some.inj hj
        omega
      · have := hsort m j _ _ (by omega) hx hj
        rw [Int.toNat_natCast, Int.toNat_natCast] at this
        omega
    have := (hS.yes j hjm _ hj).1
    rwa [Int.toNat_natCast] at this)
  have hel : elig F s (i : Int) := by unfold elig; rw [Int.toNat_natCast]; exact ⟨hi1, hfr⟩
  -- the step takes it
  obtain ⟨u, pre, post, e1, e2, e3, e4⟩ := stepBy_first L F h s (order := order) ⟨(i : Int), List.mem_of_getElem? hx, hel⟩
  have hu : u = (i : Int) := by
    have hpu : order[pre.length]? = some u := by rw [e1]; simp
    rcases Nat.lt_trichotomy pre.length m with c | c | c
    · have := (hS.yes _ c _ hpu).1
      have := e3.1
      omega
    · rw [c, hx] at hpu
      exact (Option.some.inj hpu).symm
    · exfalso
      have : (i : Int) ∈ pre := by
        have h1 : order[m]? = pre[m]? := by rw [e1, List.getElem?_append_left c]
        rw [hx] at h1
        exact List.mem_of_getElem? h1.symm
      exact e2 _ this hel
  subst hu
  rw [e4]
  rw [Int.toNat_natCast]
  obtain ⟨q1, q2, q3, q4⟩ := made_set hp hS.made hh.1 (by omega) (show i < s.length by omega) hi1 hfr
  obtain ⟨t, ht⟩ : ∃ t, findT L s h i 200 (erl L F s i i) = t := ⟨_, rfl⟩
  rw [ht] at q1 q2 q3 q4 ⊢
  have hLi := long_at hp hi
  have hb0 : 0 ≤ b.getD i 0 ∧ b.getD i 0 ≤ 2000 := by
    rw [List.getD_eq_getElem?_getD, List.getElem?_eq_getElem (show i < b.length by omega)]
    exact hbv _ (List.getElem_mem _)
  have hfree : freeAt L s h i (b.getD i 0) = true := by
    refine freeN_iff.2 (fun k hk => ?_)
    have hk2 : (k : Int) < L.getD i 0 := by omega
    have := cnt_lt (f := isBusy L s (b.getD i 0 + k)) (g := isBusy L b (b.getD i 0)) (i := i) (n := b.length) (decide_eq_false (fun ⟨c, _⟩ => by rw [hi1] at c; omega)) (decide_eq_true ⟨hb0.1, Int.le_refl _, by omega⟩) (by omega) (fun j hj hbz => by
      obtain ⟨c1, c2, c3⟩ := of_decide_eq_true hbz
      obtain ⟨d1, d2⟩ := hle j (by omega) c1
      refine decide_eq_true ⟨by omega, d2, by omega⟩)
    unfold busyN at hfew ⊢
    rw [hsl, ← hlen]
    omega
  have htb : t ≤ b.getD i 0 := by
    by_cases hc : b.getD i 0 ≤ 120
    · refine q4 _ (erl_le hb0.1 (fun k hk ha => ?_)) hc hfree
      have h1 := hpre k hk ha
      have h2 := hle k (by omega) (frOk_iff.1 hfr k hk ha)
      omega
    · have := q1.val i (by rw [List.length_set]; omega)
      rw [getD_set (show i < s.length by omega), if_pos rfl] at this
      omega
  have hget : ∀ j, (s.set i t).getD j 0 = if j = i then t else s.getD j 0 := fun j => getD_set (show i < s.length by omega)
  have hinj : ∀ (j : Nat) (w : Int), order[j]? = some w → w.toNat = i → j = m := by
    intro j w hj hw
    have h0 := o3 w (List.mem_of_getElem? hj)
    have hwi : w = (i : Int) := by omega
    subst hwi
    obtain ⟨l1, e1⟩ := List.getElem?_eq_some_iff.1 hj
    exact (List.getElem_inj o2).1 (e1.trans hv.symm)
  refine ⟨q1, fun j hj w hw => ?_, fun j hj w hw => ?_⟩
  · rw [hget]
    by_cases e : w.toNat = i
    · rw [if_pos e, e]; exact ⟨q2, htb⟩
    · rw [if_neg e]
      refine hS.yes j ?_ w hw
      apply Classical.byContradiction
      intro hno
      have hjm : j = m := by omega
      subst hjm
      rw [hx] at hw
      have := Option.some.inj hw
      subst this
      exact e (Int.toNat_natCast _)
  · rw [hget, if_neg (fun e => by have := hinj j w hw e; omega)]
    exact hS.no j (by omega) w hw
theorem ser_run (hb : beginsOk L F h b = true) : ∀ (k m : Nat) (s : List Int), m + k = L.length → Ser L F h b (byBegin L.length b) m s → Ser L F h b (byBegin L.length b) L.length (runBy L F h (byBegin L.length b) k s)
  | 0, m, s, hm, hS => by
    have e : m = L.length := by omega
    subst e
    exact hS
  | k + 1, m, s, hm, hS => by
    simp only [runBy]
    exact ser_run hb k (m + 1) _ (by omega) (ser_step hb (by omega) hS)
/-- Begins by some order end no later than any right ones. -/
theorem by_best (hb : beginsOk L F h b = true) : IsOrder L.length (byBegin L.length b) ∧ endOf L (beginsBy L F h (byBegin L.length b)) ≤ endOf L b := by
  obtain ⟨hp, hlen, hbv, hh, hbi⟩ := beginsOk_iff.1 hb
  have ho := byBegin_order L.length b
  refine ⟨ho, ?_⟩
  have hS0 : Ser L F h b (byBegin L.length b) 0 (noneB L.length) := ⟨made_none (by omega), fun j hj => by omega, fun j _ v hv => by
    have := ho.2.2 v (List.mem_of_getElem? hv)
    exact getD_none (by omega)⟩
  have hS := ser_run hb L.length 0 _ (by omega) hS0
  have e : runBy L F h (byBegin L.length b) L.length (noneB L.length) = beginsBy L F h (byBegin L.length b) := by unfold beginsBy; rw [ho.1]
  rw [e] at hS
  refine endTo_le (endTo_nonneg _ _ _) (fun k hk => ?_)
  obtain ⟨j, hj⟩ := List.getElem?_of_mem (order_mem ho hk)
  have hjl := (List.getElem?_eq_some_iff.1 hj).1
  have h1 := (hS.yes j (by have := ho.1; omega) _ hj).2
  rw [Int.toNat_natCast] at h1
  have h2 := endTo_ge L b hk
  omega
end

/-! ### all work -/
def work (L : List Int) : Nat → Int
  | 0 => 0
  | k + 1 => work L k + L.getD k 0
def sumT (f : Int → Nat) : Nat → Nat
  | 0 => 0
  | t + 1 => sumT f t + f t
theorem sumT_le {f : Int → Nat} {c : Nat} : ∀ {n : Nat}, (∀ t : Nat, t < n → f t ≤ c) → sumT f n ≤ c * n
  | 0, _ => Nat.zero_le _
  | n + 1, h => by
    simp only [sumT]
    have := sumT_le (n := n) (fun t ht => h t (by omega))
    have := h n (by omega)
    rw [Nat.mul_succ]; omega
theorem sumT_add (f g : Int → Nat) : ∀ n, sumT (fun t => f t + g t) n = sumT f n + sumT g n
  | 0 => rfl
  | n + 1 => by simp only [sumT]; rw [sumT_add f g n]; omega
theorem sumT_zero : ∀ n, sumT (fun _ => 0) n = 0
  | 0 => rfl
  | n + 1 => by simp only [sumT]; rw [sumT_zero n]
/-- One task is being done as long as it lasts. -/
theorem sumT_one (a l : Nat) : ∀ n, sumT (fun t => if decide ((a : Int) ≤ t ∧ t < (a : Int) + l) then 1 else 0) n = min n (a + l) - min n a
  | 0 => by simp [sumT]
  | n + 1 => by
    simp only [sumT]
    rw [sumT_one a l n]
    by_cases h : (a : Int) ≤ (n : Int) ∧ (n : Int) < (a : Int) + l
    · rw [decide_eq_true h]; simp; omega
    · rw [decide_eq_false h]; simp; omega
theorem sumT_congr {f g : Int → Nat} : ∀ {n : Nat}, (∀ t : Nat, t < n → f t = g t) → sumT f n = sumT g n
  | 0, _ => rfl
  | n + 1, h => by simp only [sumT]; rw [sumT_congr (fun t ht => h t (by omega)), h n (by omega)]
/-- All that is done, up to the end, is all work. -/
theorem sum_busy {L b : List Int} {E : Nat} : ∀ {n : Nat}, (∀ k, k < n → 0 ≤ L.getD k 0 ∧ 0 ≤ b.getD k 0 ∧ b.getD k 0 + L.getD k 0 ≤ E) → ((sumT (fun t => cnt (isBusy L b t) n) E : Nat) : Int) = work L n
  | 0, _ => by simp only [cnt, work]; rw [sumT_zero]; rfl
  | n + 1, h => by
    simp only [cnt, work]
    rw [sumT_add]
    have ih := sum_busy (L := L) (b := b) (E := E) (n := n) (fun k hk => h k (by omega))
    obtain ⟨h1, h2, h3⟩ := h n (by omega)
    obtain ⟨l, hl⟩ := Int.eq_ofNat_of_zero_le h1
    obtain ⟨a, ha⟩ := Int.eq_ofNat_of_zero_le h2
    have e : sumT (fun t => if isBusy L b t n = true then 1 else 0) E = l := by
      have e1 : sumT (fun t => if isBusy L b t n = true then 1 else 0) E = sumT (fun t => if decide ((a : Int) ≤ t ∧ t < (a : Int) + l) then 1 else 0) E := sumT_congr (fun t _ => by
        unfold isBusy
        rw [ha, hl]
        simp)
      rw [e1, sumT_one a l E]
      omega
    rw [e, hl, Int.natCast_add, ih]
/-- Where begins are right, no more than all hands are taken at any time. -/
theorem few_all {L F : List Int} {h : Int} {b : List Int} (hb : beginsOk L F h b = true) (t : Int) : (busyN L b t : Int) ≤ h := by
  obtain ⟨hp, hlen, hbv, hh, hbi⟩ := beginsOk_iff.1 hb
  -- the one that has begun last, of those that are being done
  have key : ∀ n, n ≤ b.length → (∀ k, k < n → isBusy L b t k = false) ∨ ∃ i, i < n ∧ isBusy L b t i = true ∧ ∀ k, k < n → isBusy L b t k = true → b.getD k 0 ≤ b.getD i 0 := by
    intro n
    induction n with
    | zero => exact fun _ => .inl (fun k hk => by omega)
    | succ n ih =>
      intro hn
      rcases ih (by omega) with h1 | ⟨i, h1, h2, h3⟩
      · by_cases e : isBusy L b t n = true
        · refine .inr ⟨n, by omega, e, fun k hk hbk => ?_⟩
          by_cases ek : k = n
          · subst ek; omega
          · have := h1 k (by omega); rw [hbk] at this; cases this
        · refine .inl (fun k hk => ?_)
          by_cases ek : k = n
          · subst ek; simpa using e
          · exact h1 k (by omega)
      · by_cases e : isBusy L b t n = true ∧ b.getD i 0 ≤ b.getD n 0
        · refine .inr ⟨n, by omega, e.1, fun k hk hbk => ?_⟩
          by_cases ek : k = n
          · subst ek; omega
          · have := h3 k (by omega) hbk; omega
        · refine .inr ⟨i, by omega, h2, fun k hk hbk => ?_⟩
          by_cases ek : k = n
          · subst ek
            apply Classical.byContradiction
            intro hno
            exact e ⟨hbk, by omega⟩
          · exact h3 k (by omega) hbk
  rcases key b.length (Nat.le_refl _) with h1 | ⟨i, h1, h2, h3⟩
  · have : busyN L b t = 0 := cnt_zero h1
    omega
  · have h4 := (hbi i h1).2
    have := cnt_le (f := isBusy L b t) (g := isBusy L b (b.getD i 0)) (n := b.length) (fun k hk hk2 => by
      obtain ⟨c1, c2, c3⟩ := of_decide_eq_true hk2
      obtain ⟨d1, d2, d3⟩ := of_decide_eq_true h2
      have := h3 k hk hk2
      exact decide_eq_true ⟨c1, this, by omega⟩)
    unfold busyN at h4 ⊢
    omega
/-- The hands, as long as it lasts, do all work. -/
theorem work_le {L F : List Int} {h : Int} {b : List Int} (hb : beginsOk L F h b = true) : work L L.length ≤ h * endOf L b := by
  obtain ⟨hp, hlen, hbv, hh, hbi⟩ := beginsOk_iff.1 hb
  have he := endTo_nonneg L b L.length
  obtain ⟨E, hE⟩ : ∃ E : Nat, endOf L b = (E : Int) := ⟨(endOf L b).toNat, by unfold endOf; omega⟩
  obtain ⟨hn, hhn⟩ : ∃ hn : Nat, h = (hn : Int) := ⟨h.toNat, by omega⟩
  have h1 := sum_busy (L := L) (b := b) (E := E) (n := L.length) (fun k hk => by
    have := long_at hp hk
    have h2 := endTo_ge L b hk
    have h3 : 0 ≤ b.getD k 0 := by
      rw [List.getD_eq_getElem?_getD, List.getElem?_eq_getElem (show k < b.length by omega)]
      exact (hbv _ (List.getElem_mem _)).1
    unfold endOf at hE
    omega)
  rw [← h1, hE, hhn]
  have h2 := sumT_le (f := fun t => cnt (isBusy L b t) L.length) (c := hn) (n := E) (fun t _ => by
    have := few_all hb (t : Int)
    unfold busyN at this
    rw [hlen] at this
    omega)
  rw [← Int.natCast_mul]
  exact Int.ofNat_le.2 h2
/-- The chain is done, too. -/
theorem early_le {L F : List Int} {h : Int} {b : List Int} (hb : beginsOk L F h b = true) : ∀ i, i < L.length → (early L F).getD i 0 ≤ b.getD i 0 := by
  obtain ⟨hp, hlen, hbv, hh, hbi⟩ := beginsOk_iff.1 hb
  intro i
  induction i using Nat.strongRecOn with
  | _ i ih =>
    intro hi
    rw [early_at hi]
    have h0 : 0 ≤ b.getD i 0 := by
      rw [List.getD_eq_getElem?_getD, List.getElem?_eq_getElem (show i < b.length by omega)]
      exact (hbv _ (List.getElem_mem _)).1
    refine erl_le h0 (fun k hk ha => ?_)
    have h1 := ih k hk (by omega)
    have h2 := (hbi i (by omega)).1 k hk ha
    omega
theorem len_le {L F : List Int} {h : Int} {b : List Int} (hb : beginsOk L F h b = true) : lenOf L F ≤ endOf L b := by
  refine endTo_le (endTo_nonneg _ _ _) (fun k hk => ?_)
  have h1 := early_le hb k hk
  have h2 := endTo_ge L b hk
  omega

/-! ### by an order: no longer than all work -/
def workB (L b : List Int) : Nat → Int
  | 0 => 0
  | k + 1 => workB L b k + (if begun b k then L.getD k 0 else 0)
theorem workB_set {L b : List Int} {i : Nat} {v : Int} (hi : i < b.length) (hb : b.getD i 0 = -1) (hv : 0 ≤ v) : ∀ {n : Nat}, workB L (b.set i v) n = workB L b n + (if i < n then L.getD i 0 else 0)
  | 0 => by simp [workB]
  | n + 1 => by
    simp only [workB]
    rw [workB_set hi hb hv (n := n)]
    by_cases e : i = n
    · subst e
      have h1 : begun (b.set i v) i = true := decide_eq_true (by rw [getD_set hi, if_pos rfl]; exact hv)
      have h2 : begun b i = false := decide_eq_false (by rw [hb]; omega)
      simp [h1, h2]
    · have h1 : begun (b.set i v) n = begun b n := by unfold begun; rw [getD_set hi, if_neg (fun x => e x.symm)]
      rw [h1]
      by_cases e2 : i < n
      · have e3 : i < n + 1 := by omega
        simp only [e2, e3, if_true]; omega
      · have e3 : ¬ i < n + 1 := by omega
        simp only [e2, e3, if_false]; omega
theorem workB_le {L b : List Int} {n : Nat} (hL : ∀ k, k < n → 0 ≤ L.getD k 0 ∧ L.getD k 0 ≤ 20) : ∀ {m : Nat}, m ≤ n → 0 ≤ workB L b m ∧ workB L b m ≤ 20 * (m : Int) ∧ workB L b m ≤ work L m
  | 0, _ => by simp [workB, work]
  | m + 1, hm => by
    simp only [workB, work]
    have := workB_le (b := b) hL (m := m) (by omega)
    have := hL m (by omega)
    split <;> omega
theorem by_sum {L F : List Int} {h : Int} {order : List Int} (hp : projOk L F = true) (h1 : 1 ≤ h) (ho : IsOrder L.length order) : endOf L (beginsBy L F h order) ≤ work L L.length := by
  have h6 := (projOk_iff.1 hp).1
  have hL : ∀ k, k < L.length → 0 ≤ L.getD k 0 ∧ L.getD k 0 ≤ 20 := fun k hk => by have := long_at hp hk; omega
  have key : ∀ (k m : Nat) (b : List Int), Made L F h m b → m + k ≤ L.length → (∀ i, i < L.length → 0 ≤ b.getD i 0 → b.getD i 0 + L.getD i 0 ≤ workB L b L.length) →
      ∀ i, i < L.length → 0 ≤ (runBy L F h order k b).getD i 0 → (runBy L F h order k b).getD i 0 + L.getD i 0 ≤ workB L (runBy L F h order k b) L.length := by
    intro k
    induction k with
    | zero => intro m b _ _ hS; exact hS
    | succ k ih =>
      intro m b hM hk hS
      simp only [runBy]
      have hl := hM.len
      obtain ⟨i, hi, hb, hf⟩ := elig_some hM (by omega)
      obtain ⟨v, _, _, _, _, he, e⟩ := stepBy_first L F h b (order := order) ⟨(i : Int), order_mem ho (by omega), by unfold elig; rw [Int.toNat_natCast]; exact ⟨hb, hf⟩⟩
      rw [e]
      have hv : v.toNat < b.length := by
        apply Classical.byContradiction
        intro hno
        have := he.1
        rw [List.getD_eq_getElem?_getD, List.getElem?_eq_none (by omega)] at this
        simp at this
      obtain ⟨hM2, q2, q3, q4⟩ := made_set hp hM h1 (by omega) hv he.1 he.2
      refine ih (m + 1) _ hM2 (by omega) ?_
      unfold elig at he
      generalize v.toNat = a at hv he q2 q3 q4 hM2
      obtain ⟨t, ht⟩ : ∃ t, findT L b h a 200 (erl L F b a a) = t := ⟨_, rfl⟩
      rw [ht] at q2 q3 q4 ⊢
      obtain ⟨w0, w1, w2⟩ := workB_le (b := b) hL (Nat.le_refl _)
      have hfree : freeAt L b h a (workB L b L.length) = true := freeN_iff.2 (fun j _ => by
        have : busyN L b (workB L b L.length + j) = 0 := cnt_zero (fun c hc => decide_eq_false (fun ⟨d1, d2, d3⟩ => by
          have := hS c (by omega) d1
          omega))
        omega)
      have htw : t ≤ workB L b L.length := q4 _ (erl_le w0 (fun c hc ha => hS c (by omega) (frOk_iff.1 he.2 c hc ha))) (by omega) hfree
      rw [workB_set hv he.1 q2, if_pos (by omega)]
      have hLa := hL a (by omega)
      intro j hj hbj
      rw [getD_set hv] at hbj ⊢
      by_cases ej : j = a
      · subst ej; rw [if_pos rfl]; omega
      · rw [if_neg ej] at hbj ⊢
        have := hS j hj hbj
        omega
  have h0 := key order.length 0 (noneB L.length) (made_none (by omega)) (by rw [ho.1]; omega) (fun i hi hb => by rw [getD_none hi] at hb; omega)
  have hM := by_made hp h1 ho
  refine endTo_le ?_ (fun k hk => ?_)
  · have := workB_le (b := noneB L.length) hL (Nat.le_refl _); omega
  · have h2 := h0 k hk (hM.all hp hk).1
    have h3 := (workB_le (b := runBy L F h order order.length (noneB L.length)) hL (Nat.le_refl _)).2.2
    unfold beginsBy
    omega
/-- With one hand there is nothing but work. -/
theorem by_one {L F : List Int} {order : List Int} (hp : projOk L F = true) (ho : IsOrder L.length order) : endOf L (beginsBy L F 1 order) = work L L.length := by
  have h1 := by_sum hp (h := 1) (by omega) ho
  have h2 := work_le (by_ok hp (h := 1) (by omega) ho)
  omega

/-! ### with as many hands as tasks -/
theorem erl_pre {L F e e' : List Int} {i : Nat} : ∀ {n : Nat}, (∀ k, k < n → aft F i k = true → e.getD k 0 = e'.getD k 0) → erl L F e i n = erl L F e' i n
  | 0, _ => rfl
  | n + 1, h => by
    simp only [erl]
    rw [erl_pre (fun k hk => h k (by omega))]
    split
    · rename_i ha; rw [h n (by omega) ha]
    · rfl
theorem by_many {L F : List Int} {h : Int} {order : List Int} (hp : projOk L F = true) (h1 : 1 ≤ h) (hn : (L.length : Int) ≤ h) (ho : IsOrder L.length order) : beginsBy L F h order = early L F := by
  have h6 := (projOk_iff.1 hp).1
  have key : ∀ (k m : Nat) (b : List Int), Made L F h m b → m + k ≤ L.length → (∀ i, i < L.length → 0 ≤ b.getD i 0 → b.getD i 0 = (early L F).getD i 0) →
      ∀ i, i < L.length → 0 ≤ (runBy L F h order k b).getD i 0 → (runBy L F h order k b).getD i 0 = (early L F).getD i 0 := by
    intro k
    induction k with
    | zero => intro m b _ _ hS; exact hS
    | succ k ih =>
      intro m b hM hk hS
      simp only [runBy]
      have hl := hM.len
      obtain ⟨i, hi, hb, hf⟩ := elig_some hM (by omega)
      obtain ⟨v, _, _, _, _, he, e⟩ := stepBy_first L F h b (order := order) ⟨(i : Int), order_mem ho (by omega), by unfold elig; rw [Int.toNat_natCast]; exact ⟨hb, hf⟩⟩
      rw [e]
      have hv : v.toNat < b.length := by
        apply Classical.byContradiction
        intro hno
        have := he.1
        rw [List.getD_eq_getElem?_getD, List.getElem?_eq_none (by omega)] at this
        simp at this
      obtain ⟨hM2, q2, q3, q4⟩ := made_set hp hM h1 (by omega) hv he.1 he.2
      refine ih (m + 1) _ hM2 (by omega) ?_
      unfold elig at he
      generalize v.toNat = a at hv he q2 q3 q4 hM2
      have hfree : freeAt L b h a (erl L F b a a) = true := freeN_iff.2 (fun j _ => by
        have := cnt_lt (f := isBusy L b (erl L F b a a + j)) (g := fun _ => true) (i := a) (n := b.length) (decide_eq_false (fun ⟨d1, _⟩ => by rw [he.1] at d1; omega)) rfl hv (fun _ _ _ => rfl)
        have hb2 := cnt_bound (fun _ => true) b.length
        unfold busyN
        omega)
      have e120 : erl L F b a a ≤ 120 := erl_le (by omega) (fun c hc ha => by
        have h2 := frOk_iff.1 he.2 c hc ha
        have := hM.val c (by omega)
        omega)
      have htw := q4 _ (Int.le_refl _) e120 hfree
      have het : findT L b h a 200 (erl L F b a a) = erl L F b a a := by omega
      rw [het]
      intro j hj hbj
      rw [getD_set hv] at hbj ⊢
      by_cases ej : j = a
      · subst ej
        rw [if_pos rfl, early_at hj]
        exact erl_pre (fun c hc ha => hS c (by omega) (frOk_iff.1 he.2 c hc ha))
      · rw [if_neg ej] at hbj ⊢
        exact hS j hj hbj
  have h0 := key order.length 0 (noneB L.length) (made_none (by omega)) (by rw [ho.1]; omega) (fun i hi hb => by rw [getD_none hi] at hb; omega)
  have hM := by_made hp h1 ho
  have hel : (early L F).length = L.length := earlyTo_length L F _
  refine List.ext_getElem (by rw [hM.len, hel]) (fun i a1 a2 => ?_)
  have hi : i < L.length := by omega
  have h2 := h0 i hi (hM.all hp hi).1
  have h3 : (beginsBy L F h order).getD i 0 = (early L F).getD i 0 := h2
  rw [List.getD_eq_getElem?_getD, List.getD_eq_getElem?_getD, List.getElem?_eq_getElem a1, List.getElem?_eq_getElem a2] at h3
  exact h3

/-- The less of two; less than 0 stands for none. -/
def comb (x y : Int) : Int := if x < 0 then y else if y < 0 then x else min x y
theorem comb_assoc (x y z : Int) : comb (comb x y) z = comb x (comb y z) := by
  unfold comb
  repeat' split
  all_goals first | rfl | omega
def minL : List Int → Int
  | [] => -1
  | x :: l => comb x (minL l)
theorem minL_append : ∀ a b : List Int, minL (a ++ b) = comb (minL a) (minL b)
  | [], b => by simp [minL, comb]
  | x :: a, b => by simp only [List.cons_append, minL, minL_append a b, comb_assoc]
theorem minL_facts : ∀ {l : List Int}, (∀ x ∈ l, 0 ≤ x) → (l = [] ∧ minL l = -1) ∨ (0 ≤ minL l ∧ minL l ∈ l ∧ ∀ x ∈ l, minL l ≤ x)
  | [], _ => .inl ⟨rfl, rfl⟩
  | x :: l, h => by
    have hx := h x List.mem_cons_self
    right
    rcases minL_facts (l := l) (fun y hy => h y (List.mem_cons_of_mem _ hy)) with ⟨rfl, h2⟩ | ⟨h1, h2, h3⟩
    · have e : minL [x] = x := by unfold minL; rw [h2]; unfold comb; rw [if_neg (by omega), if_pos (by omega)]
      rw [e]
      exact ⟨hx, by simp, by simp⟩
    · have e : minL (x :: l) = min x (minL l) := by
        show comb x (minL l) = _
        unfold comb
        rw [if_neg (by omega), if_neg (by omega)]
      rw [e]
      refine ⟨by omega, ?_, fun y hy => ?_⟩
      · rcases Int.le_total x (minL l) with c | c
        · rw [Int.min_eq_left c]; exact List.mem_cons_self
        · rw [Int.min_eq_right c]; exact List.mem_cons_of_mem _ h2
      · rcases List.mem_cons.1 hy with rfl | hy
        · omega
        · have := h3 y hy; omega

/-- All orders that go on some tasks. -/
def ordW (n : Nat) : Nat → List Int → List (List Int)
  | 0, hd => [hd]
  | m + 1, hd => (List.range n).flatMap fun (k : Nat) => if (k : Int) ∈ hd then [] else ordW n m (hd ++ [(k : Int)])
/-- .. by the first places. -/
def ordK (n m : Nat) (hd : List Int) (k : Nat) : List (List Int) := (List.range k).flatMap fun (k : Nat) => if (k : Int) ∈ hd then [] else ordW n m (hd ++ [(k : Int)])
theorem ordK_succ (n m : Nat) (hd : List Int) (k : Nat) : ordK n m hd (k + 1) = ordK n m hd k ++ (if (k : Int) ∈ hd then [] else ordW n m (hd ++ [(k : Int)])) := by
  simp [ordK, List.range_succ]
theorem ordW_succ (n m : Nat) (hd : List Int) : ordW n (m + 1) hd = ordK n m hd n := rfl
theorem ordW_mem {n : Nat} : ∀ {m : Nat} {hd s : List Int}, (∀ v ∈ hd, 0 ≤ v ∧ v < n) → hd.Nodup → s ∈ ordW n m hd → s.length = hd.length + m ∧ s.Nodup ∧ ∀ v ∈ s, 0 ≤ v ∧ v < n
  | 0, hd, s, h1, h2, hs => by
    simp only [ordW, List.mem_singleton] at hs
    subst hs
    exact ⟨rfl, h2, h1⟩
  | m + 1, hd, s, h1, h2, hs => by
    simp only [ordW, List.mem_flatMap, List.mem_range] at hs
    obtain ⟨k, hk, hs⟩ := hs
    split at hs
    · simp at hs
    · rename_i hno
      obtain ⟨e1, e2, e3⟩ := ordW_mem (m := m) (hd := hd ++ [(k : Int)]) (fun v hv => by
        rcases List.mem_append.1 hv with hv | hv
        · exact h1 v hv
        · rw [List.mem_singleton] at hv; omega) (List.nodup_append.2 ⟨h2, by simp, fun a ha b hb e => by
          rw [List.mem_singleton] at hb
          subst hb; subst e
          exact hno ha⟩) hs
      exact ⟨by rw [e1]; simp; omega, e2, e3⟩
theorem ordW_all {n : Nat} : ∀ {t hd : List Int}, (hd ++ t).Nodup → (∀ v ∈ t, 0 ≤ v ∧ v < n) → hd ++ t ∈ ordW n t.length hd
  | [], hd, _, _ => by simp [ordW]
  | v :: t, hd, h1, h2 => by
    have hv := h2 v List.mem_cons_self
    obtain ⟨k, rfl⟩ := Int.eq_ofNat_of_zero_le hv.1
    simp only [List.length_cons, ordW, List.mem_flatMap, List.mem_range]
    refine ⟨k, by omega, ?_⟩
    have hno : (k : Int) ∉ hd := fun hm => (List.nodup_append.1 h1).2.2 _ hm _ List.mem_cons_self rfl
    rw [if_neg hno]
    have := ordW_all (t := t) (hd := hd ++ [(k : Int)]) (by rw [List.append_assoc]; exact h1) (fun w hw => h2 w (List.mem_cons_of_mem _ hw))
    rwa [List.append_assoc] at this
theorem orders_iff {n : Nat} {s : List Int} : s ∈ ordW n n [] ↔ IsOrder n s := by
  constructor
  · intro h
    obtain ⟨h1, h2, h3⟩ := ordW_mem (by simp) (by simp) h
    exact ⟨by simpa using h1, h2, h3⟩
  · rintro ⟨h1, h2, h3⟩
    have := ordW_all (n := n) (t := s) (hd := []) (by simpa using h2) h3
    rw [h1] at this
    simpa using this
/-- The end of begins by an order. -/
def endBy (L F : List Int) (h : Int) (order : List Int) : Int := endOf L (beginsBy L F h order)
def leastW (L F : List Int) (h : Int) (m : Nat) (hd : List Int) : Int := minL ((ordW L.length m hd).map (endBy L F h))
def leastK (L F : List Int) (h : Int) (m : Nat) (hd : List Int) (k : Nat) : Int := minL ((ordK L.length m hd k).map (endBy L F h))
def leastE (L F : List Int) (h : Int) : Int := leastW L F h L.length []
theorem leastK_succ (L F : List Int) (h : Int) (m : Nat) (hd : List Int) (k : Nat) : leastK L F h m hd (k + 1) = if (k : Int) ∈ hd then leastK L F h m hd k else comb (leastK L F h m hd k) (leastW L F h m (hd ++ [(k : Int)])) := by
  unfold leastK leastW
  rw [ordK_succ, List.map_append, minL_append]
  split
  · simp only [List.map_nil, minL]
    unfold comb
    split
    · rename_i hneg
      have := minL_facts (l := (ordK L.length m hd k).map (endBy L F h)) (fun x hx => by
        obtain ⟨o, _, rfl⟩ := List.mem_map.1 hx
        exact endTo_nonneg _ _ _)
      rcases this with ⟨_, e⟩ | ⟨e, _⟩
      · exact e.symm
      · omega
    · rw [if_pos (by omega)]
  · rfl
section
variable {L F : List Int} {h : Int}
theorem ends_nonneg (l : List (List Int)) : ∀ x ∈ l.map (endBy L F h), 0 ≤ x := fun x hx => by
  obtain ⟨o, _, rfl⟩ := List.mem_map.1 hx
  exact endTo_nonneg _ _ _
theorem least_at : ∃ s, IsOrder L.length s ∧ leastE L F h = endBy L F h s := by
  rcases minL_facts (ends_nonneg (L := L) (F := F) (h := h) (ordW L.length L.length [])) with ⟨e, _⟩ | ⟨_, hm, _⟩
  · have : (List.range L.length).map (fun (i : Nat) => (i : Int)) ∈ ordW L.length L.length [] := orders_iff.2 (range_order _)
    rw [List.map_eq_nil_iff] at e
    rw [e] at this
    simp at this
  · obtain ⟨s, hs, e⟩ := List.mem_map.1 hm
    exact ⟨s, orders_iff.1 hs, e.symm⟩
theorem least_le {s : List Int} (hs : IsOrder L.length s) : leastE L F h ≤ endBy L F h s := by
  have hm : endBy L F h s ∈ (ordW L.length L.length []).map (endBy L F h) := List.mem_map.2 ⟨s, orders_iff.2 hs, rfl⟩
  rcases minL_facts (ends_nonneg (L := L) (F := F) (h := h) (ordW L.length L.length [])) with ⟨e, _⟩ | ⟨_, _, h3⟩
  · rw [e] at hm; simp at hm
  · exact h3 _ hm
theorem least_nonneg : 0 ≤ leastE L F h := by
  obtain ⟨s, _, e⟩ := least_at (L := L) (F := F) (h := h)
  rw [e]; exact endTo_nonneg _ _ _
/-- No right begins end before the least end. -/
theorem least_all {b : List Int} (hb : beginsOk L F h b = true) : leastE L F h ≤ endOf L b := by
  obtain ⟨h1, h2⟩ := by_best hb
  have := least_le (F := F) (h := h) h1
  unfold endBy at this
  omega
theorem least_len (hp : projOk L F = true) (hh : 1 ≤ h ∧ h ≤ 3) : lenOf L F ≤ leastE L F h := by
  obtain ⟨s, hs, e⟩ := least_at (L := L) (F := F) (h := h)
  rw [e]
  exact len_le (by_ok hp hh hs)
theorem least_work (hp : projOk L F = true) (hh : 1 ≤ h ∧ h ≤ 3) : work L L.length ≤ h * leastE L F h := by
  obtain ⟨s, hs, e⟩ := least_at (L := L) (F := F) (h := h)
  rw [e]
  exact work_le (by_ok hp hh hs)
theorem least_more (hp : projOk L F = true) (hh : 1 ≤ h ∧ h + 1 ≤ 3) : leastE L F (h + 1) ≤ leastE L F h := by
  obtain ⟨s, hs, e⟩ := least_at (L := L) (F := F) (h := h)
  have hb := by_ok hp (show 1 ≤ h ∧ h ≤ 3 by omega) hs
  obtain ⟨a1, a2, a3, a4, a5⟩ := beginsOk_iff.1 hb
  rw [e]
  refine least_all (beginsOk_iff.2 ⟨a1, a2, a3, by omega, fun i hi => ⟨(a5 i hi).1, by have := (a5 i hi).2; omega⟩⟩)
theorem least_one (hp : projOk L F = true) : leastE L F 1 = work L L.length := by
  obtain ⟨s, hs, e⟩ := least_at (L := L) (F := F) (h := 1)
  rw [e]
  exact by_one hp hs
theorem least_many (hp : projOk L F = true) (h1 : 1 ≤ h) (hn : (L.length : Int) ≤ h) : leastE L F h = lenOf L F := by
  obtain ⟨s, hs, e⟩ := least_at (L := L) (F := F) (h := h)
  rw [e]
  unfold endBy lenOf
  rw [by_many hp h1 hn hs]
end

def insAt (o : List Int) (p : Nat) (v : Int) : List Int := o.take p ++ v :: o.drop p
/-- The order that a number stands for, and what is left of it. -/
def codeTo (a : Nat) : Nat → List Int × Nat
  | 0 => ([], a)
  | k + 1 => (insAt (codeTo a k).1 ((codeTo a k).2 % (k + 1)) (k : Int), (codeTo a k).2 / (k + 1))
def fact : Nat → Nat
  | 0 => 1
  | k + 1 => fact k * (k + 1)
theorem ins_order {n p : Nat} {o : List Int} (ho : IsOrder n o) : IsOrder (n + 1) (insAt o p (n : Int)) := by
  obtain ⟨h1, h2, h3⟩ := ho
  have hperm : (insAt o p (n : Int)).Perm ((n : Int) :: o) := by
    unfold insAt
    have := List.perm_middle (a := (n : Int)) (l₁ := o.take p) (l₂ := o.drop p)
    rwa [List.take_append_drop] at this
  refine order_perm hperm.symm ⟨by simp [h1], List.nodup_cons.2 ⟨fun hm => ?_, h2⟩, fun v hv => ?_⟩
  · have := h3 _ hm; omega
  · rcases List.mem_cons.1 hv with rfl | hv
    · omega
    · have := h3 v hv; omega
theorem code_order (a : Nat) : ∀ n, IsOrder n (codeTo a n).1
  | 0 => ⟨rfl, by simp [codeTo], by simp [codeTo]⟩
  | n + 1 => ins_order (code_order a n)
theorem code_all : ∀ (n c : Nat) (s : List Int), IsOrder n s → ∃ a, a < fact n ∧ codeTo (a + fact n * c) n = (s, c)
  | 0, c, s, hs => ⟨0, by simp [fact], by
    have : s = [] := List.eq_nil_of_length_eq_zero hs.1
    subst this
    simp [codeTo, fact]⟩
  | n + 1, c, s, hs => by
    obtain ⟨x, y, e⟩ := List.append_of_mem (order_mem hs (show n < n + 1 by omega))
    subst e
    obtain ⟨h1, h2, h3⟩ := hs
    have hnd := List.nodup_append.1 h2
    have hny := (List.nodup_cons.1 hnd.2.1)
    have hs2 : IsOrder n (x ++ y) := by
      refine ⟨by simp at h1 ⊢; omega, List.nodup_append.2 ⟨hnd.1, hny.2, fun a ha b hb => hnd.2.2 a ha b (List.mem_cons_of_mem _ hb)⟩, fun v hv => ?_⟩
      have hv2 : v ∈ x ++ (n : Int) :: y := by
        rcases List.mem_append.1 hv with h | h
        · exact List.mem_append.2 (.inl h)
        · exact List.mem_append.2 (.inr (List.mem_cons_of_mem _ h))
      have hb := h3 v hv2
      have hne : v ≠ (n : Int) := by
        rintro rfl
        rcases List.mem_append.1 hv with h | h
        · exact hnd.2.2 _ h _ List.mem_cons_self rfl
        · exact hny.1 h
      omega
    have hxl : x.length ≤ n := by simp at h1; omega
    obtain ⟨a, ha, hc⟩ := code_all n (x.length + (n + 1) * c) (x ++ y) hs2
    refine ⟨a + fact n * x.length, ?_, ?_⟩
    · simp only [fact]
      have h1 : fact n * x.length ≤ fact n * n := Nat.mul_le_mul_left _ hxl
      rw [Nat.mul_add, Nat.mul_one]
      omega
    · have e : a + fact n * x.length + fact (n + 1) * c = a + fact n * (x.length + (n + 1) * c) := by
        simp only [fact]
        rw [Nat.mul_assoc, Nat.mul_add (fact n) x.length, Nat.add_assoc]
      rw [e]
      simp only [codeTo, hc]
      have e1 : (x.length + (n + 1) * c) % (n + 1) = x.length := by rw [Nat.add_mul_mod_self_left]; exact Nat.mod_eq_of_lt (by omega)
      have e2 : (x.length + (n + 1) * c) / (n + 1) = c := by rw [Nat.add_mul_div_left _ _ (by omega), Nat.div_eq_of_lt (by omega), Nat.zero_add]
      rw [e1, e2]
      unfold insAt
      simp
/-- Some number stands for an order of the least end. -/
theorem code_least (L F : List Int) (h : Int) : ∃ a, a < fact L.length ∧ endBy L F h (codeTo a L.length).1 = leastE L F h := by
  obtain ⟨s, hs, e⟩ := least_at (L := L) (F := F) (h := h)
  obtain ⟨a, ha, hc⟩ := code_all L.length 0 s hs
  rw [Nat.mul_zero, Nat.add_zero] at hc
  exact ⟨a, ha, by rw [hc, e]⟩

/-- One task at one time. -/
def greedy1 (L F : List Int) (h t : Int) (b : List Int) (v : Int) : List Int :=
  if b.getD v.toNat 0 = -1 ∧ frOk F b v.toNat v.toNat = true ∧ erl L F b v.toNat v.toNat ≤ t ∧ (busyN L b t : Int) < h then b.set v.toNat t else b
def greedyAt (L F : List Int) (h t : Int) : List Int → List Int → List Int
  | [], b => b
  | v :: os, b => greedyAt L F h t os (greedy1 L F h t b v)
def greedyTo (L F : List Int) (h : Int) (order : List Int) : Nat → List Int
  | 0 => noneB L.length
  | t + 1 => greedyAt L F h (t : Int) order (greedyTo L F h order t)
def greedyBy (L F : List Int) (h : Int) (order : List Int) : List Int := greedyTo L F h order 121

/-- What holds of begins up to some time. -/
structure Gr (L F : List Int) (h t : Int) (b : List Int) : Prop where
  len : b.length = L.length
  val : ∀ i, i < b.length → b.getD i 0 = -1 ∨ (0 ≤ b.getD i 0 ∧ b.getD i 0 ≤ t)
  pre : ∀ i, i < b.length → 0 ≤ b.getD i 0 → ∀ k, k < i → aft F i k = true → 0 ≤ b.getD k 0 ∧ b.getD k 0 + L.getD k 0 ≤ b.getD i 0
  few : ∀ u, (busyN L b u : Int) ≤ h
/-- What has begun stays so; what begins, begins now. -/
def Ext (t : Int) (b b' : List Int) : Prop := b'.length = b.length ∧ ∀ i, b'.getD i 0 = b.getD i 0 ∨ (b.getD i 0 = -1 ∧ b'.getD i 0 = t)
theorem Ext.refl (t : Int) (b : List Int) : Ext t b b := ⟨rfl, fun _ => .inl rfl⟩
theorem Ext.trans {t : Int} (h0 : 0 ≤ t) {b b' c : List Int} (h : Ext t b b') (h2 : Ext t b' c) : Ext t b c :=
  ⟨h2.1.trans h.1, fun i => by
    rcases h2.2 i with e | ⟨e1, e2⟩
    · rw [e]; exact h.2 i
    · rcases h.2 i with e | ⟨e3, e4⟩
      · exact .inr ⟨e ▸ e1, e2⟩
      · exact .inr ⟨e3, e2⟩⟩
theorem ext_busy {L b b' : List Int} {t u : Int} (h0 : 0 ≤ t) (h : Ext t b b') : busyN L b u ≤ busyN L b' u := by
  unfold busyN
  rw [h.1]
  refine cnt_le (fun k _ hk => ?_)
  obtain ⟨c1, c2, c3⟩ := of_decide_eq_true hk
  rcases h.2 k with e | ⟨e, _⟩
  · exact decide_eq_true ⟨by rw [e]; exact c1, by rw [e]; exact c2, by rw [e]; exact c3⟩
  · omega
section
variable {L F : List Int} {h t : Int} {b : List Int}
theorem gr_one (hp : projOk L F = true) (h0 : 0 ≤ t) (hG : Gr L F h t b) (v : Int) (hv : 0 ≤ v ∧ v < L.length) : Gr L F h t (greedy1 L F h t b v) ∧ Ext t b (greedy1 L F h t b v) := by
  unfold greedy1
  split
  · rename_i hc
    obtain ⟨c1, c2, c3, c4⟩ := hc
    obtain ⟨i, rfl⟩ := Int.eq_ofNat_of_zero_le hv.1
    rw [Int.toNat_natCast] at *
    have hl := hG.len
    have hi : i < b.length := by omega
    have hat : ∀ j, (b.set i t).getD j 0 = if j = i then t else b.getD j 0 := fun j => getD_set hi
    have hlen : (b.set i t).length = b.length := List.length_set
    have hfr := frOk_iff.1 c2
    refine ⟨⟨by rw [hlen]; exact hl, fun j hj => ?_, fun j hj hbj k hk ha => ?_, fun u => ?_⟩, hlen, fun j => ?_⟩
    · rw [hat]
      split
      · exact .inr ⟨h0, Int.le_refl _⟩
      · exact hG.val j (by omega)
    · rw [hat] at hbj ⊢
      rw [hat]
      by_cases ej : j = i
      · subst ej
        rw [if_neg (by omega), if_pos rfl]
        have := erl_ge (L := L) (e := b) hk ha
        exact ⟨hfr k hk ha, by omega⟩
      · rw [if_neg ej] at hbj ⊢
        have h1 := hG.pre j (by omega) hbj k hk ha
        have : k ≠ i := fun e => by subst e; omega
        rw [if_neg this]
        exact h1
    · have hset := cnt_set (f := isBusy L b u) (g := isBusy L (b.set i t) u) (i := i) (n := b.length) (fun k _ hk => by unfold isBusy; rw [hat, if_neg hk])
      have hfew := hG.few u
      unfold busyN at hfew ⊢
      rw [hlen]
      by_cases hb2 : isBusy L (b.set i t) u i = true
      · rw [if_pos hb2] at hset
        have hb3 := of_decide_eq_true hb2
        rw [hat, if_pos rfl] at hb3
        have hle := cnt_le (f := isBusy L b u) (g := isBusy L b t) (n := b.length) (fun k hk hkb => by
          obtain ⟨d1, d2, d3⟩ := of_decide_eq_true hkb
          have := hG.val k hk
          exact decide_eq_true ⟨d1, by omega, by omega⟩)
        unfold busyN at c4
        omega
      · rw [if_neg hb2] at hset
        omega
    · rw [hat]
      split
      · rename_i e; subst e; exact .inr ⟨c1, rfl⟩
      · exact .inl rfl
  · exact ⟨hG, Ext.refl _ _⟩
/-- One time, in an order: who could have begun had no hand. -/
theorem gr_at (hp : projOk L F = true) (h0 : 0 ≤ t) : ∀ (os : List Int) (b : List Int), Gr L F h t b → (∀ v ∈ os, 0 ≤ v ∧ v < L.length) → Gr L F h t (greedyAt L F h t os b) ∧ Ext t b (greedyAt L F h t os b) ∧
    ∀ i : Nat, (i : Int) ∈ os → (greedyAt L F h t os b).getD i 0 = -1 → frOk F b i i = true → erl L F b i i ≤ t → h ≤ (busyN L (greedyAt L F h t os b) t : Int)
  | [], b, hG, _ => ⟨hG, Ext.refl _ _, fun i hi => by simp at hi⟩
  | v :: os, b, hG, hv => by
    simp only [greedyAt]
    obtain ⟨g1, g2⟩ := gr_one hp h0 hG v (hv v List.mem_cons_self)
    obtain ⟨k1, k2, k3⟩ := gr_at hp h0 os _ g1 (fun w hw => hv w (List.mem_cons_of_mem _ hw))
    refine ⟨k1, g2.trans h0 k2, fun i hi hb hf he => ?_⟩
    have hf2 : frOk F (greedy1 L F h t b v) i i = true := frOk_iff.2 (fun k hk ha => by
      have := frOk_iff.1 hf k hk ha
      rcases g2.2 k with e | ⟨e, _⟩
      · rw [e]; exact this
      · omega)
    have he2 : erl L F (greedy1 L F h t b v) i i ≤ t := by
      rw [erl_pre (e' := b) (fun k hk ha => by
        have := frOk_iff.1 hf k hk ha
        rcases g2.2 k with e | ⟨e, _⟩
        · exact e
        · omega)]
      exact he
    rcases List.mem_cons.1 hi with e | e
    · subst e
      -- its own turn
      have hb1 : b.getD i 0 = -1 := by
        rcases (g2.trans h0 k2).2 i with e | ⟨e, _⟩
        · rw [← e]; exact hb
        · exact e
      have hno : ¬ (busyN L b t : Int) < h := by
        intro hlt
        have hl := hG.len
        have hi2 := (hv (i : Int) List.mem_cons_self).2
        have e1 : greedy1 L F h t b (i : Int) = b.set i t := by
          unfold greedy1
          rw [Int.toNat_natCast]
          exact if_pos ⟨hb1, hf, he, hlt⟩
        have e2 : (greedy1 L F h t b (i : Int)).getD i 0 = t := by rw [e1, getD_set (by omega), if_pos rfl]
        rcases k2.2 i with e | ⟨e, _⟩
        · rw [e, e2] at hb; omega
        · rw [e2] at e; omega
      have := ext_busy (L := L) (u := t) h0 (g2.trans h0 k2)
      omega
    · exact k3 i e hb hf2 he2
end
/-- Up to a time: whoever could have begun before had no hand. -/
structure Gr2 (L F : List Int) (h : Int) (T : Nat) (b : List Int) : Prop where
  gr : Gr L F h ((T : Int) - 1) b
  full : ∀ i, i < b.length → frOk F b i i = true → ∀ u : Nat, u < T → erl L F b i i ≤ u → (b.getD i 0 = -1 ∨ (u : Int) < b.getD i 0) → h ≤ (busyN L b u : Int)
section
variable {L F : List Int} {h : Int} {order : List Int}
theorem gr2_none (h0 : 0 ≤ h) : Gr2 L F h 0 (noneB L.length) := by
  have hl : (noneB L.length).length = L.length := by simp [noneB]
  refine ⟨⟨hl, fun i hi => .inl (getD_none (by omega)), fun i hi hb => ?_, fun t => ?_⟩, fun _ _ _ u hu => by omega⟩
  · rw [getD_none (by omega)] at hb; omega
  · have : busyN L (noneB L.length) t = 0 := cnt_zero (fun k hk => decide_eq_false (fun ⟨d, _⟩ => by rw [getD_none (by omega)] at d; omega))
    omega
theorem gr2_step (hp : projOk L F = true) (ho : IsOrder L.length order) {T : Nat} {b : List Int} (hG : Gr2 L F h T b) : Gr2 L F h (T + 1) (greedyAt L F h (T : Int) order b) ∧ Ext (T : Int) b (greedyAt L F h (T : Int) order b) := by
  have g0 : Gr L F h (T : Int) b := ⟨hG.gr.len, fun i hi => by have := hG.gr.val i hi; omega, hG.gr.pre, hG.gr.few⟩
  obtain ⟨k1, k2, k3⟩ := gr_at hp (show (0 : Int) ≤ (T : Int) by omega) order b g0 ho.2.2
  obtain ⟨b', hb'⟩ : ∃ b', greedyAt L F h (T : Int) order b = b' := ⟨_, rfl⟩
  rw [hb'] at k1 k2 k3 ⊢
  refine ⟨⟨⟨k1.len, fun i hi => by have := k1.val i hi; omega, k1.pre, k1.few⟩, fun i hi hf u hu he hbi => ?_⟩, k2⟩
  have hlb := hG.gr.len
  have hlb' := k1.len
  -- those after which it comes had begun before
  have hsame : ∀ k, k < i → aft F i k = true → b'.getD k 0 = b.getD k 0 := fun k hk ha => by
    rcases k2.2 k with e | ⟨_, e⟩
    · exact e
    · have h1 := erl_ge (L := L) (e := b') hk ha
      have h2 := long_at hp (show k < L.length by omega)
      omega
  have hf2 : frOk F b i i = true := frOk_iff.2 (fun k hk ha => by rw [← hsame k hk ha]; exact frOk_iff.1 hf k hk ha)
  have he2 : erl L F b i i ≤ u := by rw [← erl_pre hsame]; exact he
  by_cases huT : u = T
  · subst huT
    have hb1 : b'.getD i 0 = -1 := by
      rcases hbi with e | e
      · exact e
      · have := k1.val i hi; omega
    exact k3 i (order_mem ho (by omega)) hb1 hf2 he2
  · have hbi2 : b.getD i 0 = -1 ∨ (u : Int) < b.getD i 0 := by
      rcases k2.2 i with e | ⟨e, _⟩
      · rw [← e]; exact hbi
      · exact .inl e
    have h1 := hG.full i (by omega) hf2 u (by omega) he2 hbi2
    have h2 := ext_busy (L := L) (u := (u : Int)) (show (0 : Int) ≤ (T : Int) by omega) k2
    omega
theorem gr2_to (hp : projOk L F = true) (h0 : 0 ≤ h) (ho : IsOrder L.length order) : ∀ T, Gr2 L F h T (greedyTo L F h order T)
  | 0 => gr2_none h0
  | T + 1 => (gr2_step hp ho (gr2_to hp h0 ho T)).1
/-- As long as some task has not begun, or not ended, some hand is taken. -/
theorem gr2_taken (hp : projOk L F = true) (h1 : 1 ≤ h) {T : Nat} {b : List Int} (hG : Gr2 L F h T b) {u : Nat} (hu : u < T) (hex : ∃ i, i < b.length ∧ (b.getD i 0 = -1 ∨ (u : Int) < b.getD i 0 + L.getD i 0)) : 1 ≤ busyN L b (u : Int) := by
  have hl := hG.gr.len
  by_cases hrun : ∃ i, i < b.length ∧ isBusy L b (u : Int) i = true
  · obtain ⟨i, hi, hb⟩ := hrun
    have := cnt_lt (f := fun _ => false) (g := isBusy L b (u : Int)) (i := i) (n := b.length) rfl hb hi (fun _ _ hh => by simp at hh)
    unfold busyN
    omega
  · have hno : ∀ i, i < b.length → isBusy L b (u : Int) i = false := fun i hi => by
      cases e : isBusy L b (u : Int) i
      · rfl
      · exact absurd ⟨i, hi, e⟩ hrun
    have hnb : ∀ i, i < b.length → 0 ≤ b.getD i 0 → b.getD i 0 ≤ u → b.getD i 0 + L.getD i 0 ≤ u := fun i hi c1 c2 => by
      have := of_decide_eq_false (hno i hi)
      omega
    -- the least one that has not begun by then
    have key : ∀ n, (∃ k, k < n ∧ k < b.length ∧ (b.getD k 0 = -1 ∨ (u : Int) < b.getD k 0)) → ∃ k, k < b.length ∧ (b.getD k 0 = -1 ∨ (u : Int) < b.getD k 0) ∧ ∀ j, j < k → 0 ≤ b.getD j 0 ∧ b.getD j 0 ≤ u := by
      intro n
      induction n with
      | zero => rintro ⟨k, hk, _⟩; omega
      | succ n ih =>
        rintro ⟨k, a1, a2, a3⟩
        by_cases hex : ∃ k, k < n ∧ k < b.length ∧ (b.getD k 0 = -1 ∨ (u : Int) < b.getD k 0)
        · exact ih hex
        · refine ⟨k, a2, a3, fun j hj => ?_⟩
          have h1 : ¬ (b.getD j 0 = -1 ∨ (u : Int) < b.getD j 0) := fun hh => hex ⟨j, by omega, by omega, hh⟩
          have := hG.gr.val j (by omega)
          omega
    obtain ⟨i, hi, hbi⟩ := hex
    have hbi2 : b.getD i 0 = -1 ∨ (u : Int) < b.getD i 0 := by
      rcases hbi with e | e
      · exact .inl e
      · by_cases c : b.getD i 0 = -1
        · exact .inl c
        · right
          have := hG.gr.val i hi
          have := hnb i hi (by omega)
          omega
    obtain ⟨k, a1, a2, a3⟩ := key b.length ⟨i, hi, hi, hbi2⟩
    have hf : frOk F b k k = true := frOk_iff.2 (fun j hj _ => (a3 j hj).1)
    have he : erl L F b k k ≤ u := erl_le (by omega) (fun j hj _ => hnb j (by omega) (a3 j hj).1 (a3 j hj).2)
    have := hG.full k a1 hf u hu he a2
    omega
end

theorem sum_le_work {L b : List Int} {E : Nat} : ∀ {n : Nat}, (∀ k, k < n → 0 ≤ L.getD k 0) → ((sumT (fun t => cnt (isBusy L b t) n) E : Nat) : Int) ≤ work L n
  | 0, _ => by simp only [cnt, work]; rw [sumT_zero]; exact Int.le_refl _
  | n + 1, h => by
    simp only [cnt, work]
    rw [sumT_add]
    have ih := sum_le_work (L := L) (b := b) (E := E) (n := n) (fun k hk => h k (by omega))
    have h1 := h n (by omega)
    obtain ⟨l, hl⟩ := Int.eq_ofNat_of_zero_le h1
    by_cases hb : 0 ≤ b.getD n 0
    · obtain ⟨a, ha⟩ := Int.eq_ofNat_of_zero_le hb
      have e1 : sumT (fun t => if isBusy L b t n = true then 1 else 0) E = sumT (fun t => if decide ((a : Int) ≤ t ∧ t < (a : Int) + l) then 1 else 0) E := sumT_congr (fun t _ => by
        unfold isBusy
        rw [ha, hl]
        simp)
      rw [e1, sumT_one a l E, hl]
      omega
    · have e1 : sumT (fun t => if isBusy L b t n = true then 1 else 0) E = sumT (fun _ => 0) E := sumT_congr (fun t _ => by
        have : isBusy L b t n = false := decide_eq_false (fun ⟨c, _⟩ => hb c)
        rw [this]; rfl)
      rw [e1, sumT_zero, hl]
      omega
theorem sumT_ge {f : Int → Nat} {c : Nat} : ∀ {n : Nat}, (∀ t : Nat, t < n → c ≤ f t) → c * n ≤ sumT f n
  | 0, _ => Nat.zero_le _
  | n + 1, h => by
    simp only [sumT]
    have := sumT_ge (n := n) (fun t ht => h t (by omega))
    have := h n (by omega)
    rw [Nat.mul_succ]; omega
theorem work_bound {L F : List Int} (hp : projOk L F = true) : ∀ {n : Nat}, n ≤ L.length → 0 ≤ work L n ∧ work L n ≤ 20 * (n : Int)
  | 0, _ => by simp [work]
  | n + 1, hn => by
    simp only [work]
    have := work_bound hp (n := n) (by omega)
    have := long_at hp (show n < L.length by omega)
    omega
section
variable {L F : List Int} {h : Int} {order : List Int}
/-- In time all have begun. -/
theorem gr_all (hp : projOk L F = true) (h1 : 1 ≤ h) (ho : IsOrder L.length order) {T : Nat} (hT : 121 ≤ T) {i : Nat} (hi : i < L.length) : 0 ≤ (greedyTo L F h order T).getD i 0 := by
  have hG := gr2_to (F := F) hp (by omega) ho T (h := h)
  have hl := hG.gr.len
  have h6 := (projOk_iff.1 hp).1
  apply Classical.byContradiction
  intro hno
  have hb : (greedyTo L F h order T).getD i 0 = -1 := by
    have := hG.gr.val i (by omega); omega
  have h2 := sumT_ge (f := fun t => busyN L (greedyTo L F h order T) t) (c := 1) (n := T) (fun t ht => gr2_taken hp h1 hG ht ⟨i, by omega, .inl hb⟩)
  have h3 := sum_le_work (L := L) (b := greedyTo L F h order T) (E := T) (n := L.length) (fun k hk => by have := long_at hp hk; omega)
  have h4 := (work_bound hp (Nat.le_refl L.length)).2
  have e : sumT (fun t => busyN L (greedyTo L F h order T) t) T = sumT (fun t => cnt (isBusy L (greedyTo L F h order T) t) L.length) T := sumT_congr (fun t _ => by unfold busyN; rw [hl])
  rw [e] at h2
  omega
theorem greedyAt_done {L F : List Int} {h t : Int} {b : List Int} : ∀ {os : List Int}, (∀ v ∈ os, b.getD v.toNat 0 ≠ -1) → greedyAt L F h t os b = b
  | [], _ => rfl
  | v :: os, hv => by
    simp only [greedyAt]
    have e : greedy1 L F h t b v = b := by
      unfold greedy1
      exact if_neg (fun hc => hv v List.mem_cons_self hc.1)
    rw [e]
    exact greedyAt_done (fun w hw => hv w (List.mem_cons_of_mem _ hw))
/-- Once all have begun nothing turns. -/
theorem greedy_done (ho : IsOrder L.length order) {T : Nat} (hT : ∀ i, i < L.length → 0 ≤ (greedyTo L F h order T).getD i 0) : ∀ d, greedyTo L F h order (T + d) = greedyTo L F h order T
  | 0 => rfl
  | d + 1 => by
    show greedyAt L F h ((T + d : Nat) : Int) order (greedyTo L F h order (T + d)) = _
    rw [greedy_done ho hT d]
    exact greedyAt_done (fun v hv => by
      have := ho.2.2 v hv
      have := hT v.toNat (by omega)
      omega)
theorem greedy_same (hp : projOk L F = true) (h1 : 1 ≤ h) (ho : IsOrder L.length order) {T : Nat} (hT : T ≤ 121) (hall : ∀ i, i < L.length → 0 ≤ (greedyTo L F h order T).getD i 0) : greedyTo L F h order T = greedyBy L F h order := by
  have := greedy_done ho hall (121 - T)
  rw [show T + (121 - T) = 121 by omega] at this
  exact this.symm
theorem greedy_far (hp : projOk L F = true) (h1 : 1 ≤ h) (ho : IsOrder L.length order) (d : Nat) : greedyTo L F h order (121 + d) = greedyBy L F h order :=
  greedy_done ho (fun _ hi => gr_all hp h1 ho (Nat.le_refl _) hi) d
/-- They are right. -/
theorem greedy_ok (hp : projOk L F = true) (hh : 1 ≤ h ∧ h ≤ 3) (ho : IsOrder L.length order) : beginsOk L F h (greedyBy L F h order) = true := by
  have hG := gr2_to (F := F) hp (by omega) ho 121 (h := h)
  have hall := fun i hi => gr_all (F := F) hp hh.1 ho (Nat.le_refl 121) (i := i) hi
  have hl := hG.gr.len
  refine beginsOk_iff.2 ⟨hp, hl, fun v hv => ?_, hh, fun i hi => ⟨fun k hk ha => (hG.gr.pre i hi (hall i (by unfold greedyBy at hi; omega)) k hk ha).2, hG.gr.few _⟩⟩
  obtain ⟨i, hi, e⟩ := List.getElem_of_mem hv
  have ev : (greedyTo L F h order 121).getD i 0 = v := by
    have : (greedyBy L F h order).getD i 0 = v := by rw [List.getD_eq_getElem?_getD, List.getElem?_eq_getElem hi, e]; rfl
    exact this
  have a := hG.gr.val i hi
  have c := hall i (by unfold greedyBy at hi; omega)
  rw [ev] at a c
  omega
theorem greedy_len (hp : projOk L F = true) (h1 : 1 ≤ h) (ho : IsOrder L.length order) : (greedyBy L F h order).length = L.length := (gr2_to (F := F) hp (by omega) ho 121 (h := h)).gr.len

/-! ### idle times -/
def idleT (L b : List Int) (h : Int) (t : Int) : Nat := if (busyN L b t : Int) < h then 1 else 0
theorem sumT_mono {f : Int → Nat} (u : Nat) : ∀ d, sumT f u ≤ sumT f (u + d)
  | 0 => Nat.le_refl _
  | d + 1 => by
    have := sumT_mono (f := f) u d
    show sumT f u ≤ sumT f (u + d) + f ((u + d : Nat) : Int)
    omega
theorem idle_add (L b : List Int) (h : Int) (u : Nat) : ∀ d, sumT (idleT L b h) (u + d) ≤ sumT (idleT L b h) u + d
  | 0 => Nat.le_refl _
  | d + 1 => by
    have := idle_add L b h u d
    show sumT (idleT L b h) (u + d) + idleT L b h ((u + d : Nat) : Int) ≤ _
    have : idleT L b h ((u + d : Nat) : Int) ≤ 1 := by unfold idleT; split <;> omega
    omega
theorem idle_same {L b : List Int} {h : Int} {u : Nat} : ∀ {d : Nat}, (∀ t : Nat, u ≤ t → t < u + d → h ≤ (busyN L b (t : Int) : Int)) → sumT (idleT L b h) (u + d) = sumT (idleT L b h) u
  | 0, _ => rfl
  | d + 1, hf => by
    show sumT (idleT L b h) (u + d) + idleT L b h ((u + d : Nat) : Int) = _
    rw [idle_same (fun t h1 h2 => hf t h1 (by omega))]
    have := hf (u + d) (by omega) (by omega)
    unfold idleT
    rw [if_neg (by omega)]
    rfl
theorem erl_attain (L F e : List Int) (i : Nat) : ∀ n, erl L F e i n = 0 ∨ ∃ k, k < n ∧ aft F i k = true ∧ erl L F e i n = e.getD k 0 + L.getD k 0
  | 0 => .inl rfl
  | n + 1 => by
    simp only [erl]
    rcases erl_attain L F e i n with h | ⟨k, h1, h2, h3⟩
    · split
      · rename_i ha
        rcases Int.le_total (erl L F e i n) (e.getD n 0 + L.getD n 0) with c | c
        · exact .inr ⟨n, by omega, ha, Int.max_eq_right c⟩
        · rw [Int.max_eq_left c]; exact .inl h
      · exact .inl h
    · split
      · rename_i ha
        rcases Int.le_total (erl L F e i n) (e.getD n 0 + L.getD n 0) with c | c
        · exact .inr ⟨n, by omega, ha, Int.max_eq_right c⟩
        · rw [Int.max_eq_left c]; exact .inr ⟨k, by omega, h2, h3⟩
      · exact .inr ⟨k, by omega, h2, h3⟩
theorem endTo_attain (L b : List Int) : ∀ n, endTo L b n = 0 ∨ ∃ k, k < n ∧ endTo L b n = b.getD k 0 + L.getD k 0
  | 0 => .inl rfl
  | n + 1 => by
    simp only [endTo]
    rcases Int.le_total (endTo L b n) (b.getD n 0 + L.getD n 0) with c | c
    · exact .inr ⟨n, by omega, Int.max_eq_right c⟩
    · rw [Int.max_eq_left c]
      rcases endTo_attain L b n with h | ⟨k, h1, h2⟩
      · exact .inl h
      · exact .inr ⟨k, by omega, h2⟩
/-- Before a task's begin no longer were hands idle than its chain lasts. -/
theorem idle_early (hp : projOk L F = true) {T : Nat} {b : List Int} (hG : Gr2 L F h T b) (hall : ∀ i, i < L.length → 0 ≤ b.getD i 0) : ∀ i, i < L.length → (sumT (idleT L b h) (b.getD i 0).toNat : Int) ≤ (early L F).getD i 0 := by
  have hl := hG.gr.len
  intro i
  induction i using Nat.strongRecOn with
  | _ i ih =>
    intro hi
    have hf : frOk F b i i = true := frOk_iff.2 (fun k hk _ => hall k (by omega))
    have hbi := hall i hi
    have hle : erl L F b i i ≤ b.getD i 0 := erl_le hbi (fun k hk ha => (hG.gr.pre i (by omega) hbi k hk ha).2)
    have h0 := erl_nonneg L F b i i
    obtain ⟨e, he⟩ := Int.eq_ofNat_of_zero_le h0
    obtain ⟨s, hs⟩ := Int.eq_ofNat_of_zero_le hbi
    have hval := hG.gr.val i (by omega)
    have e1 : sumT (idleT L b h) (b.getD i 0).toNat = sumT (idleT L b h) e := by
      rw [show (b.getD i 0).toNat = e + (s - e) by omega]
      exact idle_same (fun t h2 h3 => hG.full i (by omega) hf t (by omega) (by omega) (.inr (by omega)))
    rw [e1]
    rcases erl_attain L F b i i with h2 | ⟨k, h2, h3, h4⟩
    · have : e = 0 := by omega
      subst this
      rw [early_at hi]
      simp only [sumT]
      have := erl_nonneg L F (early L F) i i
      omega
    · have h5 := ih k h2 (by omega)
      have hLk := long_at hp (show k < L.length by omega)
      have hbk := hall k (by omega)
      have h6 := idle_add L b h (b.getD k 0).toNat (L.getD k 0).toNat
      rw [show (b.getD k 0).toNat + (L.getD k 0).toNat = e by omega] at h6
      have h7 := erl_ge (L := L) (e := early L F) h2 h3
      rw [early_at hi]
      omega
theorem sum_two {f g : Int → Nat} {c d : Nat} : ∀ {n : Nat}, (∀ t : Nat, t < n → c ≤ f t + d * g t) → c * n ≤ sumT f n + d * sumT g n
  | 0, _ => Nat.zero_le _
  | n + 1, h => by
    simp only [sumT]
    have := sum_two (n := n) (fun t ht => h t (by omega))
    have := h n (by omega)
    rw [Nat.mul_succ, Nat.mul_add]
    omega
theorem greedy_twice (hp : projOk L F = true) (hh : 1 ≤ h ∧ h ≤ 3) (ho : IsOrder L.length order) : h * endOf L (greedyBy L F h order) ≤ (2 * h - 1) * leastE L F h := by
  have hG := gr2_to (F := F) hp (by omega) ho (121 + 300) (h := h)
  rw [greedy_far hp hh.1 ho] at hG
  have hall : ∀ i, i < L.length → 0 ≤ (greedyBy L F h order).getD i 0 := fun i hi => gr_all (F := F) hp hh.1 ho (Nat.le_refl 121) (i := i) hi
  have hok := greedy_ok hp hh ho
  obtain ⟨b, hb⟩ : ∃ b, greedyBy L F h order = b := ⟨_, rfl⟩
  rw [hb] at hG hall hok ⊢
  have hl := hG.gr.len
  have he := endTo_nonneg L b L.length
  obtain ⟨E, hE⟩ : ∃ E : Nat, endOf L b = (E : Int) := ⟨(endOf L b).toNat, by unfold endOf; omega⟩
  obtain ⟨hn, hhn⟩ : ∃ hn : Nat, h = (hn : Int) := ⟨h.toNat, by omega⟩
  have hlim : ∀ k, k < L.length → b.getD k 0 ≤ 120 := fun k hk => by
    have hG2 := gr2_to (F := F) hp (by omega) ho 121 (h := h)
    have := hG2.gr.val k (by have := hG2.gr.len; omega)
    have e : greedyTo L F h order 121 = b := hb
    rw [e] at this
    omega
  have hE140 : E ≤ 140 := by
    rcases endTo_attain L b L.length with c | ⟨k, hk, c⟩
    · unfold endOf at hE; omega
    · have := hlim k hk
      have := long_at hp hk
      unfold endOf at hE
      omega
  -- idle hands
  have hidle : (sumT (idleT L b h) E : Int) ≤ lenOf L F := by
    rcases endTo_attain L b L.length with c | ⟨k, hk, c⟩
    · have : E = 0 := by unfold endOf at hE; omega
      subst this
      simp only [sumT]
      exact endTo_nonneg _ _ _
    · have h5 := idle_early hp hG hall k hk
      have hLk := long_at hp hk
      have hbk := hall k hk
      have h6 := idle_add L b h (b.getD k 0).toNat (L.getD k 0).toNat
      rw [show (b.getD k 0).toNat + (L.getD k 0).toNat = E by unfold endOf at hE; omega] at h6
      have h7 := endTo_ge L (early L F) hk
      unfold lenOf endOf
      omega
  have hwork := sum_busy (L := L) (b := b) (E := E) (n := L.length) (fun k hk => by
    have := long_at hp hk
    have h2 := endTo_ge L b hk
    have := hall k hk
    unfold endOf at hE
    omega)
  have htwo := sum_two (f := fun t => busyN L b t) (g := idleT L b h) (c := hn) (d := hn - 1) (n := E) (fun t ht => by
    by_cases hc : (busyN L b (t : Int) : Int) < h
    · have h1 : idleT L b h (t : Int) = 1 := if_pos hc
      rw [h1]
      have : 1 ≤ busyN L b (t : Int) := gr2_taken hp hh.1 hG (u := t) (by omega) (by
        rcases endTo_attain L b L.length with c | ⟨k, hk, c⟩
        · unfold endOf at hE; omega
        · exact ⟨k, by omega, .inr (by unfold endOf at hE; omega)⟩)
      omega
    · omega)
  have e : sumT (fun t => busyN L b t) E = sumT (fun t => cnt (isBusy L b t) L.length) E := sumT_congr (fun t _ => by unfold busyN; rw [hl])
  rw [e] at htwo
  have hw := least_work (F := F) hp hh (h := h)
  have hln := least_len (F := F) hp hh (h := h)
  have hz : (hn : Int) * E ≤ work L L.length + ((hn : Int) - 1) * (sumT (idleT L b h) E : Int) := by
    rw [← hwork]
    have := Int.ofNat_le.2 htwo
    rw [Int.natCast_add, Int.natCast_mul, Int.natCast_mul, Int.natCast_sub (by omega)] at this
    exact this
  rw [hE, hhn]
  rw [hhn] at hw hln
  rw [hhn] at hidle
  have hidle2 : ((hn : Int) - 1) * (sumT (idleT L b (hn : Int)) E : Int) ≤ ((hn : Int) - 1) * leastE L F (hn : Int) := Int.mul_le_mul_of_nonneg_left (by omega) (by omega)
  rw [hhn] at hz
  have e2 : (2 * (hn : Int) - 1) * leastE L F (hn : Int) = (hn : Int) * leastE L F (hn : Int) + ((hn : Int) - 1) * leastE L F (hn : Int) := by
    rw [← Int.add_mul]
    congr 1
    omega
  rw [e2]
  omega
theorem greedy_many (hp : projOk L F = true) (hh : 1 ≤ h ∧ h ≤ 3) (hn : (L.length : Int) ≤ h) (ho : IsOrder L.length order) : greedyBy L F h order = early L F := by
  have hG := gr2_to (F := F) hp (by omega) ho 121 (h := h)
  have hall := fun i hi => gr_all (F := F) hp hh.1 ho (Nat.le_refl 121) (i := i) hi
  have hl := hG.gr.len
  have key : ∀ i, i < L.length → (greedyTo L F h order 121).getD i 0 = (early L F).getD i 0 := by
    intro i
    induction i using Nat.strongRecOn with
    | _ i ih =>
      intro hi
      rw [early_at hi]
      have hf : frOk F (greedyTo L F h order 121) i i = true := frOk_iff.2 (fun k hk _ => hall k (by omega))
      have hbi := hall i hi
      have hle : erl L F (greedyTo L F h order 121) i i ≤ (greedyTo L F h order 121).getD i 0 := erl_le hbi (fun k hk ha => (hG.gr.pre i (by omega) hbi k hk ha).2)
      have h0 := erl_nonneg L F (greedyTo L F h order 121) i i
      rw [← erl_pre (fun k hk _ => ih k hk (by omega))]
      apply Classical.byContradiction
      intro hne
      have hval := hG.gr.val i (by omega)
      have h1 := hG.full i (by omega) hf (erl L F (greedyTo L F h order 121) i i).toNat (by omega) (by omega) (.inr (by omega))
      have h2 := cnt_lt (f := isBusy L (greedyTo L F h order 121) (((erl L F (greedyTo L F h order 121) i i).toNat : Nat) : Int)) (g := fun _ => true) (i := i) (n := (greedyTo L F h order 121).length) (decide_eq_false (fun ⟨_, d, _⟩ => by omega)) rfl (by omega) (fun _ _ _ => rfl)
      have h3 := cnt_bound (fun _ => true) (greedyTo L F h order 121).length
      unfold busyN at h1
      omega
  have hel : (early L F).length = L.length := earlyTo_length L F _
  refine List.ext_getElem (by rw [hel]; exact hl) (fun i a1 a2 => ?_)
  have h3 : (greedyBy L F h order).getD i 0 = (early L F).getD i 0 := key i (by omega)
  rw [List.getD_eq_getElem?_getD, List.getD_eq_getElem?_getD, List.getElem?_eq_getElem a1, List.getElem?_eq_getElem a2] at h3
  exact h3
end

/-! ### late begins -/
/-- How late a task may begin, by those after it, of which so many have been seen. -/
def ltl (L F : List Int) (e : Nat → Int) (c : Int) (i : Nat) : Nat → Int
  | 0 => c - L.getD i 0
  | d + 1 => if aft F (i + 1 + d) i then min (ltl L F e c i d) (e (i + 1 + d) - L.getD i 0) else ltl L F e c i d
/-- Late begins of the last m tasks. -/
def lateTo (L F : List Int) (c : Int) : Nat → Nat → Int
  | 0 => fun _ => 0
  | m + 1 => fun j => if j = L.length - 1 - m then ltl L F (lateTo L F c m) c (L.length - 1 - m) m else lateTo L F c m j
def lateAt (L F : List Int) (j : Nat) : Int := lateTo L F (lenOf L F) L.length j
theorem ltl_congr {L F : List Int} {e e' : Nat → Int} {c : Int} {i : Nat} : ∀ {d : Nat}, (∀ k, i < k → k ≤ i + d → e k = e' k) → ltl L F e c i d = ltl L F e' c i d
  | 0, _ => rfl
  | d + 1, h => by
    simp only [ltl]
    rw [ltl_congr (fun k h1 h2 => h k h1 (by omega)), h (i + 1 + d) (by omega) (by omega)]
theorem lateTo_keep {L F : List Int} {c : Int} {m j : Nat} (hj : L.length - m ≤ j) (hm : m < L.length) : lateTo L F c (m + 1) j = lateTo L F c m j := by
  show (if j = L.length - 1 - m then _ else _) = _
  rw [if_neg (by omega)]
theorem lateTo_at {L F : List Int} {c : Int} : ∀ {m j : Nat}, m ≤ L.length → L.length - m ≤ j → j < L.length → lateTo L F c m j = ltl L F (lateTo L F c m) c j (L.length - 1 - j)
  | 0, j, _, h1, h2 => by omega
  | m + 1, j, hm, h1, h2 => by
    by_cases e : j = L.length - 1 - m
    · subst e
      have e2 : L.length - 1 - (L.length - 1 - m) = m := by omega
      rw [e2]
      have : lateTo L F c (m + 1) (L.length - 1 - m) = ltl L F (lateTo L F c m) c (L.length - 1 - m) m := by
        show (if _ = _ then _ else _) = _
        rw [if_pos rfl]
      rw [this]
      exact ltl_congr (fun k h1 h2 => (lateTo_keep (by omega) (by omega)).symm)
    · rw [lateTo_keep (by omega) (by omega), lateTo_at (by omega) (by omega) h2]
      exact ltl_congr (fun k h1 h2 => (lateTo_keep (by omega) (by omega)).symm)
theorem late_at {L F : List Int} {i : Nat} (h : i < L.length) : lateAt L F i = ltl L F (lateAt L F) (lenOf L F) i (L.length - 1 - i) := lateTo_at (Nat.le_refl _) (by omega) h
theorem ltl_le {L F : List Int} {e : Nat → Int} {c : Int} {i : Nat} : ∀ {d : Nat}, ltl L F e c i d ≤ c - L.getD i 0
  | 0 => Int.le_refl _
  | d + 1 => by simp only [ltl]; have := ltl_le (L := L) (F := F) (e := e) (c := c) (i := i) (d := d); split <;> omega
theorem ltl_le_at {L F : List Int} {e : Nat → Int} {c : Int} {i : Nat} : ∀ {d k : Nat}, i < k → k ≤ i + d → aft F k i = true → ltl L F e c i d ≤ e k - L.getD i 0
  | 0, k, h1, h2, _ => by omega
  | d + 1, k, h1, h2, ha => by
    simp only [ltl]
    by_cases ek : k = i + 1 + d
    · subst ek; rw [if_pos ha]; omega
    · have := ltl_le_at (L := L) (e := e) (c := c) h1 (show k ≤ i + d by omega) ha
      split <;> omega
theorem ltl_ge {L F : List Int} {e : Nat → Int} {c v : Int} {i : Nat} (h0 : v ≤ c - L.getD i 0) : ∀ {d : Nat}, (∀ k, i < k → k ≤ i + d → aft F k i = true → v ≤ e k - L.getD i 0) → v ≤ ltl L F e c i d
  | 0, _ => h0
  | d + 1, h => by
    simp only [ltl]
    have h1 := ltl_ge h0 (fun k h1 h2 ha => h k h1 (by omega) ha : ∀ k, i < k → k ≤ i + d → aft F k i = true → v ≤ e k - L.getD i 0)
    by_cases ha : aft F (i + 1 + d) i = true
    · rw [if_pos ha]; have := h (i + 1 + d) (by omega) (by omega) ha; omega
    · rw [if_neg ha]; exact h1
theorem late_le {L F : List Int} {i : Nat} (h : i < L.length) : lateAt L F i ≤ lenOf L F - L.getD i 0 := by rw [late_at h]; exact ltl_le
theorem late_before {L F : List Int} {i k : Nat} (h1 : i < k) (h2 : k < L.length) (ha : aft F k i = true) : lateAt L F i ≤ lateAt L F k - L.getD i 0 := by
  rw [late_at (show i < L.length by omega)]
  exact ltl_le_at h1 (by omega) ha
theorem late_most {L F : List Int} {y : Nat → Int} (h1 : ∀ i, i < L.length → y i ≤ lenOf L F - L.getD i 0) (h2 : ∀ i k, i < k → k < L.length → aft F k i = true → y i ≤ y k - L.getD i 0) : ∀ d i, i + d + 1 = L.length → y i ≤ lateAt L F i := by
  intro d
  induction d using Nat.strongRecOn with
  | _ d ih =>
    intro i hi
    rw [late_at (by omega)]
    refine ltl_ge (h1 i (by omega)) (fun k hk1 hk2 ha => ?_)
    have := ih (d - (k - i)) (by omega) k (by omega)
    have := h2 i k hk1 (by omega) ha
    omega
theorem early_after {L F : List Int} {i k : Nat} (h1 : k < i) (h2 : i < L.length) (ha : aft F i k = true) : (early L F).getD k 0 + L.getD k 0 ≤ (early L F).getD i 0 := by
  rw [early_at (i := i) h2]
  exact erl_ge h1 ha
theorem early_end {L F : List Int} {i : Nat} (h : i < L.length) : (early L F).getD i 0 + L.getD i 0 ≤ lenOf L F := endTo_ge L _ h
theorem early_low {L F : List Int} {i : Nat} (h : i < L.length) : 0 ≤ (early L F).getD i 0 := by rw [early_at h]; exact erl_nonneg _ _ _ _ _
theorem late_early {L F : List Int} {i : Nat} (h : i < L.length) : (early L F).getD i 0 ≤ lateAt L F i :=
  late_most (y := fun j => (early L F).getD j 0) (fun i hi => by have := early_end (F := F) hi; (try dsimp only); omega) (fun i k h1 h2 ha => by have := early_after h1 h2 ha; (try dsimp only); omega) (L.length - 1 - i) i (by omega)

/-! ### the plan -/
def afB (L F : List Int) (i : Nat) : Nat → List Bd
  | 0 => []
  | k + 1 => afB L F i k ++ (if aft F i k then [⟨(i : Int) + 1, (k : Int) + 1, -L.getD k 0⟩] else [])
def prB (L F : List Int) : Nat → List Bd
  | 0 => []
  | i + 1 => prB L F i ++ [⟨(i : Int) + 1, 0, 0⟩] ++ afB L F i i ++ [⟨(L.length : Int) + 1, (i : Int) + 1, -L.getD i 0⟩]
def prPlan (L F : List Int) : Pl := ⟨(L.length : Int) + 2, prB L F L.length⟩
theorem afB_mem {L F : List Int} {i : Nat} {b : Bd} : ∀ {n : Nat}, b ∈ afB L F i n ↔ ∃ k, k < n ∧ aft F i k = true ∧ b = ⟨(i : Int) + 1, (k : Int) + 1, -L.getD k 0⟩
  | 0 => by simp [afB]
  | n + 1 => by
    simp only [afB, List.mem_append, afB_mem (n := n)]
    constructor
    · rintro (⟨k, h1, h2, h3⟩ | h)
      · exact ⟨k, by omega, h2, h3⟩
      · by_cases ha : aft F i n = true
        · rw [if_pos ha] at h
          exact ⟨n, by omega, ha, by simpa using h⟩
        · rw [if_neg ha] at h; simp at h
    · rintro ⟨k, h1, h2, h3⟩
      by_cases e : k = n
      · subst e; right; rw [if_pos h2]; simp [h3]
      · exact .inl ⟨k, by omega, h2, h3⟩
theorem prB_mem {L F : List Int} {b : Bd} : ∀ {n : Nat}, b ∈ prB L F n ↔ ∃ i, i < n ∧ (b = ⟨(i : Int) + 1, 0, 0⟩ ∨ (∃ k, k < i ∧ aft F i k = true ∧ b = ⟨(i : Int) + 1, (k : Int) + 1, -L.getD k 0⟩) ∨ b = ⟨(L.length : Int) + 1, (i : Int) + 1, -L.getD i 0⟩)
  | 0 => by simp [prB]
  | n + 1 => by
    simp only [prB, List.mem_append, prB_mem (n := n), afB_mem, List.mem_singleton]
    constructor
    · rintro (((⟨i, h1, h2⟩ | h) | h) | h)
      · exact ⟨i, by omega, h2⟩
      · exact ⟨n, by omega, .inl h⟩
      · exact ⟨n, by omega, .inr (.inl h)⟩
      · exact ⟨n, by omega, .inr (.inr h)⟩
    · rintro ⟨i, h1, h2⟩
      by_cases e : i = n
      · subst e
        rcases h2 with h | h | h
        · exact .inl (.inl (.inr h))
        · exact .inl (.inr h)
        · exact .inr h
      · exact .inl (.inl (.inl ⟨i, by omega, h2⟩))
theorem pr_sol {L F : List Int} {y : Nat → Int} : Sol (prB L F L.length) y ↔ ∀ i, i < L.length → y 0 ≤ y (i + 1) ∧ (∀ k, k < i → aft F i k = true → y (k + 1) + L.getD k 0 ≤ y (i + 1)) ∧ y (i + 1) + L.getD i 0 ≤ y (L.length + 1) := by
  have e1 : ∀ j : Nat, ((j : Int) + 1).toNat = j + 1 := fun j => by omega
  constructor
  · intro h i hi
    refine ⟨?_, fun k hk ha => ?_, ?_⟩
    · have := h _ (prB_mem.2 ⟨i, hi, .inl rfl⟩)
      dsimp only at this
      rw [e1] at this
      simp only [Int.toNat_zero] at this
      omega
    · have := h _ (prB_mem.2 ⟨i, hi, .inr (.inl ⟨k, hk, ha, rfl⟩)⟩)
      dsimp only at this
      rw [e1, e1] at this
      omega
    · have := h _ (prB_mem.2 ⟨i, hi, .inr (.inr rfl)⟩)
      dsimp only at this
      rw [e1, e1] at this
      omega
  · intro h b hb
    obtain ⟨i, hi, hc⟩ := prB_mem.1 hb
    obtain ⟨h1, h2, h3⟩ := h i hi
    rcases hc with rfl | ⟨k, hk, ha, rfl⟩ | rfl
    · dsimp only; rw [e1]; simp only [Int.toNat_zero]; omega
    · have := h2 k hk ha
      dsimp only; rw [e1, e1]; omega
    · dsimp only; rw [e1, e1]; omega
theorem afB_len (L F : List Int) (i : Nat) : ∀ k, (afB L F i k).length ≤ k
  | 0 => Nat.le_refl _
  | k + 1 => by
    simp only [afB, List.length_append]
    have := afB_len L F i k
    split
    · simp; omega
    · simp; omega
theorem prB_len (L F : List Int) {n : Nat} (hn : n ≤ 4) : (prB L F n).length ≤ 14 ∧ (prB L F n).length ≤ 4 * n + 4 := by
  have h0 := afB_len L F 0 0
  have h1 := afB_len L F 1 1
  have h2 := afB_len L F 2 2
  have h3 := afB_len L F 3 3
  have : n = 0 ∨ n = 1 ∨ n = 2 ∨ n = 3 ∨ n = 4 := by omega
  rcases this with rfl | rfl | rfl | rfl | rfl <;> simp only [prB, List.length_append, List.length_cons, List.length_nil] <;> omega
theorem pr_bdOk {L F : List Int} (hp : projOk L F = true) {b : Bd} {m : Nat} (hm : m ≤ L.length) (hb : b ∈ prB L F m) : bdOk ((L.length : Int) + 2) b = true := by
  obtain ⟨i, hi, hc⟩ := prB_mem.1 hb
  rw [bdOk_iff]
  have hL := long_at hp (show i < L.length by omega)
  rcases hc with rfl | ⟨k, hk, ha, rfl⟩ | rfl
  · dsimp only; omega
  · have := long_at hp (show k < L.length by omega)
    dsimp only; omega
  · dsimp only; omega
theorem pr_ok {L F : List Int} (hp : projOk L F = true) (h4 : L.length ≤ 4) : planOk (prPlan L F) = true := by
  rw [planOk_iff]
  refine ⟨by show 1 ≤ (L.length : Int) + 2 ∧ (L.length : Int) + 2 ≤ 6; omega, ?_, fun b hb => pr_bdOk hp (Nat.le_refl _) hb⟩
  have := prB_len L F h4
  show (prB L F L.length).length ≤ 16
  omega
theorem pr_nn (L F : List Int) : nn (prPlan L F) = L.length + 2 := by show ((L.length : Int) + 2).toNat = _; omega
/-- The greatest difference, by the times that keep a plan. -/
theorem most_is {p : Pl} (hp : planOk p = true) {i j : Nat} (hi : i < nn p) (hj : j < nn p) {v : Int} (hle : ∀ y, Sol p.bs y → y j - y i ≤ v) (hex : ∃ y, Sol p.bs y ∧ y j - y i = v) : mostOf p (i : Int) (j : Int) = (v, true) := by
  obtain ⟨y, hy, e⟩ := hex
  have hf : fits p = true := (fits_iff hp).2 ⟨y, hy⟩
  have G := fit_of hf
  have hn := nn_ok hp
  obtain ⟨h1, h2⟩ := G.tight hi hj v hle
  have h3 := G.le hi hj hy h1
  rw [mostOf_is hf (by omega) (by omega) (by simpa using h1)]
  simp only [Int.toNat_natCast]
  have : clT p i j = v := by omega
  rw [this]
/-- The early times, as times of the plan's points. -/
def earlyY (L F : List Int) (c : Int) : Nat → Int
  | 0 => 0
  | k + 1 => if k < L.length then (early L F).getD k 0 else c
theorem early_sol {L F : List Int} {c : Int} (hc : lenOf L F ≤ c) : Sol (prB L F L.length) (earlyY L F c) := by
  refine pr_sol.2 (fun i hi => ⟨?_, fun k hk ha => ?_, ?_⟩)
  · show (0 : Int) ≤ if i < L.length then _ else _
    rw [if_pos hi]; exact early_low hi
  · show (if k < L.length then _ else _) + _ ≤ if i < L.length then _ else _
    rw [if_pos hi, if_pos (by omega)]; exact early_after hk hi ha
  · show (if i < L.length then _ else _) + _ ≤ if L.length < L.length then _ else _
    rw [if_pos hi, if_neg (by omega)]
    have := early_end (F := F) hi
    omega
theorem pr_fits {L F : List Int} (hp : projOk L F = true) (h4 : L.length ≤ 4) : fits (prPlan L F) = true := (fits_iff (pr_ok hp h4)).2 ⟨_, early_sol (Int.le_refl _)⟩
theorem early_least {L F : List Int} {y : Nat → Int} (hy : Sol (prB L F L.length) y) : ∀ i, i < L.length → y 0 + (early L F).getD i 0 ≤ y (i + 1) := by
  intro i
  induction i using Nat.strongRecOn with
  | _ i ih =>
    intro hi
    obtain ⟨h1, h2, h3⟩ := pr_sol.1 hy i hi
    have : (early L F).getD i 0 ≤ y (i + 1) - y 0 := by
      rw [early_at hi]
      refine erl_le (by omega) (fun k hk ha => ?_)
      have := ih k hk (by omega)
      have := h2 k hk ha
      omega
    omega
/-- The plan tells each task's early begin. -/
theorem pr_early {L F : List Int} (hp : projOk L F = true) (h4 : L.length ≤ 4) {k : Nat} (hk : k < L.length) : leastOf (prPlan L F) 0 ((k : Int) + 1) = ((early L F).getD k 0, true) := by
  have hn := pr_nn L F
  have := most_is (pr_ok hp h4) (i := k + 1) (j := 0) (by omega) (by omega) (v := -(early L F).getD k 0) (fun y hy => by have := early_least hy k hk; omega) ⟨_, early_sol (Int.le_refl _), by
    show (0 : Int) - (if k < L.length then _ else _) = _
    rw [if_pos hk]; omega⟩
  rw [show ((k + 1 : Nat) : Int) = (k : Int) + 1 by omega] at this
  unfold leastOf
  rw [show (0 : Int) = ((0 : Nat) : Int) from rfl, this]
  simp
theorem len_attain {L F : List Int} (hp : projOk L F = true) (h : 0 < L.length) : ∃ k, k < L.length ∧ lenOf L F = (early L F).getD k 0 + L.getD k 0 := by
  have h1 := early_end (F := F) (i := 0) h
  have h2 := early_low (F := F) (i := 0) h
  have h3 := long_at hp h
  rcases endTo_attain L (early L F) L.length with e | ⟨k, hk, e⟩
  · have e2 : lenOf L F = 0 := e
    omega
  · exact ⟨k, hk, e⟩
theorem len_low (L F : List Int) : 0 ≤ lenOf L F := endTo_nonneg L _ _
theorem len_bound {L F : List Int} (hp : projOk L F = true) : lenOf L F ≤ 20 * (L.length : Int) := by
  have key : ∀ i, i < L.length → (early L F).getD i 0 ≤ 20 * (i : Int) := by
    intro i
    induction i using Nat.strongRecOn with
    | _ i ih =>
      intro hi
      rw [early_at hi]
      refine erl_le (by omega) (fun k hk _ => ?_)
      have := ih k hk (by omega)
      have := long_at hp (show k < L.length by omega)
      omega
  refine endTo_le (by omega) (fun k hk => ?_)
  have := key k hk
  have := long_at hp hk
  omega
/-- .. and how long it lasts. -/
theorem pr_len {L F : List Int} (hp : projOk L F = true) (h4 : L.length ≤ 4) (h : 0 < L.length) : leastOf (prPlan L F) 0 ((L.length : Int) + 1) = (lenOf L F, true) := by
  have hn := pr_nn L F
  obtain ⟨k, hk, e⟩ := len_attain hp h
  have := most_is (pr_ok hp h4) (i := L.length + 1) (j := 0) (by omega) (by omega) (v := -lenOf L F) (fun y hy => by
    have h1 := early_least hy k hk
    obtain ⟨_, _, h2⟩ := pr_sol.1 hy k hk
    omega) ⟨_, early_sol (Int.le_refl _), by
    show (0 : Int) - (if L.length < L.length then _ else _) = _
    rw [if_neg (by omega)]; omega⟩
  rw [show ((L.length + 1 : Nat) : Int) = (L.length : Int) + 1 by omega] at this
  unfold leastOf
  rw [show (0 : Int) = ((0 : Nat) : Int) from rfl, this]
  simp
/-- The late times, as times of the plan's points. -/
def lateY (L F : List Int) : Nat → Int
  | 0 => 0
  | k + 1 => if k < L.length then lateAt L F k else lenOf L F
theorem late_sol {L F : List Int} : Sol (prB L F L.length) (lateY L F) := by
  refine pr_sol.2 (fun i hi => ⟨?_, fun k hk ha => ?_, ?_⟩)
  · show (0 : Int) ≤ if i < L.length then _ else _
    rw [if_pos hi]
    have := early_low (F := F) hi
    have := late_early (F := F) hi
    omega
  · show (if k < L.length then _ else _) + _ ≤ if i < L.length then _ else _
    rw [if_pos hi, if_pos (by omega)]
    have := late_before hk hi ha
    omega
  · show (if i < L.length then _ else _) + _ ≤ if L.length < L.length then _ else _
    rw [if_pos hi, if_neg (by omega)]
    have := late_le (F := F) hi
    omega
/-- Set to its length, the plan tells each task's late begin. -/
theorem pr_late {L F : List Int} (h : planOk ⟨(L.length : Int) + 2, prB L F L.length ++ [⟨0, (L.length : Int) + 1, lenOf L F⟩, ⟨(L.length : Int) + 1, 0, -lenOf L F⟩]⟩ = true) {k : Nat} (hk : k < L.length) :
    mostOf ⟨(L.length : Int) + 2, prB L F L.length ++ [⟨0, (L.length : Int) + 1, lenOf L F⟩, ⟨(L.length : Int) + 1, 0, -lenOf L F⟩]⟩ 0 ((k : Int) + 1) = (lateAt L F k, true) := by
  have hn : nn ⟨(L.length : Int) + 2, prB L F L.length ++ [⟨0, (L.length : Int) + 1, lenOf L F⟩, ⟨(L.length : Int) + 1, 0, -lenOf L F⟩]⟩ = L.length + 2 := by show ((L.length : Int) + 2).toNat = _; omega
  have e1 : ((L.length : Int) + 1).toNat = L.length + 1 := by omega
  have := most_is h (i := 0) (j := k + 1) (by omega) (by omega) (v := lateAt L F k) (fun y hy => by
    obtain ⟨h1, h2⟩ := (set_sol y).1 hy
    rw [e1] at h2
    simp only [Int.toNat_zero] at h2
    have h3 := pr_sol.1 h1
    have := late_most (L := L) (F := F) (y := fun j => y (j + 1) - y 0) (fun i hi => by have := (h3 i hi).2.2; (try dsimp only); omega) (fun i k h1 h2 ha => by have := (h3 k h2).2.1 i h1 ha; (try dsimp only); omega) (L.length - 1 - k) k (by omega)
    exact this) ⟨lateY L F, (set_sol _).2 ⟨late_sol, by
      rw [e1]
      show (if L.length < L.length then _ else _) - (0 : Int) = _
      rw [if_neg (by omega)]; omega⟩, by
    show (if k < L.length then _ else _) - (0 : Int) = _
    rw [if_pos hk]; omega⟩
  rw [show ((k + 1 : Nat) : Int) = (k : Int) + 1 by omega] at this
  exact this
theorem late_bound {L F : List Int} (hp : projOk L F = true) {i : Nat} (hi : i < L.length) : 0 ≤ lateAt L F i ∧ lateAt L F i ≤ 120 := by
  have h1 := early_low (F := F) hi
  have h2 := late_early (F := F) hi
  have h3 := late_le (F := F) hi
  have h4 := long_at hp hi
  have h5 := len_bound hp
  have h6 := (projOk_iff.1 hp).1
  omega
end Go.Proofs.Ytmgikoaeomieeaa.Pp
