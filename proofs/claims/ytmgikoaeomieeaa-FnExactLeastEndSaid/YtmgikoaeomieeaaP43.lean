/-
  Projects, plain: work and hands; with one hand, and with many.
-/
import Derived.Test.YtmgikoaeomieeaaP42
namespace Go.Proofs.Ytmgikoaeomieeaa.Pp

/-! ### all work -/
def work (L : List Int) : Nat → Int
  | 0 => 0
  | k + 1 => work L k + L.getD k 0
def sumT (f : Int → Nat) : Nat → Nat
  | 0 => 0
  | t + 1 => sumT f t + f t
theorem sumT_le {f : Int → Nat} {c : Nat} : ∀ {n : Nat}, (∀ t : Nat, t < n → f t ≤ c) → sumT f n ≤ c * n
  | 0, _ => Nat.zero_le _
  | n + 1, h => by
    simp only [sumT]
    have := sumT_le (n := n) (fun t ht => h t (by omega))
    have := h n (by omega)
    rw [Nat.mul_succ]; omega
theorem sumT_add (f g : Int → Nat) : ∀ n, sumT (fun t => f t + g t) n = sumT f n + sumT g n
  | 0 => rfl
  | n + 1 => by simp only [sumT]; rw [sumT_add f g n]; omega
theorem sumT_zero : ∀ n, sumT (fun _ => 0) n = 0
  | 0 => rfl
  | n + 1 => by simp only [sumT]; rw [sumT_zero n]
/-- One task is being done as long as it lasts. -/
theorem sumT_one (a l : Nat) : ∀ n, sumT (fun t => if decide ((a : Int) ≤ t ∧ t < (a : Int) + l) then 1 else 0) n = min n (a + l) - min n a
  | 0 => by simp [sumT]
  | n + 1 => by
    simp only [sumT]
    rw [sumT_one a l n]
    by_cases h : (a : Int) ≤ (n : Int) ∧ (n : Int) < (a : Int) + l
    · rw [decide_eq_true h]; simp; omega
    · rw [decide_eq_false h]; simp; omega
theorem sumT_congr {f g : Int → Nat} : ∀ {n : Nat}, (∀ t : Nat, t < n → f t = g t) → sumT f n = sumT g n
  | 0, _ => rfl
  | n + 1, h => by simp only [sumT]; rw [sumT_congr (fun t ht => h t (by omega)), h n (by omega)]
/-- All that is done, up to the end, is all work. -/
theorem sum_busy {L b : List Int} {E : Nat} : ∀ {n : Nat}, (∀ k, k < n → 0 ≤ L.getD k 0 ∧ 0 ≤ b.getD k 0 ∧ b.getD k 0 + L.getD k 0 ≤ E) → ((sumT (fun t => cnt (isBusy L b t) n) E : Nat) : Int) = work L n
  | 0, _ => by simp only [cnt, work]; rw [sumT_zero]; rfl
  | n + 1, h => by
    simp only [cnt, work]
    rw [sumT_add]
    have ih := sum_busy (L := L) (b := b) (E := E) (n := n) (fun k hk => h k (by omega))
    obtain ⟨h1, h2, h3⟩ := h n (by omega)
    obtain ⟨l, hl⟩ := Int.eq_ofNat_of_zero_le h1
    obtain ⟨a, ha⟩ := Int.eq_ofNat_of_zero_le h2
    have e : sumT (fun t => if isBusy L b t n = true then 1 else 0) E = l := by
      have e1 : sumT (fun t => if isBusy L b t n = true then 1 else 0) E = sumT (fun t => if decide ((a : Int) ≤ t ∧ t < (a : Int) + l) then 1 else 0) E := sumT_congr (fun t _ => by
        unfold isBusy
        rw [ha, hl]
        simp)
      rw [e1, sumT_one a l E]
      omega
    rw [e, hl, Int.natCast_add, ih]
/-- Where begins are right, no more than all hands are taken at any time. -/
theorem few_all {L F : List Int} {h : Int} {b : List Int} (hb : beginsOk L F h b = true) (t : Int) : (busyN L b t : Int) ≤ h := by
  obtain ⟨hp, hlen, hbv, hh, hbi⟩ := beginsOk_iff.1 hb
  -- the one that has begun last, of those that are being done
  have key : ∀ n, n ≤ b.length → (∀ k, k < n → isBusy L b t k = false) ∨ ∃ i, i < n ∧ isBusy L b t i = true ∧ ∀ k, k < n → isBusy L b t k = true → b.getD k 0 ≤ b.getD i 0 := by
    intro n
    induction n with
    | zero => exact fun _ => .inl (fun k hk => by omega)
    | succ n ih =>
      intro hn
      rcases ih (by omega) with h1 | ⟨i, h1, h2, h3⟩
      · by_cases e : isBusy L b t n = true
        · refine .inr ⟨n, by omega, e, fun k hk hbk => ?_⟩
          by_cases ek : k = n
          · subst ek; omega
          · have := h1 k (by omega); rw [hbk] at this; cases this
        · refine .inl (fun k hk => ?_)
          by_cases ek : k = n
          · subst ek; simpa using e
          · exact h1 k (by omega)
      · by_cases e : isBusy L b t n = true ∧ b.getD i 0 ≤ b.getD n 0
        · refine .inr ⟨n, by omega, e.1, fun k hk hbk => ?_⟩
          by_cases ek : k = n
          · subst ek; omega
          · have := h3 k (by omega) hbk; omega
        · refine .inr ⟨i, by omega, h2, fun k hk hbk => ?_⟩
          by_cases ek : k = n
          · subst ek
            apply Classical.byContradiction
            intro hno
            exact e ⟨hbk, by omega⟩
          · exact h3 k (by omega) hbk
  rcases key b.length (Nat.le_refl _) with h1 | ⟨i, h1, h2, h3⟩
  · have : busyN L b t = 0 := cnt_zero h1
    omega
  · have h4 := (hbi i h1).2
    have := cnt_le (f := isBusy L b t) (g := isBusy L b (b.getD i 0)) (n := b.length) (fun k hk hk2 => by
      obtain ⟨c1, c2, c3⟩ := of_decide_eq_true hk2
      obtain ⟨d1, d2, d3⟩ := of_decide_eq_true h2
      have := h3 k hk hk2
      exact decide_eq_true ⟨c1, this, by omega⟩)
    unfold busyN at h4 ⊢
    omega
/-- The hands, as long as it lasts, do all work. -/
theorem work_le {L F : List Int} {h : Int} {b : List Int} (hb : beginsOk L F h b = true) : work L L.length ≤ h * endOf L b := by
  obtain ⟨hp, hlen, hbv, hh, hbi⟩ := beginsOk_iff.1 hb
  have he := endTo_nonneg L b L.length
  obtain ⟨E, hE⟩ : ∃ E : Nat, endOf L b = (E : Int) := ⟨(endOf L b).toNat, by unfold endOf; omega⟩
  obtain ⟨hn, hhn⟩ : ∃ hn : Nat, h = (hn : Int) := ⟨h.toNat, by omega⟩
  have h1 := sum_busy (L := L) (b := b) (E := E) (n := L.length) (fun k hk => by
    have := long_at hp hk
    have h2 := endTo_ge L b hk
    have h3 : 0 ≤ b.getD k 0 := by
      rw [List.getD_eq_getElem?_getD, List.getElem?_eq_getElem (show k < b.length by omega)]
      exact (hbv _ (List.getElem_mem _)).1
    unfold endOf at hE
    omega)
  rw [← h1, hE, hhn]
  have h2 := sumT_le (f := fun t => cnt (isBusy L b t) L.length) (c := hn) (n := E) (fun t _ => by
    have := few_all hb (t : Int)
    unfold busyN at this
    rw [hlen] at this
    omega)
  rw [← Int.natCast_mul]
  exact Int.ofNat_le.2 h2
/-- The chain is done, too. -/
theorem early_le {L F : List Int} {h : Int} {b : List Int} (hb : beginsOk L F h b = true) : ∀ i, i < L.length → (early L F).getD i 0 ≤ b.getD i 0 := by
  obtain ⟨hp, hlen, hbv, hh, hbi⟩ := beginsOk_iff.1 hb
  intro i
  induction i using Nat.strongRecOn with
  | _ i ih =>
    intro hi
    rw [early_at hi]
    have h0 : 0 ≤ b.getD i 0 := by
      rw [List.getD_eq_getElem?_getD, List.getElem?_eq_getElem (show i < b.length by omega)]
      exact (hbv _ (List.getElem_mem _)).1
    refine erl_le h0 (fun k hk ha => ?_)
    have h1 := ih k hk (by omega)
    have h2 := (hbi i (by omega)).1 k hk ha
    omega
theorem len_le {L F : List Int} {h : Int} {b : List Int} (hb : beginsOk L F h b = true) : lenOf L F ≤ endOf L b := by
  refine endTo_le (endTo_nonneg _ _ _) (fun k hk => ?_)
  have h1 := early_le hb k hk
  have h2 := endTo_ge L b hk
  omega

/-! ### by an order: no longer than all work -/
def workB (L b : List Int) : Nat → Int
  | 0 => 0
  | k + 1 => workB L b k + (if begun b k then L.getD k 0 else 0)
theorem workB_set {L b : List Int} {i : Nat} {v : Int} (hi : i < b.length) (hb : b.getD i 0 = -1) (hv : 0 ≤ v) : ∀ {n : Nat}, workB L (b.set i v) n = workB L b n + (if i < n then L.getD i 0 else 0)
  | 0 => by simp [workB]
  | n + 1 => by
    simp only [workB]
    rw [workB_set hi hb hv (n := n)]
    by_cases e : i = n
    · subst e
      have h1 : begun (b.set i v) i = true := decide_eq_true (by rw [getD_set hi, if_pos rfl]; exact hv)
      have h2 : begun b i = false := decide_eq_false (by rw [hb]; omega)
      simp [h1, h2]
    · have h1 : begun (b.set i v) n = begun b n := by unfold begun; rw [getD_set hi, if_neg (fun x => e x.symm)]
      rw [h1]
      by_cases e2 : i < n
      · have e3 : i < n + 1 := by omega
        simp only [e2, e3, if_true]; omega
      · have e3 : ¬ i < n + 1 := by omega
        simp only [e2, e3, if_false]; omega
theorem workB_le {L b : List Int} {n : Nat} (hL : ∀ k, k < n → 0 ≤ L.getD k 0 ∧ L.getD k 0 ≤ 20) : ∀ {m : Nat}, m ≤ n → 0 ≤ workB L b m ∧ workB L b m ≤ 20 * (m : Int) ∧ workB L b m ≤ work L m
  | 0, _ => by simp [workB, work]
  | m + 1, hm => by
    simp only [workB, work]
    have := workB_le (b := b) hL (m := m) (by omega)
    have := hL m (by omega)
    split <;> omega
theorem by_sum {L F : List Int} {h : Int} {order : List Int} (hp : projOk L F = true) (h1 : 1 ≤ h) (ho : IsOrder L.length order) : endOf L (beginsBy L F h order) ≤ work L L.length := by
  have h6 := (projOk_iff.1 hp).1
  have hL : ∀ k, k < L.length → 0 ≤ L.getD k 0 ∧ L.getD k 0 ≤ 20 := fun k hk => by have := long_at hp hk; omega
  have key : ∀ (k m : Nat) (b : List Int), Made L F h m b → m + k ≤ L.length → (∀ i, i < L.length → 0 ≤ b.getD i 0 → b.getD i 0 + L.getD i 0 ≤ workB L b L.length) →
      ∀ i, i < L.length → 0 ≤ (runBy L F h order k b).getD i 0 → (runBy L F h order k b).getD i 0 + L.getD i 0 ≤ workB L (runBy L F h order k b) L.length := by
    intro k
    induction k with
    | zero => intro m b _ _ hS; exact hS
    | succ k ih =>
      intro m b hM hk hS
      simp only [runBy]
      have hl := hM.len
      obtain ⟨i, hi, hb, hf⟩ := elig_some hM (by omega)
      obtain ⟨v, _, _, _, _, he, e⟩ := stepBy_first L F h b (order := order) ⟨(i : Int), order_mem ho (by omega), by unfold elig; rw [Int.toNat_natCast]; exact ⟨hb, hf⟩⟩
      rw [e]
      have hv : v.toNat < b.length := by
        apply Classical.byContradiction
        intro hno
        have := he.1
        rw [List.getD_eq_getElem?_getD, List.getElem?_eq_none (by omega)] at this
        simp at this
      obtain ⟨hM2, q2, q3, q4⟩ := made_set hp hM h1 (by omega) hv he.1 he.2
      refine ih (m + 1) _ hM2 (by omega) ?_
      unfold elig at he
      generalize v.toNat = a at hv he q2 q3 q4 hM2
      obtain ⟨t, ht⟩ : ∃ t, findT L b h a 200 (erl L F b a a) = t := ⟨_, rfl⟩
      rw [ht] at q2 q3 q4 ⊢
      obtain ⟨w0, w1, w2⟩ := workB_le (b := b) hL (Nat.le_refl _)
      have hfree : freeAt L b h a (workB L b L.length) = true := freeN_iff.2 (fun j _ => by
        have : busyN L b (workB L b L.length + j) = 0 := cnt_zero (fun c hc => decide_eq_false (fun ⟨d1, d2, d3⟩ => by
          have := hS c (by omega) d1
          omega))
        omega)
      have htw : t ≤ workB L b L.length := q4 _ (erl_le w0 (fun c hc ha => hS c (by omega) (frOk_iff.1 he.2 c hc ha))) (by omega) hfree
      rw [workB_set hv he.1 q2, if_pos (by omega)]
      have hLa := hL a (by omega)
      intro j hj hbj
      rw [getD_set hv] at hbj ⊢
      by_cases ej : j = a
      · subst ej; rw [if_pos rfl]; omega
      · rw [if_neg ej] at hbj ⊢
        have := hS j hj hbj
        omega
  have h0 := key order.length 0 (noneB L.length) (made_none (by omega)) (by rw [ho.1]; omega) (fun i hi hb => by rw [getD_none hi] at hb; omega)
  have hM := by_made hp h1 ho
  refine endTo_le ?_ (fun k hk => ?_)
  · have := workB_le (b := noneB L.length) hL (Nat.le_refl _); omega
  · have h2 := h0 k hk (hM.all hp hk).1
    have h3 := (workB_le (b := runBy L F h order order.length (noneB L.length)) hL (Nat.le_refl _)).2.2
    unfold beginsBy
    omega
/-- With one hand there is nothing but work. -/
theorem by_one {L F : List Int} {order : List Int} (hp : projOk L F = true) (ho : IsOrder L.length order) : endOf L (beginsBy L F 1 order) = work L L.length := by
  have h1 := by_sum hp (h := 1) (by omega) ho
  have h2 := work_le (by_ok hp (h := 1) (by omega) ho)
  omega

/-! ### with as many hands as tasks -/
theorem erl_pre {L F e e' : List Int} {i : Nat} : ∀ {n : Nat}, (∀ k, k < n → aft F i k = true → e.getD k 0 = e'.getD k 0) → erl L F e i n = erl L F e' i n
  | 0, _ => rfl
  | n + 1, h => by
    simp only [erl]
    rw [erl_pre (fun k hk => h k (by omega))]
    split
    · rename_i ha; rw [h n (by omega) ha]
    · rfl
theorem by_many {L F : List Int} {h : Int} {order : List Int} (hp : projOk L F = true) (h1 : 1 ≤ h) (hn : (L.length : Int) ≤ h) (ho : IsOrder L.length order) : beginsBy L F h order = early L F := by
  have h6 := (projOk_iff.1 hp).1
  have key : ∀ (k m : Nat) (b : List Int), Made L F h m b → m + k ≤ L.length → (∀ i, i < L.length → 0 ≤ b.getD i 0 → b.getD i 0 = (early L F).getD i 0) →
      ∀ i, i < L.length → 0 ≤ (runBy L F h order k b).getD i 0 → (runBy L F h order k b).getD i 0 = (early L F).getD i 0 := by
    intro k
    induction k with
    | zero => intro m b _ _ hS; exact hS
    | succ k ih =>
      intro m b hM hk hS
      simp only [runBy]
      have hl := hM.len
      obtain ⟨i, hi, hb, hf⟩ := elig_some hM (by omega)
      obtain ⟨v, _, _, _, _, he, e⟩ := stepBy_first L F h b (order := order) ⟨(i : Int), order_mem ho (by omega), by unfold elig; rw [Int.toNat_natCast]; exact ⟨hb, hf⟩⟩
      rw [e]
      have hv : v.toNat < b.length := by
        apply Classical.byContradiction
        intro hno
        have := he.1
        rw [List.getD_eq_getElem?_getD, List.getElem?_eq_none (by omega)] at this
        simp at this
      obtain ⟨hM2, q2, q3, q4⟩ := made_set hp hM h1 (by omega) hv he.1 he.2
      refine ih (m + 1) _ hM2 (by omega) ?_
      unfold elig at he
      generalize v.toNat = a at hv he q2 q3 q4 hM2
      have hfree : freeAt L b h a (erl L F b a a) = true := freeN_iff.2 (fun j _ => by
        have := cnt_lt (f := isBusy L b (erl L F b a a + j)) (g := fun _ => true) (i := a) (n := b.length) (decide_eq_false (fun ⟨d1, _⟩ => by rw [he.1] at d1; omega)) rfl hv (fun _ _ _ => rfl)
        have hb2 := cnt_bound (fun _ => true) b.length
        unfold busyN
        omega)
      have e120 : erl L F b a a ≤ 120 := erl_le (by omega) (fun c hc ha => by
        have h2 := frOk_iff.1 he.2 c hc ha
        have := hM.val c (by omega)
        omega)
      have htw := q4 _ (Int.le_refl _) e120 hfree
      have het : findT L b h a 200 (erl L F b a a) = erl L F b a a := by omega
      rw [het]
      intro j hj hbj
      rw [getD_set hv] at hbj ⊢
      by_cases ej : j = a
      · subst ej
        rw [if_pos rfl, early_at hj]
        exact erl_pre (fun c hc ha => hS c (by omega) (frOk_iff.1 he.2 c hc ha))
      · rw [if_neg ej] at hbj ⊢
        exact hS j hj hbj
  have h0 := key order.length 0 (noneB L.length) (made_none (by omega)) (by rw [ho.1]; omega) (fun i hi hb => by rw [getD_none hi] at hb; omega)
  have hM := by_made hp h1 ho
  have hel : (early L F).length = L.length := earlyTo_length L F _
  refine List.ext_getElem (by rw [hM.len, hel]) (fun i a1 a2 => ?_)
  have hi : i < L.length := by omega
  have h2 := h0 i hi (hM.all hp hi).1
  have h3 : (beginsBy L F h order).getD i 0 = (early L F).getD i 0 := h2
  rw [List.getD_eq_getElem?_getD, List.getD_eq_getElem?_getD, List.getElem?_eq_getElem a1, List.getElem?_eq_getElem a2] at h3
  exact h3
end Go.Proofs.Ytmgikoaeomieeaa.Pp
