/-
  Projects, plain: where no hand is idle the end is less than twice the least one.
-/
import Derived.Test.YtmgikoaeomieeaaP46
namespace Go.Proofs.Ytmgikoaeomieeaa.Pp

theorem sum_le_work {L b : List Int} {E : Nat} : ∀ {n : Nat}, (∀ k, k < n → 0 ≤ L.getD k 0) → ((sumT (fun t => cnt (isBusy L b t) n) E : Nat) : Int) ≤ work L n
  | 0, _ => by simp only [cnt, work]; rw [sumT_zero]; exact Int.le_refl _
  | n + 1, h => by
    simp only [cnt, work]
    rw [sumT_add]
    have ih := sum_le_work (L := L) (b := b) (E := E) (n := n) (fun k hk => h k (by omega))
    have h1 := h n (by omega)
    obtain ⟨l, hl⟩ := Int.eq_ofNat_of_zero_le h1
    by_cases hb : 0 ≤ b.getD n 0
    · obtain ⟨a, ha⟩ := Int.eq_ofNat_of_zero_le hb
      have e1 : sumT (fun t => if isBusy L b t n = true then 1 else 0) E = sumT (fun t => if decide ((a : Int) ≤ t ∧ t < (a : Int) + l) then 1 else 0) E := sumT_congr (fun t _ => by
        unfold isBusy
        rw [ha, hl]
        simp)
      rw [e1, sumT_one a l E, hl]
      omega
    · have e1 : sumT (fun t => if isBusy L b t n = true then 1 else 0) E = sumT (fun _ => 0) E := sumT_congr (fun t _ => by
        have : isBusy L b t n = false := decide_eq_false (fun ⟨c, _⟩ => hb c)
        rw [this]; rfl)
      rw [e1, sumT_zero, hl]
      omega
theorem sumT_ge {f : Int → Nat} {c : Nat} : ∀ {n : Nat}, (∀ t : Nat, t < n → c ≤ f t) → c * n ≤ sumT f n
  | 0, _ => Nat.zero_le _
  | n + 1, h => by
    simp only [sumT]
    have := sumT_ge (n := n) (fun t ht => h t (by omega))
    have := h n (by omega)
    rw [Nat.mul_succ]; omega
theorem work_bound {L F : List Int} (hp : projOk L F = true) : ∀ {n : Nat}, n ≤ L.length → 0 ≤ work L n ∧ work L n ≤ 20 * (n : Int)
  | 0, _ => by simp [work]
  | n + 1, hn => by
    simp only [work]
    have := work_bound hp (n := n) (by omega)
    have := long_at hp (show n < L.length by omega)
    omega
section
variable {L F : List Int} {h : Int} {order : List Int}
/-- In time all have begun. -/
theorem gr_all (hp : projOk L F = true) (h1 : 1 ≤ h) (ho : IsOrder L.length order) {T : Nat} (hT : 121 ≤ T) {i : Nat} (hi : i < L.length) : 0 ≤ (greedyTo L F h order T).getD i 0 := by
  have hG := gr2_to (F := F) hp (by omega) ho T (h := h)
  have hl := hG.gr.len
  have h6 := (projOk_iff.1 hp).1
  apply Classical.byContradiction
  intro hno
  have hb : (greedyTo L F h order T).getD i 0 = -1 := by
    have := hG.gr.val i (by omega); omega
  have h2 := sumT_ge (f := fun t => busyN L (greedyTo L F h order T) t) (c := 1) (n := T) (fun t ht => gr2_taken hp h1 hG ht ⟨i, by omega, .inl hb⟩)
  have h3 := sum_le_work (L := L) (b := greedyTo L F h order T) (E := T) (n := L.length) (fun k hk => by have := long_at hp hk; omega)
  have h4 := (work_bound hp (Nat.le_refl L.length)).2
  have e : sumT (fun t => busyN L (greedyTo L F h order T) t) T = sumT (fun t => cnt (isBusy L (greedyTo L F h order T) t) L.length) T := sumT_congr (fun t _ => by unfold busyN; rw [hl])
  rw [e] at h2
  omega
theorem greedyAt_done {L F : List Int} {h t : Int} {b : List Int} : ∀ {os : List Int}, (∀ v ∈ os, b.getD v.toNat 0 ≠ -1) → greedyAt L F h t os b = b
  | [], _ => rfl
  | v :: os, hv => by
    simp only [greedyAt]
    have e : greedy1 L F h t b v = b := by
      unfold greedy1
      exact if_neg (fun hc => hv v List.mem_cons_self hc.1)
    rw [e]
    exact greedyAt_done (fun w hw => hv w (List.mem_cons_of_mem _ hw))
/-- Once all have begun nothing turns. -/
theorem greedy_done (ho : IsOrder L.length order) {T : Nat} (hT : ∀ i, i < L.length → 0 ≤ (greedyTo L F h order T).getD i 0) : ∀ d, greedyTo L F h order (T + d) = greedyTo L F h order T
  | 0 => rfl
  | d + 1 => by
    show greedyAt L F h ((T + d : Nat) : Int) order (greedyTo L F h order (T + d)) = _
    rw [greedy_done ho hT d]
    exact greedyAt_done (fun v hv => by
      have := ho.2.2 v hv
      have := hT v.toNat (by omega)
      omega)
theorem greedy_same (hp : projOk L F = true) (h1 : 1 ≤ h) (ho : IsOrder L.length order) {T : Nat} (hT : T ≤ 121) (hall : ∀ i, i < L.length → 0 ≤ (greedyTo L F h order T).getD i 0) : greedyTo L F h order T = greedyBy L F h order := by
  have := greedy_done ho hall (121 - T)
  rw [show T + (121 - T) = 121 by omega] at this
  exact this.symm
theorem greedy_far (hp : projOk L F = true) (h1 : 1 ≤ h) (ho : IsOrder L.length order) (d : Nat) : greedyTo L F h order (121 + d) = greedyBy L F h order :=
  greedy_done ho (fun _ hi => gr_all hp h1 ho (Nat.le_refl _) hi) d
/-- They are right. -/
theorem greedy_ok (hp : projOk L F = true) (hh : 1 ≤ h ∧ h ≤ 3) (ho : IsOrder L.length order) : beginsOk L F h (greedyBy L F h order) = true := by
  have hG := gr2_to (F := F) hp (by omega) ho 121 (h := h)
  have hall := fun i hi => gr_all (F := F) hp hh.1 ho (Nat.le_refl 121) (i := i) hi
  have hl := hG.gr.len
  refine beginsOk_iff.2 ⟨hp, hl, fun v hv => ?_, hh, fun i hi => ⟨fun k hk ha => (hG.gr.pre i hi (hall i (by unfold greedyBy at hi; omega)) k hk ha).2, hG.gr.few _⟩⟩
  obtain ⟨i, hi, e⟩ := List.getElem_of_mem hv
  have ev : (greedyTo L F h order 121).getD i 0 = v := by
    have : (greedyBy L F h order).getD i 0 = v := by rw [List.getD_eq_getElem?_getD, List.getElem?_eq_getElem hi, e]; rfl
    exact this
  have a := hG.gr.val i hi
  have c := hall i (by unfold greedyBy at hi; omega)
  rw [ev] at a c
  omega
theorem greedy_len (hp : projOk L F = true) (h1 : 1 ≤ h) (ho : IsOrder L.length order) : (greedyBy L F h order).length = L.length := (gr2_to (F := F) hp (by omega) ho 121 (h := h)).gr.len

/-! ### idle times -/
def idleT (L b : List Int) (h : Int) (t : Int) : Nat := if (busyN L b t : Int) < h then 1 else 0
theorem sumT_mono {f : Int → Nat} (u : Nat) : ∀ d, sumT f u ≤ sumT f (u + d)
  | 0 => Nat.le_refl _
  | d + 1 => by
    have := sumT_mono (f := f) u d
    show sumT f u ≤ sumT f (u + d) + f ((u + d : Nat) : Int)
    omega
theorem idle_add (L b : List Int) (h : Int) (u : Nat) : ∀ d, sumT (idleT L b h) (u + d) ≤ sumT (idleT L b h) u + d
  | 0 => Nat.le_refl _
  | d + 1 => by
    have := idle_add L b h u d
    show sumT (idleT L b h) (u + d) + idleT L b h ((u + d : Nat) : Int) ≤ _
    have : idleT L b h ((u + d : Nat) : Int) ≤ 1 := by unfold idleT; split <;> omega
    omega
theorem idle_same {L b : List Int} {h : Int} {u : Nat} : ∀ {d : Nat}, (∀ t : Nat, u ≤ t → t < u + d → h ≤ (busyN L b (t : Int) : Int)) → sumT (idleT L b h) (u + d) = sumT (idleT L b h) u
  | 0, _ => rfl
  | d + 1, hf => by
    show sumT (idleT L b h) (u + d) + idleT L b h ((u + d : Nat) : Int) = _
    rw [idle_same (fun t h1 h2 => hf t h1 (by omega))]
    have := hf (u + d) (by omega) (by omega)
    unfold idleT
    rw [if_neg (by omega)]
    rfl
theorem erl_attain (L F e : List Int) (i : Nat) : ∀ n, erl L F e i n = 0 ∨ ∃ k, k < n ∧ aft F i k = true ∧ erl L F e i n = e.getD k 0 + L.getD k 0
  | 0 => .inl rfl
  | n + 1 => by
    simp only [erl]
    rcases erl_attain L F e i n with h | ⟨k, h1, h2, h3⟩
    · split
      · rename_i ha
        rcases Int.le_total (erl L F e i n) (e.getD n 0 + L.getD n 0) with c | c
        · exact .inr ⟨n, by omega, ha, Int.max_eq_right c⟩
        · rw [Int.max_eq_left c]; exact .inl h
      · exact .inl h
    · split
      · rename_i ha
        rcases Int.le_total (erl L F e i n) (e.getD n 0 + L.getD n 0) with c | c
        · exact .inr ⟨n, by omega, ha, Int.max_eq_right c⟩
        · rw [Int.max_eq_left c]; exact .inr ⟨k, by omega, h2, h3⟩
      · exact .inr ⟨k, by omega, h2, h3⟩
theorem endTo_attain (L b : List Int) : ∀ n, endTo L b n = 0 ∨ ∃ k, k < n ∧ endTo L b n = b.getD k 0 + L.getD k 0
  | 0 => .inl rfl
  | n + 1 => by
    simp only [endTo]
    rcases Int.le_total (endTo L b n) (b.getD n 0 + L.getD n 0) with c | c
    · exact .inr ⟨n, by omega, Int.max_eq_right c⟩
    · rw [Int.max_eq_left c]
      rcases endTo_attain L b n with h | ⟨k, h1, h2⟩
      · exact .inl h
      · exact .inr ⟨k, by omega, h2⟩
/-- Before a task's begin no longer were hands idle than its chain lasts. -/
theorem idle_early (hp : projOk L F = true) {T : Nat} {b : List Int} (hG : Gr2 L F h T b) (hall : ∀ i, i < L.length → 0 ≤ b.getD i 0) : ∀ i, i < L.length → (sumT (idleT L b h) (b.getD i 0).toNat : Int) ≤ (early L F).getD i 0 := by
  have hl := hG.gr.len
  intro i
  induction i using Nat.strongRecOn with
  | _ i ih =>
    intro hi
    have hf : frOk F b i i = true := frOk_iff.2 (fun k hk _ => hall k (by omega))
    have hbi := hall i hi
    have hle : erl L F b i i ≤ b.getD i 0 := erl_le hbi (fun k hk ha => (hG.gr.pre i (by omega) hbi k hk ha).2)
    have h0 := erl_nonneg L F b i i
    obtain ⟨e, he⟩ := Int.eq_ofNat_of_zero_le h0
    obtain ⟨s, hs⟩ := Int.eq_ofNat_of_zero_le hbi
    have hval := hG.gr.val i (by omega)
    have e1 : sumT (idleT L b h) (b.getD i 0).toNat = sumT (idleT L b h) e := by
      rw [show (b.getD i 0).toNat = e + (s - e) by omega]
      exact idle_same (fun t h2 h3 => hG.full i (by omega) hf t (by omega) (by omega) (.inr (by omega)))
    rw [e1]
    rcases erl_attain L F b i i with h2 | ⟨k, h2, h3, h4⟩
    · have : e = 0 := by omega
      subst this
      rw [early_at hi]
      simp only [sumT]
      have := erl_nonneg L F (early L F) i i
      omega
    · have h5 := ih k h2 (by omega)
      have hLk := long_at hp (show k < L.length by omega)
      have hbk := hall k (by omega)
      have h6 := idle_add L b h (b.getD k 0).toNat (L.getD k 0).toNat
      rw [show (b.getD k 0).toNat + (L.getD k 0).toNat = e by omega] at h6
      have h7 := erl_ge (L := L) (e := early L F) h2 h3
      rw [early_at hi]
      omega
theorem sum_two {f g : Int → Nat} {c d : Nat} : ∀ {n : Nat}, (∀ t : Nat, t < n → c ≤ f t + d * g t) → c * n ≤ sumT f n + d * sumT g n
  | 0, _ => Nat.zero_le _
  | n + 1, h => by
    simp only [sumT]
    have := sum_two (n := n) (fun t ht => h t (by omega))
    have := h n (by omega)
    rw [Nat.mul_succ, Nat.mul_add]
    omega
theorem greedy_twice (hp : projOk L F = true) (hh : 1 ≤ h ∧ h ≤ 3) (ho : IsOrder L.length order) : h * endOf L (greedyBy L F h order) ≤ (2 * h - 1) * leastE L F h := by
  have hG := gr2_to (F := F) hp (by omega) ho (121 + 300) (h := h)
  rw [greedy_far hp hh.1 ho] at hG
  have hall : ∀ i, i < L.length → 0 ≤ (greedyBy L F h order).getD i 0 := fun i hi => gr_all (F := F) hp hh.1 ho (Nat.le_refl 121) (i := i) hi
  have hok := greedy_ok hp hh ho
  obtain ⟨b, hb⟩ : ∃ b, greedyBy L F h order = b := ⟨_, rfl⟩
  rw [hb] at hG hall hok ⊢
  have hl := hG.gr.len
  have he := endTo_nonneg L b L.length
  obtain ⟨E, hE⟩ : ∃ E : Nat, endOf L b = (E : Int) := ⟨(endOf L b).toNat, by unfold endOf; omega⟩
  obtain ⟨hn, hhn⟩ : ∃ hn : Nat, h = (hn : Int) := ⟨h.toNat, by omega⟩
  have hlim : ∀ k, k < L.length → b.getD k 0 ≤ 120 := fun k hk => by
    have hG2 := gr2_to (F := F) hp (by omega) ho 121 (h := h)
    have := hG2.gr.val k (by have := hG2.gr.len; omega)
    have e : greedyTo L F h order 121 = b := hb
    rw [e] at this
    omega
  have hE140 : E ≤ 140 := by
    rcases endTo_attain L b L.length with c | ⟨k, hk, c⟩
    · unfold endOf at hE; omega
    · have := hlim k hk
      have := long_at hp hk
      unfold endOf at hE
      omega
  -- idle hands
  have hidle : (sumT (idleT L b h) E : Int) ≤ lenOf L F := by
    rcases endTo_attain L b L.length with c | ⟨k, hk, c⟩
    · have : E = 0 := by unfold endOf at hE; omega
      subst this
      simp only [sumT]
      exact endTo_nonneg _ _ _
    · have h5 := idle_early hp hG hall k hk
      have hLk := long_at hp hk
      have hbk := hall k hk
      have h6 := idle_add L b h (b.getD k 0).toNat (L.getD k 0).toNat
      rw [show (b.getD k 0).toNat + (L.getD k 0).toNat = E by unfold endOf at hE; omega] at h6
      have h7 := endTo_ge L (early L F) hk
      unfold lenOf endOf
      omega
  have hwork := sum_busy (L := L) (b := b) (E := E) (n := L.length) (fun k hk => by
    have := long_at hp hk
    have h2 := endTo_ge L b hk
    have := hall k hk
    unfold endOf at hE
    omega)
  have htwo := sum_two (f := fun t => busyN L b t) (g := idleT L b h) (c := hn) (d := hn - 1) (n := E) (fun t ht => by
    by_cases hc : (busyN L b (t : Int) : Int) < h
    · have h1 : idleT L b h (t : Int) = 1 := if_pos hc
      rw [h1]
      have : 1 ≤ busyN L b (t : Int) := gr2_taken hp hh.1 hG (u := t) (by omega) (by
        rcases endTo_attain L b L.length with c | ⟨k, hk, c⟩
        · unfold endOf at hE; omega
        · exact ⟨k, by omega, .inr (by unfold endOf at hE; omega)⟩)
      omega
    · omega)
  have e : sumT (fun t => busyN L b t) E = sumT (fun t => cnt (isBusy L b t) L.length) E := sumT_congr (fun t _ => by unfold busyN; rw [hl])
  rw [e] at htwo
  have hw := least_work (F := F) hp hh (h := h)
  have hln := least_len (F := F) hp hh (h := h)
  have hz : (hn : Int) * E ≤ work L L.length + ((hn : Int) - 1) * (sumT (idleT L b h) E : Int) := by
    rw [← hwork]
    have := Int.ofNat_le.2 htwo
    rw [Int.natCast_add, Int.natCast_mul, Int.natCast_mul, Int.natCast_sub (by omega)] at this
    exact this
  rw [hE, hhn]
  rw [hhn] at hw hln
  rw [hhn] at hidle
  have hidle2 : ((hn : Int) - 1) * (sumT (idleT L b (hn : Int)) E : Int) ≤ ((hn : Int) - 1) * leastE L F (hn : Int) := Int.mul_le_mul_of_nonneg_left (by omega) (by omega)
  rw [hhn] at hz
  have e2 : (2 * (hn : Int) - 1) * leastE L F (hn : Int) = (hn : Int) * leastE L F (hn : Int) + ((hn : Int) - 1) * leastE L F (hn : Int) := by
    rw [← Int.add_mul]
    congr 1
    omega
  rw [e2]
  omega
theorem greedy_many (hp : projOk L F = true) (hh : 1 ≤ h ∧ h ≤ 3) (hn : (L.length : Int) ≤ h) (ho : IsOrder L.length order) : greedyBy L F h order = early L F := by
  have hG := gr2_to (F := F) hp (by omega) ho 121 (h := h)
  have hall := fun i hi => gr_all (F := F) hp hh.1 ho (Nat.le_refl 121) (i := i) hi
  have hl := hG.gr.len
  have key : ∀ i, i < L.length → (greedyTo L F h order 121).getD i 0 = (early L F).getD i 0 := by
    intro i
    induction i using Nat.strongRecOn with
    | _ i ih =>
      intro hi
      rw [early_at hi]
      have hf : frOk F (greedyTo L F h order 121) i i = true := frOk_iff.2 (fun k hk _ => hall k (by omega))
      have hbi := hall i hi
      have hle : erl L F (greedyTo L F h order 121) i i ≤ (greedyTo L F h order 121).getD i 0 := erl_le hbi (fun k hk ha => (hG.gr.pre i (by omega) hbi k hk ha).2)
      have h0 := erl_nonneg L F (greedyTo L F h order 121) i i
      rw [← erl_pre (fun k hk _ => ih k hk (by omega))]
      apply Classical.byContradiction
      intro hne
      have hval := hG.gr.val i (by omega)
      have h1 := hG.full i (by omega) hf (erl L F (greedyTo L F h order 121) i i).toNat (by omega) (by omega) (.inr (by omega))
      have h2 := cnt_lt (f := isBusy L (greedyTo L F h order 121) (((erl L F (greedyTo L F h order 121) i i).toNat : Nat) : Int)) (g := fun _ => true) (i := i) (n := (greedyTo L F h order 121).length) (decide_eq_false (fun ⟨_, d, _⟩ => by omega)) rfl (by omega) (fun _ _ _ => rfl)
      have h3 := cnt_bound (fun _ => true) (greedyTo L F h order 121).length
      unfold busyN at h1
      omega
  have hel : (early L F).length = L.length := earlyTo_length L F _
  refine List.ext_getElem (by rw [hel]; exact hl) (fun i a1 a2 => ?_)
  have h3 : (greedyBy L F h order).getD i 0 = (early L F).getD i 0 := key i (by omega)
  rw [List.getD_eq_getElem?_getD, List.getD_eq_getElem?_getD, List.getElem?_eq_getElem a1, List.getElem?_eq_getElem a2] at h3
  exact h3
end
end Go.Proofs.Ytmgikoaeomieeaa.Pp
