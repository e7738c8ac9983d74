/-
  Projects, plain: some order makes begins that end no later than any right begins.
-/
import Derived.Test.YtmgikoaeomieeaaP41
namespace Go.Proofs.Ytmgikoaeomieeaa.Pp

/-- The tasks, by their begins. -/
def byBegin (n : Nat) (b : List Int) : List Int := ((List.range n).map (fun (i : Nat) => (i : Int))).mergeSort (fun i j => decide (b.getD i.toNat 0 ≤ b.getD j.toNat 0))
theorem range_order (n : Nat) : IsOrder n ((List.range n).map (fun (i : Nat) => (i : Int))) := by
  refine ⟨by simp, ?_, fun v hv => ?_⟩
  · unfold List.Nodup
    rw [List.pairwise_map]
    refine List.Pairwise.imp ?_ (List.nodup_range (n := n))
    intro a b h e
    exact h (by omega)
  · obtain ⟨i, hi, rfl⟩ := List.mem_map.1 hv
    rw [List.mem_range] at hi
    omega
theorem order_perm {n : Nat} {a b : List Int} (h : a.Perm b) (ha : IsOrder n a) : IsOrder n b :=
  ⟨by rw [← h.length_eq]; exact ha.1, h.nodup_iff.1 ha.2.1, fun v hv => ha.2.2 v (h.mem_iff.2 hv)⟩
theorem byBegin_order (n : Nat) (b : List Int) : IsOrder n (byBegin n b) := order_perm (List.mergeSort_perm _ _).symm (range_order n)
theorem byBegin_sorted (n : Nat) (b : List Int) : (byBegin n b).Pairwise (fun i j => b.getD i.toNat 0 ≤ b.getD j.toNat 0) := by
  have h := List.pairwise_mergeSort (le := fun (i j : Int) => decide (b.getD i.toNat 0 ≤ b.getD j.toNat 0)) (fun a b c h1 h2 => by simp at h1 h2 ⊢; omega) (fun a b => by simp; omega) ((List.range n).map (fun (i : Nat) => (i : Int)))
  exact h.imp (fun h => by simpa using h)
section
variable {L F : List Int} {h : Int} {b : List Int}
/-- Behind so many steps: the first ones of the order have begun, none later than in the right begins. -/
structure Ser (L F : List Int) (h : Int) (b order : List Int) (m : Nat) (s : List Int) : Prop where
  made : Made L F h m s
  yes : ∀ j, j < m → ∀ v, order[j]? = some v → 0 ≤ s.getD v.toNat 0 ∧ s.getD v.toNat 0 ≤ b.getD v.toNat 0
  no : ∀ j, m ≤ j → ∀ v, order[j]? = some v → s.getD v.toNat 0 = -1
theorem ser_step (hb : beginsOk L F h b = true) {m : Nat} {s : List Int} (hm : m < L.length) (hS : Ser L F h b (byBegin L.length b) m s) : Ser L F h b (byBegin L.length b) (m + 1) (stepBy L F h s (byBegin L.length b)) := by
  obtain ⟨hp, hlen, hbv, hh, hbi⟩ := beginsOk_iff.1 hb
  have h6 := (projOk_iff.1 hp).1
  have ho := byBegin_order L.length b
  have hs := byBegin_sorted L.length b
  obtain ⟨order, hor⟩ : ∃ order, byBegin L.length b = order := ⟨_, rfl⟩
  rw [hor] at ho hs hS ⊢
  obtain ⟨o1, o2, o3⟩ := ho
  have hml : m < order.length := by omega
  have hx := List.getElem?_eq_getElem hml
  obtain ⟨v, hv⟩ : ∃ v, order[m] = v := ⟨_, rfl⟩
  rw [hv] at hx
  have hv0 := o3 v (List.mem_of_getElem? hx)
  obtain ⟨i, rfl⟩ := Int.eq_ofNat_of_zero_le hv0.1
  have hi : i < L.length := by omega
  have hsl := hS.made.len
  have hat : ∀ k, k < L.length → ∃ j, order[j]? = some (k : Int) := fun k hk => List.getElem?_of_mem (order_mem ⟨o1, o2, o3⟩ hk)
  have hsort : ∀ (j1 j2 : Nat) (a c : Int), j1 < j2 → order[j1]? = some a → order[j2]? = some c → b.getD a.toNat 0 ≤ b.getD c.toNat 0 := by
    intro j1 j2 a c hj h1 h2
    obtain ⟨l1, e1⟩ := List.getElem?_eq_some_iff.1 h1
    obtain ⟨l2, e2⟩ := List.getElem?_eq_some_iff.1 h2
    have := List.pairwise_iff_getElem.1 hs j1 j2 l1 l2 hj
    rw [e1, e2] at this
    exact this
  -- who has begun, is ahead in the order
  have hbeg : ∀ k, k < L.length → 0 ≤ s.getD k 0 → ∃ j, j < m ∧ order[j]? = some (k : Int) := by
    intro k hk h0
    obtain ⟨j, hj⟩ := hat k hk
    refine ⟨j, ?_, hj⟩
    apply Classical.byContradiction
    intro hno
    have := hS.no j (by omega) _ hj
    rw [Int.toNat_natCast] at this
    omega
  have hle : ∀ k, k < L.length → 0 ≤ s.getD k 0 → s.getD k 0 ≤ b.getD k 0 ∧ b.getD k 0 ≤ b.getD i 0 := by
    intro k hk h0
    obtain ⟨j, hj, e⟩ := hbeg k hk h0
    have h1 := (hS.yes j hj _ e).2
    have h2 := hsort j m _ _ hj e hx
    rw [Int.toNat_natCast] at h1 h2
    rw [Int.toNat_natCast] at h2
    exact ⟨h1, h2⟩
  have hi1 : s.getD i 0 = -1 := by
    have := hS.no m (Nat.le_refl _) _ hx
    rwa [Int.toNat_natCast] at this
  obtain ⟨hpre, hfew⟩ := hbi i (by omega)
  have hfr : frOk F s i i = true := frOk_iff.2 (fun k hk ha => by
    have h1 := hpre k hk ha
    have h2 := long_at hp (show k < L.length by omega)
    obtain ⟨j, hj⟩ := hat k (by omega)
    have hjm : j < m := by
      apply Classical.byContradiction
      intro hno
      by_cases e : j = m
      · subst e
        rw [hx] at hj
        have := Option.some.inj hj
        omega
      · have := hsort m j _ _ (by omega) hx hj
        rw [Int.toNat_natCast, Int.toNat_natCast] at this
        omega
    have := (hS.yes j hjm _ hj).1
    rwa [Int.toNat_natCast] at this)
  have hel : elig F s (i : Int) := by unfold elig; rw [Int.toNat_natCast]; exact ⟨hi1, hfr⟩
  -- the step takes it
  obtain ⟨u, pre, post, e1, e2, e3, e4⟩ := stepBy_first L F h s (order := order) ⟨(i : Int), List.mem_of_getElem? hx, hel⟩
  have hu : u = (i : Int) := by
    have hpu : order[pre.length]? = some u := by rw [e1]; simp
    rcases Nat.lt_trichotomy pre.length m with c | c | c
    · have := (hS.yes _ c _ hpu).1
      have := e3.1
      omega
    · rw [c, hx] at hpu
      exact (Option.some.inj hpu).symm
    · exfalso
      have : (i : Int) ∈ pre := by
        have h1 : order[m]? = pre[m]? := by rw [e1, List.getElem?_append_left c]
        rw [hx] at h1
        exact List.mem_of_getElem? h1.symm
      exact e2 _ this hel
  subst hu
  rw [e4]
  rw [Int.toNat_natCast]
  obtain ⟨q1, q2, q3, q4⟩ := made_set hp hS.made hh.1 (by omega) (show i < s.length by omega) hi1 hfr
  obtain ⟨t, ht⟩ : ∃ t, findT L s h i 200 (erl L F s i i) = t := ⟨_, rfl⟩
  rw [ht] at q1 q2 q3 q4 ⊢
  have hLi := long_at hp hi
  have hb0 : 0 ≤ b.getD i 0 ∧ b.getD i 0 ≤ 2000 := by
    rw [List.getD_eq_getElem?_getD, List.getElem?_eq_getElem (show i < b.length by omega)]
    exact hbv _ (List.getElem_mem _)
  have hfree : freeAt L s h i (b.getD i 0) = true := by
    refine freeN_iff.2 (fun k hk => ?_)
    have hk2 : (k : Int) < L.getD i 0 := by omega
    have := cnt_lt (f := isBusy L s (b.getD i 0 + k)) (g := isBusy L b (b.getD i 0)) (i := i) (n := b.length) (decide_eq_false (fun ⟨c, _⟩ => by rw [hi1] at c; omega)) (decide_eq_true ⟨hb0.1, Int.le_refl _, by omega⟩) (by omega) (fun j hj hbz => by
      obtain ⟨c1, c2, c3⟩ := of_decide_eq_true hbz
      obtain ⟨d1, d2⟩ := hle j (by omega) c1
      refine decide_eq_true ⟨by omega, d2, by omega⟩)
    unfold busyN at hfew ⊢
    rw [hsl, ← hlen]
    omega
  have htb : t ≤ b.getD i 0 := by
    by_cases hc : b.getD i 0 ≤ 120
    · refine q4 _ (erl_le hb0.1 (fun k hk ha => ?_)) hc hfree
      have h1 := hpre k hk ha
      have h2 := hle k (by omega) (frOk_iff.1 hfr k hk ha)
      omega
    · have := q1.val i (by rw [List.length_set]; omega)
      rw [getD_set (show i < s.length by omega), if_pos rfl] at this
      omega
  have hget : ∀ j, (s.set i t).getD j 0 = if j = i then t else s.getD j 0 := fun j => getD_set (show i < s.length by omega)
  have hinj : ∀ (j : Nat) (w : Int), order[j]? = some w → w.toNat = i → j = m := by
    intro j w hj hw
    have h0 := o3 w (List.mem_of_getElem? hj)
    have hwi : w = (i : Int) := by omega
    subst hwi
    obtain ⟨l1, e1⟩ := List.getElem?_eq_some_iff.1 hj
    exact (List.getElem_inj o2).1 (e1.trans hv.symm)
  refine ⟨q1, fun j hj w hw => ?_, fun j hj w hw => ?_⟩
  · rw [hget]
    by_cases e : w.toNat = i
    · rw [if_pos e, e]; exact ⟨q2, htb⟩
    · rw [if_neg e]
      refine hS.yes j ?_ w hw
      apply Classical.byContradiction
      intro hno
      have hjm : j = m := by omega
      subst hjm
      rw [hx] at hw
      have := Option.some.inj hw
      subst this
      exact e (Int.toNat_natCast _)
  · rw [hget, if_neg (fun e => by have := hinj j w hw e; omega)]
    exact hS.no j (by omega) w hw
theorem ser_run (hb : beginsOk L F h b = true) : ∀ (k m : Nat) (s : List Int), m + k = L.length → Ser L F h b (byBegin L.length b) m s → Ser L F h b (byBegin L.length b) L.length (runBy L F h (byBegin L.length b) k s)
  | 0, m, s, hm, hS => by
    have e : m = L.length := by omega
    subst e
    exact hS
  | k + 1, m, s, hm, hS => by
    simp only [runBy]
    exact ser_run hb k (m + 1) _ (by omega) (ser_step hb (by omega) hS)
/-- Begins by some order end no later than any right ones. -/
theorem by_best (hb : beginsOk L F h b = true) : IsOrder L.length (byBegin L.length b) ∧ endOf L (beginsBy L F h (byBegin L.length b)) ≤ endOf L b := by
  obtain ⟨hp, hlen, hbv, hh, hbi⟩ := beginsOk_iff.1 hb
  have ho := byBegin_order L.length b
  refine ⟨ho, ?_⟩
  have hS0 : Ser L F h b (byBegin L.length b) 0 (noneB L.length) := ⟨made_none (by omega), fun j hj => by omega, fun j _ v hv => by
    have := ho.2.2 v (List.mem_of_getElem? hv)
    exact getD_none (by omega)⟩
  have hS := ser_run hb L.length 0 _ (by omega) hS0
  have e : runBy L F h (byBegin L.length b) L.length (noneB L.length) = beginsBy L F h (byBegin L.length b) := by unfold beginsBy; rw [ho.1]
  rw [e] at hS
  refine endTo_le (endTo_nonneg _ _ _) (fun k hk => ?_)
  obtain ⟨j, hj⟩ := List.getElem?_of_mem (order_mem ho hk)
  have hjl := (List.getElem?_eq_some_iff.1 hj).1
  have h1 := (hS.yes j (by have := ho.1; omega) _ hj).2
  rw [Int.toNat_natCast] at h1
  have h2 := endTo_ge L b hk
  omega
end
end Go.Proofs.Ytmgikoaeomieeaa.Pp
