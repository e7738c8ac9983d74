/-
  Projects, plain: begins as time goes on (greedy).
-/
import Derived.Test.YtmgikoaeomieeaaP44
namespace Go.Proofs.Ytmgikoaeomieeaa.Pp

/-- One task at one time. -/
def greedy1 (L F : List Int) (h t : Int) (b : List Int) (v : Int) : List Int :=
  if b.getD v.toNat 0 = -1 ∧ frOk F b v.toNat v.toNat = true ∧ erl L F b v.toNat v.toNat ≤ t ∧ (busyN L b t : Int) < h then b.set v.toNat t else b
def greedyAt (L F : List Int) (h t : Int) : List Int → List Int → List Int
  | [], b => b
  | v :: os, b => greedyAt L F h t os (greedy1 L F h t b v)
def greedyTo (L F : List Int) (h : Int) (order : List Int) : Nat → List Int
  | 0 => noneB L.length
  | t + 1 => greedyAt L F h (t : Int) order (greedyTo L F h order t)
def greedyBy (L F : List Int) (h : Int) (order : List Int) : List Int := greedyTo L F h order 121

/-- What holds of begins up to some time. -/
structure Gr (L F : List Int) (h t : Int) (b : List Int) : Prop where
  len : b.length = L.length
  val : ∀ i, i < b.length → b.getD i 0 = -1 ∨ (0 ≤ b.getD i 0 ∧ b.getD i 0 ≤ t)
  pre : ∀ i, i < b.length → 0 ≤ b.getD i 0 → ∀ k, k < i → aft F i k = true → 0 ≤ b.getD k 0 ∧ b.getD k 0 + L.getD k 0 ≤ b.getD i 0
  few : ∀ u, (busyN L b u : Int) ≤ h
/-- What has begun stays so; what begins, begins now. -/
def Ext (t : Int) (b b' : List Int) : Prop := b'.length = b.length ∧ ∀ i, b'.getD i 0 = b.getD i 0 ∨ (b.getD i 0 = -1 ∧ b'.getD i 0 = t)
theorem Ext.refl (t : Int) (b : List Int) : Ext t b b := ⟨rfl, fun _ => .inl rfl⟩
theorem Ext.trans {t : Int} (h0 : 0 ≤ t) {b b' c : List Int} (h : Ext t b b') (h2 : Ext t b' c) : Ext t b c :=
  ⟨h2.1.trans h.1, fun i => by
    rcases h2.2 i with e | ⟨e1, e2⟩
    · rw [e]; exact h.2 i
    · rcases h.2 i with e | ⟨e3, e4⟩
      · exact .inr ⟨e ▸ e1, e2⟩
      · exact .inr ⟨e3, e2⟩⟩
theorem ext_busy {L b b' : List Int} {t u : Int} (h0 : 0 ≤ t) (h : Ext t b b') : busyN L b u ≤ busyN L b' u := by
  unfold busyN
  rw [h.1]
  refine cnt_le (fun k _ hk => ?_)
  obtain ⟨c1, c2, c3⟩ := of_decide_eq_true hk
  rcases h.2 k with e | ⟨e, _⟩
  · exact decide_eq_true ⟨by rw [e]; exact c1, by rw [e]; exact c2, by rw [e]; exact c3⟩
  · omega
section
variable {L F : List Int} {h t : Int} {b : List Int}
theorem gr_one (hp : projOk L F = true) (h0 : 0 ≤ t) (hG : Gr L F h t b) (v : Int) (hv : 0 ≤ v ∧ v < L.length) : Gr L F h t (greedy1 L F h t b v) ∧ Ext t b (greedy1 L F h t b v) := by
  unfold greedy1
  split
  · rename_i hc
    obtain ⟨c1, c2, c3, c4⟩ := hc
    obtain ⟨i, rfl⟩ := Int.eq_ofNat_of_zero_le hv.1
    rw [Int.toNat_natCast] at *
    have hl := hG.len
    have hi : i < b.length := by omega
    have hat : ∀ j, (b.set i t).getD j 0 = if j = i then t else b.getD j 0 := fun j => getD_set hi
    have hlen : (b.set i t).length = b.length := List.length_set
    have hfr := frOk_iff.1 c2
    refine ⟨⟨by rw [hlen]; exact hl, fun j hj => ?_, fun j hj hbj k hk ha => ?_, fun u => ?_⟩, hlen, fun j => ?_⟩
    · rw [hat]
      split
      · exact .inr ⟨h0, Int.le_refl _⟩
      · exact hG.val j (by omega)
    · rw [hat] at hbj ⊢
      rw [hat]
      by_cases ej : j = i
      · subst ej
        rw [if_neg (by omega), if_pos rfl]
        have := erl_ge (L := L) (e := b) hk ha
        exact ⟨hfr k hk ha, by omega⟩
      · rw [if_neg ej] at hbj ⊢
        have h1 := hG.pre j (by omega) hbj k hk ha
        have : k ≠ i := fun e => by subst e; omega
        rw [if_neg this]
        exact h1
    · have hset := cnt_set (f := isBusy L b u) (g := isBusy L (b.set i t) u) (i := i) (n := b.length) (fun k _ hk => by unfold isBusy; rw [hat, if_neg hk])
      have hfew := hG.few u
      unfold busyN at hfew ⊢
      rw [hlen]
      by_cases hb2 : isBusy L (b.set i t) u i = true
      · rw [if_pos hb2] at hset
        have hb3 := of_decide_eq_true hb2
        rw [hat, if_pos rfl] at hb3
        have hle := cnt_le (f := isBusy L b u) (g := isBusy L b t) (n := b.length) (fun k hk hkb => by
          obtain ⟨d1, d2, d3⟩ := of_decide_eq_true hkb
          have := hG.val k hk
          exact decide_eq_true ⟨d1, by omega, by omega⟩)
        unfold busyN at c4
        omega
      · rw [if_neg hb2] at hset
        omega
    · rw [hat]
      split
      · rename_i e; subst e; exact .inr ⟨c1, rfl⟩
      · exact .inl rfl
  · exact ⟨hG, Ext.refl _ _⟩
/-- One time, in an order: who could have begun had no hand. -/
theorem gr_at (hp : projOk L F = true) (h0 : 0 ≤ t) : ∀ (os : List Int) (b : List Int), Gr L F h t b → (∀ v ∈ os, 0 ≤ v ∧ v < L.length) → Gr L F h t (greedyAt L F h t os b) ∧ Ext t b (greedyAt L F h t os b) ∧
    ∀ i : Nat, (i : Int) ∈ os → (greedyAt L F h t os b).getD i 0 = -1 → frOk F b i i = true → erl L F b i i ≤ t → h ≤ (busyN L (greedyAt L F h t os b) t : Int)
  | [], b, hG, _ => ⟨hG, Ext.refl _ _, fun i hi => by simp at hi⟩
  | v :: os, b, hG, hv => by
    simp only [greedyAt]
    obtain ⟨g1, g2⟩ := gr_one hp h0 hG v (hv v List.mem_cons_self)
    obtain ⟨k1, k2, k3⟩ := gr_at hp h0 os _ g1 (fun w hw => hv w (List.mem_cons_of_mem _ hw))
    refine ⟨k1, g2.trans h0 k2, fun i hi hb hf he => ?_⟩
    have hf2 : frOk F (greedy1 L F h t b v) i i = true := frOk_iff.2 (fun k hk ha => by
      have := frOk_iff.1 hf k hk ha
      rcases g2.2 k with e | ⟨e, _⟩
      · rw [e]; exact this
      · omega)
    have he2 : erl L F (greedy1 L F h t b v) i i ≤ t := by
      rw [erl_pre (e' := b) (fun k hk ha => by
        have := frOk_iff.1 hf k hk ha
        rcases g2.2 k with e | ⟨e, _⟩
        · exact e
        · omega)]
      exact he
    rcases List.mem_cons.1 hi with e | e
    · subst e
      -- its own turn
      have hb1 : b.getD i 0 = -1 := by
        rcases (g2.trans h0 k2).2 i with e | ⟨e, _⟩
        · rw [← e]; exact hb
        · exact e
      have hno : ¬ (busyN L b t : Int) < h := by
        intro hlt
        have hl := hG.len
        have hi2 := (hv (i : Int) List.mem_cons_self).2
        have e1 : greedy1 L F h t b (i : Int) = b.set i t := by
          unfold greedy1
          rw [Int.toNat_natCast]
          exact if_pos ⟨hb1, hf, he, hlt⟩
        have e2 : (greedy1 L F h t b (i : Int)).getD i 0 = t := by rw [e1, getD_set (by omega), if_pos rfl]
        rcases k2.2 i with e | ⟨e, _⟩
        · rw [e, e2] at hb; omega
        · rw [e2] at e; omega
      have := ext_busy (L := L) (u := t) h0 (g2.trans h0 k2)
      omega
    · exact k3 i e hb hf2 he2
end
/-- Up to a time: whoever could have begun before had no hand. -/
structure Gr2 (L F : List Int) (h : Int) (T : Nat) (b : List Int) : Prop where
  gr : Gr L F h ((T : Int) - 1) b
  full : ∀ i, i < b.length → frOk F b i i = true → ∀ u : Nat, u < T → erl L F b i i ≤ u → (b.getD i 0 = -1 ∨ (u : Int) < b.getD i 0) → h ≤ (busyN L b u : Int)
section
variable {L F : List Int} {h : Int} {order : List Int}
theorem gr2_none (h0 : 0 ≤ h) : Gr2 L F h 0 (noneB L.length) := by
  have hl : (noneB L.length).length = L.length := by simp [noneB]
  refine ⟨⟨hl, fun i hi => .inl (getD_none (by omega)), fun i hi hb => ?_, fun t => ?_⟩, fun _ _ _ u hu => by omega⟩
  · rw [getD_none (by omega)] at hb; omega
  · have : busyN L (noneB L.length) t = 0 := cnt_zero (fun k hk => decide_eq_false (fun ⟨d, _⟩ => by rw [getD_none (by omega)] at d; omega))
    omega
theorem gr2_step (hp : projOk L F = true) (ho : IsOrder L.length order) {T : Nat} {b : List Int} (hG : Gr2 L F h T b) : Gr2 L F h (T + 1) (greedyAt L F h (T : Int) order b) ∧ Ext (T : Int) b (greedyAt L F h (T : Int) order b) := by
  have g0 : Gr L F h (T : Int) b := ⟨hG.gr.len, fun i hi => by have := hG.gr.val i hi; omega, hG.gr.pre, hG.gr.few⟩
  obtain ⟨k1, k2, k3⟩ := gr_at hp (show (0 : Int) ≤ (T : Int) by omega) order b g0 ho.2.2
  obtain ⟨b', hb'⟩ : ∃ b', greedyAt L F h (T : Int) order b = b' := ⟨_, rfl⟩
  rw [hb'] at k1 k2 k3 ⊢
  refine ⟨⟨⟨k1.len, fun i hi => by have := k1.val i hi; omega, k1.pre, k1.few⟩, fun i hi hf u hu he hbi => ?_⟩, k2⟩
  have hlb := hG.gr.len
  have hlb' := k1.len
  -- those after which it comes had begun before
  have hsame : ∀ k, k < i → aft F i k = true → b'.getD k 0 = b.getD k 0 := fun k hk ha => by
    rcases k2.2 k with e | ⟨_, e⟩
    · exact e
    · have h1 := erl_ge (L := L) (e := b') hk ha
      have h2 := long_at hp (show k < L.length by omega)
      omega
  have hf2 : frOk F b i i = true := frOk_iff.2 (fun k hk ha => by rw [← hsame k hk ha]; exact frOk_iff.1 hf k hk ha)
  have he2 : erl L F b i i ≤ u := by rw [← erl_pre hsame]; exact he
  by_cases huT : u = T
  · subst huT
    have hb1 : b'.getD i 0 = -1 := by
      rcases hbi with e | e
      · exact e
      · have := k1.val i hi; omega
    exact k3 i (order_mem ho (by omega)) hb1 hf2 he2
  · have hbi2 : b.getD i 0 = -1 ∨ (u : Int) < b.getD i 0 := by
      rcases k2.2 i with e | ⟨e, _⟩
      · rw [← e]; exact hbi
      · exact .inl e
    have h1 := hG.full i (by omega) hf2 u (by omega) he2 hbi2
    have h2 := ext_busy (L := L) (u := (u : Int)) (show (0 : Int) ≤ (T : Int) by omega) k2
    omega
theorem gr2_to (hp : projOk L F = true) (h0 : 0 ≤ h) (ho : IsOrder L.length order) : ∀ T, Gr2 L F h T (greedyTo L F h order T)
  | 0 => gr2_none h0
  | T + 1 => (gr2_step hp ho (gr2_to hp h0 ho T)).1
/-- As long as some task has not begun, or not ended, some hand is taken. -/
theorem gr2_taken (hp : projOk L F = true) (h1 : 1 ≤ h) {T : Nat} {b : List Int} (hG : Gr2 L F h T b) {u : Nat} (hu : u < T) (hex : ∃ i, i < b.length ∧ (b.getD i 0 = -1 ∨ (u : Int) < b.getD i 0 + L.getD i 0)) : 1 ≤ busyN L b (u : Int) := by
  have hl := hG.gr.len
  by_cases hrun : ∃ i, i < b.length ∧ isBusy L b (u : Int) i = true
  · obtain ⟨i, hi, hb⟩ := hrun
    have := cnt_lt (f := fun _ => false) (g := isBusy L b (u : Int)) (i := i) (n := b.length) rfl hb hi (fun _ _ hh => by simp at hh)
    unfold busyN
    omega
  · have hno : ∀ i, i < b.length → isBusy L b (u : Int) i = false := fun i hi => by
      cases e : isBusy L b (u : Int) i
      · rfl
      · exact absurd ⟨i, hi, e⟩ hrun
    have hnb : ∀ i, i < b.length → 0 ≤ b.getD i 0 → b.getD i 0 ≤ u → b.getD i 0 + L.getD i 0 ≤ u := fun i hi c1 c2 => by
      have := of_decide_eq_false (hno i hi)
      omega
    -- the least one that has not begun by then
    have key : ∀ n, (∃ k, k < n ∧ k < b.length ∧ (b.getD k 0 = -1 ∨ (u : Int) < b.getD k 0)) → ∃ k, k < b.length ∧ (b.getD k 0 = -1 ∨ (u : Int) < b.getD k 0) ∧ ∀ j, j < k → 0 ≤ b.getD j 0 ∧ b.getD j 0 ≤ u := by
      intro n
      induction n with
      | zero => rintro ⟨k, hk, _⟩; omega
      | succ n ih =>
        rintro ⟨k, a1, a2, a3⟩
        by_cases hex : ∃ k, k < n ∧ k < b.length ∧ (b.getD k 0 = -1 ∨ (u : Int) < b.getD k 0)
        · exact ih hex
        · refine ⟨k, a2, a3, fun j hj => ?_⟩
          have h1 : ¬ (b.getD j 0 = -1 ∨ (u : Int) < b.getD j 0) := fun hh => hex ⟨j, by omega, by omega, hh⟩
          have := hG.gr.val j (by omega)
          omega
    obtain ⟨i, hi, hbi⟩ := hex
    have hbi2 : b.getD i 0 = -1 ∨ (u : Int) < b.getD i 0 := by
      rcases hbi with e | e
      · exact .inl e
      · by_cases c : b.getD i 0 = -1
        · exact .inl c
        · right
          have := hG.gr.val i hi
          have := hnb i hi (by omega)
          omega
    obtain ⟨k, a1, a2, a3⟩ := key b.length ⟨i, hi, hi, hbi2⟩
    have hf : frOk F b k k = true := frOk_iff.2 (fun j hj _ => (a3 j hj).1)
    have he : erl L F b k k ≤ u := erl_le (by omega) (fun j hj _ => hnb j (by omega) (a3 j hj).1 (a3 j hj).2)
    have := hG.full k a1 hf u hu he a2
    omega
end
end Go.Proofs.Ytmgikoaeomieeaa.Pp
