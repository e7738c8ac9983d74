/-
  Times for a plan keep it, and none is great. No program.
-/
import Derived.Test.YtledgblepdjjlaaP12
namespace Go.Proofs.Ytledgblepdjjlaa
set_option linter.unusedVariables false
set_option linter.unusedSimpArgs false
namespace Pp

theorem nw_facts (T : Tb) (xs : List Int) (pt : Nat) : ∀ k,
    (∀ i, i < k → T pt i < Far → xs.getD i 0 - T pt i ≤ (nwTo T xs pt k).1) ∧ ((nwTo T xs pt k).1 = -Far ∨ ∃ i, i < k ∧ T pt i < Far ∧ (nwTo T xs pt k).1 = xs.getD i 0 - T pt i) ∧
    (∀ i, i < k → T i pt < Far → (nwTo T xs pt k).2 ≤ xs.getD i 0 + T i pt) ∧ ((nwTo T xs pt k).2 = Far ∨ ∃ i, i < k ∧ T i pt < Far ∧ (nwTo T xs pt k).2 = xs.getD i 0 + T i pt)
  | 0 => ⟨by intro i hi; omega, .inl rfl, by intro i hi; omega, .inl rfl⟩
  | k + 1 => by
    obtain ⟨a1, a2, a3, a4⟩ := nw_facts T xs pt k
    simp only [nwTo, nwAt]
    refine ⟨fun i hi hf => ?_, ?_, fun i hi hf => ?_, ?_⟩
    · by_cases ek : i = k
      · subst ek; rw [if_pos hf]; omega
      · have := a1 i (by omega) hf; split <;> omega
    · by_cases hf : T pt k < Far
      · rw [if_pos hf]
        by_cases hm : (nwTo T xs pt k).1 ≤ xs.getD k 0 - T pt k
        · exact .inr ⟨k, by omega, hf, by omega⟩
        · rcases a2 with h | ⟨i, hi, h2, h3⟩
          · exact .inl (by omega)
          · exact .inr ⟨i, by omega, h2, by omega⟩
      · rw [if_neg hf]
        rcases a2 with h | ⟨i, hi, h2, h3⟩
        · exact .inl h
        · exact .inr ⟨i, by omega, h2, h3⟩
    · by_cases ek : i = k
      · subst ek; rw [if_pos hf]; omega
      · have := a3 i (by omega) hf; split <;> omega
    · by_cases hf : T k pt < Far
      · rw [if_pos hf]
        by_cases hm : xs.getD k 0 + T k pt ≤ (nwTo T xs pt k).2
        · exact .inr ⟨k, by omega, hf, by omega⟩
        · rcases a4 with h | ⟨i, hi, h2, h3⟩
          · exact .inl (by omega)
          · exact .inr ⟨i, by omega, h2, by omega⟩
      · rw [if_neg hf]
        rcases a4 with h | ⟨i, hi, h2, h3⟩
        · exact .inl h
        · exact .inr ⟨i, by omega, h2, h3⟩

theorem next_facts {n : Nat} {T : Tb} (hT : Small n T) {xs : List Int} {M : Int} (hx : AbsTo xs M) (h0 : 0 ≤ M) (h1 : M ≤ 10000) (hp : xs.length < n) :
    (∃ a, a < xs.length ∧ T xs.length a < Far ∧ nextT T xs = xs.getD a 0 - T xs.length a ∧ ∀ i, i < xs.length → T xs.length i < Far → xs.getD i 0 - T xs.length i ≤ nextT T xs) ∨
    ((∀ i, i < xs.length → ¬ T xs.length i < Far) ∧ ∃ a, a < xs.length ∧ T a xs.length < Far ∧ nextT T xs = xs.getD a 0 + T a xs.length ∧ ∀ i, i < xs.length → T i xs.length < Far → nextT T xs ≤ xs.getD i 0 + T i xs.length) ∨
    ((∀ i, i < xs.length → ¬ T xs.length i < Far) ∧ (∀ i, i < xs.length → ¬ T i xs.length < Far) ∧ nextT T xs = 0) := by
  obtain ⟨a1, a2, a3, a4⟩ := nw_facts T xs xs.length xs.length
  have hs1 : ∀ i, i < xs.length → T xs.length i < Far → -600 ≤ T xs.length i ∧ T xs.length i ≤ 600 := fun i hi hf => (hT _ i hp (by omega)).2 hf
  have hs2 : ∀ i, i < xs.length → T i xs.length < Far → -600 ≤ T i xs.length ∧ T i xs.length ≤ 600 := fun i hi hf => (hT i _ (by omega) hp).2 hf
  have hxb := hx
  unfold nextT
  by_cases hlo : -100000 < (nwTo T xs xs.length xs.length).1
  · rw [if_pos hlo]
    rcases a2 with h | ⟨a, ha, hf, e⟩
    · unfold Far at h; omega
    · exact .inl ⟨a, ha, hf, e, a1⟩
  · rw [if_neg hlo]
    have hno : ∀ i, i < xs.length → ¬ T xs.length i < Far := fun i hi hf => by
      have := a1 i hi hf; have := hs1 i hi hf; have := hx i; omega
    by_cases hhi : (nwTo T xs xs.length xs.length).2 < 100000
    · rw [if_pos hhi]
      rcases a4 with h | ⟨a, ha, hf, e⟩
      · unfold Far at h; omega
      · exact .inr (.inl ⟨hno, a, ha, hf, e, a3⟩)
    · rw [if_neg hhi]
      refine .inr (.inr ⟨hno, fun i hi hf => ?_, rfl⟩)
      have := a3 i hi hf; have := hs2 i hi hf; have := hx i; omega

/-- What holds of the times that are there. -/
structure TInv (T : Tb) (xs : List Int) : Prop where
  part : ∀ i j, i < xs.length → j < xs.length → T i j < Far → xs.getD j 0 - xs.getD i 0 ≤ T i j
  hop : ∀ k, k < xs.length → (0 ≤ xs.getD k 0 ∧ xs.getD k 0 ≤ 99) ∨ ∃ a, a < k ∧ ((T k a < Far ∧ xs.getD a 0 - xs.getD k 0 = T k a) ∨ (T a k < Far ∧ xs.getD k 0 - xs.getD a 0 = T a k))

theorem getD_snoc (xs : List Int) (v : Int) (i : Nat) : (xs ++ [v]).getD i 0 = if i < xs.length then xs.getD i 0 else if i = xs.length then v else 0 := by
  rw [List.getD_eq_getElem?_getD, List.getD_eq_getElem?_getD]
  by_cases h : i < xs.length
  · rw [if_pos h, List.getElem?_append_left h]
  · rw [if_neg h, List.getElem?_append_right (by omega)]
    by_cases e : i = xs.length
    · subst e; simp
    · rw [if_neg e, List.getElem?_eq_none (by simp; omega)]; rfl
theorem TInv.next {n : Nat} {T : Tb} (hT : Small n T) (hC : ClosedTo n n T) (hd : ∀ i, i < n → T i i = 0) {xs : List Int} {M : Int} (hx : AbsTo xs M) (h0 : 0 ≤ M) (h1 : M ≤ 10000) (hp : xs.length < n) (h : TInv T xs) : TInv T (xs ++ [nextT T xs]) := by
  have hlen : (xs ++ [nextT T xs]).length = xs.length + 1 := by simp
  have g1 : ∀ i, i < xs.length → (xs ++ [nextT T xs]).getD i 0 = xs.getD i 0 := fun i hi => by rw [getD_snoc, if_pos hi]
  have g2 : (xs ++ [nextT T xs]).getD xs.length 0 = nextT T xs := by rw [getD_snoc, if_neg (by omega), if_pos rfl]
  have hf := next_facts hT hx h0 h1 hp
  generalize nextT T xs = v at hf g1 g2 hlen
  have hsm := fun i j hi hj => (hT i j hi hj).2
  -- the new point against an old one
  have hnew : ∀ i, i < xs.length → (T i xs.length < Far → v - xs.getD i 0 ≤ T i xs.length) ∧ (T xs.length i < Far → xs.getD i 0 - v ≤ T xs.length i) := by
    intro i hi
    rcases hf with ⟨a, ha, hfa, e, hall⟩ | ⟨hno, a, ha, hfa, e, hall⟩ | ⟨hno, hno2, e⟩
    · refine ⟨fun hfi => ?_, fun hfi => by have := hall i hi hfi; omega⟩
      have hc := hC xs.length hp i a (by omega) (by omega) hfi hfa
      have b1 := hsm i xs.length (by omega) hp hfi
      have b2 := hsm xs.length a hp (by omega) hfa
      have hpa := h.part i a hi ha (by unfold Far; omega)
      omega
    · exact ⟨fun hfi => by have := hall i hi hfi; omega, fun hfi => absurd hfi (hno i hi)⟩
    · exact ⟨fun hfi => absurd hfi (hno2 i hi), fun hfi => absurd hfi (hno i hi)⟩
  constructor
  · intro i j hi hj hfij
    rw [hlen] at hi hj
    by_cases ei : i = xs.length
    · subst ei
      by_cases ej : j = xs.length
      · subst ej; rw [hd _ hp]; omega
      · rw [g2, g1 j (by omega)]; exact (hnew j (by omega)).2 hfij
    · by_cases ej : j = xs.length
      · subst ej; rw [g2, g1 i (by omega)]; exact (hnew i (by omega)).1 hfij
      · rw [g1 i (by omega), g1 j (by omega)]; exact h.part i j (by omega) (by omega) hfij
  · intro k hk
    rw [hlen] at hk
    by_cases ek : k = xs.length
    · subst ek
      rw [g2]
      rcases hf with ⟨a, ha, hfa, e, _⟩ | ⟨_, a, ha, hfa, e, _⟩ | ⟨_, _, e⟩
      · exact .inr ⟨a, ha, .inl ⟨hfa, by rw [g1 a ha]; omega⟩⟩
      · exact .inr ⟨a, ha, .inr ⟨hfa, by rw [g1 a ha]; omega⟩⟩
      · exact .inl (by rw [e]; omega)
    · rw [g1 k (by omega)]
      rcases h.hop k (by omega) with e | ⟨a, ha, hh⟩
      · exact .inl e
      · exact .inr ⟨a, ha, by rw [g1 a (by omega)]; exact hh⟩
theorem TInv.all {n : Nat} {T : Tb} (hT : Small n T) (hC : ClosedTo n n T) (hd : ∀ i, i < n → T i i = 0) : ∀ (m : Nat) (xs : List Int) (M : Int), AbsTo xs M → 0 ≤ M → M + 600 * m ≤ 10000 → xs.length + m ≤ n → TInv T xs → TInv T (endT T m xs)
  | 0, xs, M, _, _, _, _, h => h
  | m + 1, xs, M, hx, h0, h1, hl, h => by
    have hv := nextT_abs hT hx h0 (by omega) (by omega)
    exact TInv.all hT hC hd m (xs ++ [nextT T xs]) (M + 600) (absTo_next hx h0 hv) (by omega) (by omega) (by simp; omega) (h.next hT hC hd hx h0 (by omega) (by omega))

theorem walk_slack {bs : List Bd} {x : Nat → Int} (hs : Sol bs x) {S : Nat → Prop} (hc : ∀ b ∈ bs, S b.f.toNat → ¬ S b.t.toNat → x b.t.toNat - x b.f.toNat < b.m) {i j : Nat} {W : Int} (h : Walk bs i j W) : x j - x i ≤ W ∧ (S i → ¬ S j → x j - x i < W) := by
  induction h with
  | nil => exact ⟨by omega, fun a b => absurd a b⟩
  | @snoc u j W b _ hb hf ht ih =>
    have e1 : b.f.toNat = u := by omega
    have e2 : b.t.toNat = j := by omega
    have h1 := hs b hb
    rw [e1, e2] at h1
    refine ⟨by omega, fun si sj => ?_⟩
    by_cases su : S u
    · have h2 := hc b hb (by rw [e1]; exact su) (by rw [e2]; exact sj)
      rw [e1, e2] at h2
      omega
    · have := ih.2 si su; omega
/-- There is no great gap between the times. -/
theorem no_gap {p : Pl} (F : Fit p) {x : Nat → Int} (hs : Sol p.bs x) (hop : ∀ k, k < nn p → (0 ≤ x k ∧ x k ≤ 99) ∨ ∃ a, a < k ∧ ((clT p k a < Far ∧ x a - x k = clT p k a) ∨ (clT p a k < Far ∧ x k - x a = clT p a k))) (c : Int)
    (h1 : ∃ u, u < nn p ∧ x u ≤ c) (h2 : ∃ v, v < nn p ∧ c + 99 < x v) : ∃ w, w < nn p ∧ c < x w ∧ x w ≤ c + 99 := by
  apply Classical.byContradiction
  intro hno
  have hside : ∀ w, w < nn p → x w ≤ c ∨ c + 99 < x w := fun w hw => by
    by_cases a : x w ≤ c
    · exact .inl a
    · by_cases b : x w ≤ c + 99
      · exact absurd ⟨w, hw, by omega, b⟩ hno
      · exact .inr (by omega)
  have hok := (planOk_iff.1 F.ok).2.2
  have hnn := nn_ok F.ok
  have hbd : ∀ b ∈ p.bs, b.f.toNat < nn p ∧ b.t.toNat < nn p ∧ -99 ≤ b.m ∧ b.m ≤ 99 := fun b hb => by
    have := bdOk_iff.1 (hok b hb); omega
  -- no walk leads tightly over the gap
  have hhigh : ∀ i j, clT p i j < Far → c < x i → x j ≤ c → x j - x i < clT p i j := fun i j hf hi hj =>
    (walk_slack hs (S := fun v => c < x v) (fun b hb sf st => by
      obtain ⟨b1, b2, b3, b4⟩ := hbd b hb
      have := hside _ b1; have := hside _ b2
      omega) (walk_clo _ i j hf)).2 hi (by omega)
  have hlow : ∀ i j, clT p i j < Far → x i ≤ c → c < x j → x j - x i < clT p i j := fun i j hf hi hj =>
    (walk_slack hs (S := fun v => x v ≤ c) (fun b hb sf st => by
      obtain ⟨b1, b2, b3, b4⟩ := hbd b hb
      have := hside _ b1; have := hside _ b2
      have := hs b hb
      omega) (walk_clo _ i j hf)).2 hi (by omega)
  have hx0 : 0 ≤ x 0 ∧ x 0 ≤ 99 := by
    rcases hop 0 (by omega) with e | ⟨a, ha, _⟩
    · exact e
    · omega
  -- the first point of the other side
  have key : ∀ k, k < nn p → (x k ≤ c ↔ x 0 ≤ c) := by
    intro k
    induction k using Nat.strongRecOn with
    | _ k ih =>
      intro hk
      rcases hop k hk with e | ⟨a, ha, hh⟩
      · have := hside k hk
        have := hside 0 (by omega)
        constructor <;> intro <;> omega
      · have hak := ih a ha (by omega)
        rw [← hak]
        constructor
        · intro hkc
          apply Classical.byContradiction
          intro hac
          rcases hh with ⟨hf, e⟩ | ⟨hf, e⟩
          · have := hlow k a hf hkc (by omega); omega
          · have := hhigh a k hf (by omega) hkc; omega
        · intro hac
          apply Classical.byContradiction
          intro hkc
          rcases hh with ⟨hf, e⟩ | ⟨hf, e⟩
          · have := hhigh k a hf (by omega) hac; omega
          · have := hlow a k hf hac (by omega); omega
  obtain ⟨u, hu, hu1⟩ := h1
  obtain ⟨v, hv, hv1⟩ := h2
  have := (key u hu).1 hu1
  have := (key v hv).2 this
  omega
theorem spread {p : Pl} (F : Fit p) {x : Nat → Int} (hs : Sol p.bs x) (hop : ∀ k, k < nn p → (0 ≤ x k ∧ x k ≤ 99) ∨ ∃ a, a < k ∧ ((clT p k a < Far ∧ x a - x k = clT p k a) ∨ (clT p a k < Far ∧ x k - x a = clT p a k))) (j : Nat) (hj : j < nn p) : -594 ≤ x j ∧ x j ≤ 693 := by
  have hnn := nn_ok F.ok
  have hx0 : 0 ≤ x 0 ∧ x 0 ≤ 99 := by
    rcases hop 0 (by omega) with e | ⟨a, ha, _⟩
    · exact e
    · omega
  constructor
  · apply Classical.byContradiction
    intro hbig
    have key : ∀ m : Nat, m ≤ 6 → m + 1 ≤ (List.range (nn p)).countP fun v => decide (-(99 * (m : Int)) ≤ x v) := by
      intro m
      induction m with
      | zero =>
        intro _
        have : 0 < (List.range (nn p)).countP fun v => decide (-(99 * ((0 : Nat) : Int)) ≤ x v) := List.countP_pos_iff.2 ⟨0, List.mem_range.2 (by omega), by simp; omega⟩
        omega
      | succ m ih =>
        intro hm
        refine Nat.lt_of_le_of_lt (ih (by omega)) (countP_lt _ (fun v _ hv => by simp only [decide_eq_true_eq] at hv ⊢; omega) ?_)
        obtain ⟨w, hw, a1, a2⟩ := no_gap F hs hop (-(99 * (m : Int)) - 100) ⟨j, hj, by omega⟩ ⟨0, by omega, by omega⟩
        exact ⟨w, List.mem_range.2 hw, by simp; omega, by simp; omega⟩
    have := key 6 (by omega)
    have := List.countP_le_length (p := fun v => decide (-(99 * ((6 : Nat) : Int)) ≤ x v)) (l := List.range (nn p))
    rw [List.length_range] at this
    omega
  · apply Classical.byContradiction
    intro hbig
    have key : ∀ m : Nat, m ≤ 6 → m + 1 ≤ (List.range (nn p)).countP fun v => decide (x v ≤ 99 * (m : Int) + 99) := by
      intro m
      induction m with
      | zero =>
        intro _
        have : 0 < (List.range (nn p)).countP fun v => decide (x v ≤ 99 * ((0 : Nat) : Int) + 99) := List.countP_pos_iff.2 ⟨0, List.mem_range.2 (by omega), by simp; omega⟩
        omega
      | succ m ih =>
        intro hm
        refine Nat.lt_of_le_of_lt (ih (by omega)) (countP_lt _ (fun v _ hv => by simp only [decide_eq_true_eq] at hv ⊢; omega) ?_)
        obtain ⟨w, hw, a1, a2⟩ := no_gap F hs hop (99 * (m : Int) + 99) ⟨0, by omega, by omega⟩ ⟨j, hj, by omega⟩
        exact ⟨w, List.mem_range.2 hw, by simp; omega, by simp; omega⟩
    have := key 6 (by omega)
    have := List.countP_le_length (p := fun v => decide (x v ≤ 99 * ((6 : Nat) : Int) + 99)) (l := List.range (nn p))
    rw [List.length_range] at this
    omega

theorem timesFor_law {p : Pl} {xs : List Int} (h : timesFor p = (xs, true)) : fits p = true ∧ xs.length = nn p ∧ Sol p.bs (fun v => xs.getD v 0) ∧ ∀ k, k < nn p → -594 ≤ xs.getD k 0 ∧ xs.getD k 0 ≤ 693 := by
  unfold timesFor at h
  split at h
  · rename_i hf
    have F := fit_of hf
    have hnn := nn_ok F.ok
    obtain ⟨rfl, _⟩ := Prod.mk.inj h
    have hlen : (endT (clT p) (nn p) []).length = nn p := by rw [endT_length]; simp
    have hI := TInv.all (small_clT hf) F.closed F.diag (nn p) [] 0 (fun i => by simp) (by omega) (by omega) (by simp) ⟨fun i j hi => by simp at hi, fun k hk => by simp at hk⟩
    have hS : Sol p.bs (fun v => (endT (clT p) (nn p) []).getD v 0) := (F.sol _).1 fun i j hi hj hfij => hI.part i j (by rw [hlen]; exact hi) (by rw [hlen]; exact hj) hfij
    exact ⟨hf, hlen, hS, fun k hk => spread F hS (fun k hk => hI.hop k (by rw [hlen]; exact hk)) k hk⟩
  · cases (Prod.mk.inj h).2
/-- Times that begin with one. -/
def endedOne (p : Pl) (v : Int) : List Int × Bool := if fits p then (endT (clT p) (nn p - 1) [v], true) else ([], false)
theorem endedOne_law {p : Pl} {v : Int} (hv : 0 ≤ v ∧ v ≤ 99) {xs : List Int} (h : endedOne p v = (xs, true)) : fits p = true ∧ xs.length = nn p ∧ Sol p.bs (fun v => xs.getD v 0) ∧ ∀ k, k < nn p → -594 ≤ xs.getD k 0 ∧ xs.getD k 0 ≤ 693 := by
  unfold endedOne at h
  split at h
  · rename_i hf
    have F := fit_of hf
    have hnn := nn_ok F.ok
    obtain ⟨rfl, _⟩ := Prod.mk.inj h
    have hlen : (endT (clT p) (nn p - 1) [v]).length = nn p := by rw [endT_length]; simp; omega
    have hA : AbsTo [v] 99 := fun i => by
      cases i with
      | zero => simp; omega
      | succ i => simp
    have hI := TInv.all (small_clT hf) F.closed F.diag (nn p - 1) [v] 99 hA (by omega) (by omega) (by simp; omega) ⟨fun i j hi hj _ => by
      have e1 : i = 0 := by simp at hi; exact hi
      have e2 : j = 0 := by simp at hj; exact hj
      subst e1; subst e2
      rw [F.diag 0 (by omega)]; omega, fun k hk => by
      have e1 : k = 0 := by simp at hk; exact hk
      subst e1
      exact .inl (by simpa using hv)⟩
    have hS : Sol p.bs (fun u => (endT (clT p) (nn p - 1) [v]).getD u 0) := (F.sol _).1 fun i j hi hj hfij => hI.part i j (by rw [hlen]; exact hi) (by rw [hlen]; exact hj) hfij
    exact ⟨hf, hlen, hS, fun k hk => spread F hS (fun k hk => hI.hop k (by rw [hlen]; exact hk)) k hk⟩
  · cases (Prod.mk.inj h).2
end Pp
end Go.Proofs.Ytledgblepdjjlaa
