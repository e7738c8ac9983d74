/-
  Lowered plans and bad rings: plain laws. No program.
-/
import Derived.Test.YtledgblepdjjlaaP10
import Derived.Test.YtledgblepdjjlaaL1b
namespace Go.Proofs.Ytledgblepdjjlaa
set_option linter.unusedVariables false
set_option linter.unusedSimpArgs false
namespace Pp

/-! ### lowered plans -/
def lowB (v : Int) (x : Bd) : Bd := ⟨x.f, x.t, x.m - v⟩
def lowBs (p : Pl) (v : Int) : List Bd := p.bs.map (lowB v)
def lowP (p : Pl) (v : Int) : Pl × Bool := if planOk p && inB v 0 99 then (toldP ⟨p.n, lowBs p v⟩, planOk ⟨p.n, lowBs p v⟩) else (⟨0, []⟩, false)
def lowFits (p : Pl) (v : Int) : Bool := (lowP p v).2 && fits (lowP p v).1
def spareD (p : Pl) : Nat → Nat
  | 0 => 0
  | k + 1 => if lowFits p ((k + 1 : Nat) : Int) then k + 1 else spareD p k
def spare (p : Pl) : Int := if fits p then (spareD p 99 : Nat) else -1

theorem toldP_1 {p : Pl} (h : planOk p = true) : toldP p = p := by unfold toldP; rw [if_pos h]
theorem lowFits_iff {p : Pl} {v : Int} : lowFits p v = true ↔ planOk p = true ∧ (0 ≤ v ∧ v ≤ 99) ∧ planOk ⟨p.n, lowBs p v⟩ = true ∧ ∃ y, Sol (lowBs p v) y := by
  unfold lowFits lowP
  constructor
  · intro h
    split at h
    · rename_i hc
      simp only [Bool.and_eq_true, inB_iff] at hc h
      obtain ⟨h1, h2⟩ := h
      rw [toldP_1 h1] at h2
      exact ⟨hc.1, hc.2, h1, (fits_iff h1).1 h2⟩
    · simp at h
  · rintro ⟨h1, h2, h3, h4⟩
    rw [if_pos (by simp only [Bool.and_eq_true, inB_iff]; exact ⟨h1, h2⟩)]
    simp only [Bool.and_eq_true]
    exact ⟨h3, by rw [toldP_1 h3]; exact (fits_iff h3).2 h4⟩
theorem lowFits_mono {p : Pl} {u v : Int} (h0 : 0 ≤ u) (huv : u ≤ v) (h : lowFits p v = true) : lowFits p u = true := by
  obtain ⟨h1, h2, h3, y, hy⟩ := lowFits_iff.1 h
  refine lowFits_iff.2 ⟨h1, ⟨h0, by omega⟩, ?_, y, ?_⟩
  · obtain ⟨a, b, c⟩ := planOk_iff.1 h3
    obtain ⟨_, _, c1⟩ := planOk_iff.1 h1
    refine planOk_iff.2 ⟨a, by simpa [lowBs] using b, fun x hx => ?_⟩
    obtain ⟨x0, hx0, rfl⟩ := List.mem_map.1 hx
    have d1 := bdOk_iff.1 (c1 x0 hx0)
    have d2 := bdOk_iff.1 (c (lowB v x0) (List.mem_map.2 ⟨x0, hx0, rfl⟩))
    unfold lowB at d2 ⊢
    dsimp only at d1 d2 ⊢
    exact bdOk_iff.2 ⟨d1.1, d1.2.1, by dsimp only; omega⟩
  · intro x hx
    obtain ⟨x0, hx0, rfl⟩ := List.mem_map.1 hx
    have d2 := hy (lowB v x0) (List.mem_map.2 ⟨x0, hx0, rfl⟩)
    unfold lowB at d2 ⊢
    dsimp only at d2 ⊢
    omega
theorem lowBs_zero (p : Pl) : lowBs p 0 = p.bs := by
  unfold lowBs
  rw [show lowB 0 = id from funext fun x => by unfold lowB; simp]
  simp
theorem lowFits_zero {p : Pl} (h : fits p = true) : lowFits p 0 = true := by
  have F := fit_of h
  refine lowFits_iff.2 ⟨F.ok, by omega, ?_, ?_⟩
  · rw [lowBs_zero]; exact F.ok
  · rw [lowBs_zero]; exact (fits_iff F.ok).1 h
theorem spareD_le (p : Pl) : ∀ m, spareD p m ≤ m
  | 0 => Nat.le_refl _
  | k + 1 => by simp only [spareD]; split; exact Nat.le_refl _; exact Nat.le_succ_of_le (spareD_le p k)
theorem spareD_fits {p : Pl} (h : fits p = true) : ∀ m, lowFits p (spareD p m : Nat) = true
  | 0 => lowFits_zero h
  | k + 1 => by
    simp only [spareD]
    split
    · rename_i hh; exact hh
    · exact spareD_fits h k
theorem spareD_no {p : Pl} : ∀ (m i : Nat), spareD p m < i → i ≤ m → lowFits p (i : Int) = false
  | 0, i, h1, h2 => by simp only [spareD] at h1; omega
  | k + 1, i, h1, h2 => by
    simp only [spareD] at h1
    split at h1
    · omega
    · rename_i hh
      by_cases e : i = k + 1
      · subst e; simpa using hh
      · exact spareD_no k i h1 (by omega)
theorem spareD_eq {p : Pl} (h : fits p = true) {m j : Nat} (hj : j ≤ m) (h1 : lowFits p (j : Int) = true) (h2 : ∀ i, j < i → i ≤ m → lowFits p (i : Int) = false) : spareD p m = j := by
  rcases Nat.lt_trichotomy (spareD p m) j with a | a | a
  · have := spareD_no m j a hj
    rw [h1] at this; cases this
  · exact a
  · have b := spareD_fits h m
    rw [h2 _ a (spareD_le p m)] at b; cases b
theorem spare_law {p : Pl} (h : fits p = true) : 0 ≤ spare p ∧ spare p ≤ 99 ∧ lowFits p (spare p) = true ∧ lowFits p (spare p + 1) = false := by
  have hle := spareD_le p 99
  unfold spare
  rw [if_pos h]
  refine ⟨by omega, by omega, spareD_fits h 99, ?_⟩
  by_cases e : spareD p 99 < 99
  · exact spareD_no 99 (spareD p 99 + 1) (by omega) (by omega)
  · rw [Bool.eq_false_iff]
    intro hh
    have := (lowFits_iff.1 hh).2.1
    omega

/-! ### rings -/
def bdAt (p : Pl) (k : Nat) : Bd := p.bs.getD k ⟨0, 0, 0⟩
def path (p : Pl) : Int → Int → List Nat → Prop
  | i, j, [] => i = j
  | i, j, a :: r => a < p.bs.length ∧ (bdAt p a).f = i ∧ path p (bdAt p a).t j r
def sumR (p : Pl) : List Nat → Int
  | [] => 0
  | a :: r => (bdAt p a).m + sumR p r
theorem sumR_append (p : Pl) : ∀ a b : List Nat, sumR p (a ++ b) = sumR p a + sumR p b
  | [], b => by simp [sumR]
  | x :: a, b => by simp only [List.cons_append, sumR, sumR_append p a b]; omega
theorem path_append {p : Pl} : ∀ {a b : List Nat} {i j : Int}, path p i j (a ++ b) ↔ ∃ u, path p i u a ∧ path p u j b
  | [], b, i, j => ⟨fun h => ⟨i, rfl, h⟩, fun ⟨u, h1, h2⟩ => by cases h1; exact h2⟩
  | x :: a, b, i, j => by
    simp only [List.cons_append, path, path_append (a := a)]
    exact ⟨fun ⟨h1, h2, u, h3, h4⟩ => ⟨u, ⟨h1, h2, h3⟩, h4⟩, fun ⟨u, ⟨h1, h2, h3⟩, h4⟩ => ⟨h1, h2, u, h3, h4⟩⟩
theorem walk_path {p : Pl} {i j : Nat} {W : Int} (h : Walk p.bs i j W) : ∃ r, path p i j r ∧ sumR p r = W := by
  induction h with
  | nil => exact ⟨[], rfl, rfl⟩
  | snoc h hb hf ht ih =>
    obtain ⟨r, h1, h2⟩ := ih
    obtain ⟨k, hk, e⟩ := List.getElem_of_mem hb
    have ea : bdAt p k = _ := (show bdAt p k = p.bs[k] by unfold bdAt; rw [List.getD_eq_getElem?_getD, List.getElem?_eq_getElem hk]; rfl).trans e
    exact ⟨r ++ [k], path_append.2 ⟨_, h1, hk, by rw [ea]; exact hf, by rw [ea]; exact ht⟩, by rw [sumR_append, h2]; simp [sumR, ea]⟩

theorem nodup_len : ∀ (n : Nat) (l : List Int), l.Nodup → (∀ x ∈ l, 0 ≤ x ∧ x < n) → l.length ≤ n
  | 0, l, _, h => by
    cases l with
    | nil => exact Nat.le_refl _
    | cons a l => have := h a (by simp); omega
  | n + 1, l, hd, h => by
    by_cases hm : (n : Int) ∈ l
    · have h1 := nodup_len n (l.erase n) (hd.erase _) (fun x hx => by
        have h2 := (hd.mem_erase_iff).1 hx
        have := h x h2.2
        have := h2.1
        omega)
      rw [List.length_erase_of_mem hm] at h1
      omega
    · exact Nat.le_succ_of_le (nodup_len n l hd (fun x hx => by
        have := h x hx
        have : x ≠ n := fun e => hm (e ▸ hx)
        omega))
theorem dup_split {f : Nat → Int} : ∀ (l : List Nat), ¬ (l.map f).Nodup → ∃ l1 a l2 b l3, l = l1 ++ (a :: l2) ++ (b :: l3) ∧ f a = f b
  | [], h => absurd (by simp) h
  | a :: l, h => by
    by_cases hm : f a ∈ l.map f
    · obtain ⟨b, hb, e⟩ := List.mem_map.1 hm
      obtain ⟨l2, l3, rfl⟩ := List.append_of_mem hb
      exact ⟨[], a, l2, b, l3, by simp, e.symm⟩
    · have h2 : ¬ (l.map f).Nodup := fun hn => h (by rw [List.map_cons]; exact List.nodup_cons.2 ⟨hm, hn⟩)
      obtain ⟨l1, x, l2, b, l3, rfl, e⟩ := dup_split l h2
      exact ⟨a :: l1, x, l2, b, l3, by simp, e⟩
theorem path_from {p : Pl} (hp : planOk p = true) {i j : Int} : ∀ {r : List Nat}, path p i j r → ∀ x ∈ r.map (fun k => (bdAt p k).f), 0 ≤ x ∧ x < nn p := by
  intro r
  induction r generalizing i with
  | nil => intro _ x hx; simp at hx
  | cons a r ih =>
    rintro ⟨h1, h2, h3⟩ x hx
    rw [List.map_cons, List.mem_cons] at hx
    rcases hx with rfl | hx
    · have hb : bdAt p a ∈ p.bs := by unfold bdAt; rw [List.getD_eq_getElem?_getD, List.getElem?_eq_getElem h1]; exact List.getElem_mem _
      have := bdOk_iff.1 ((planOk_iff.1 hp).2.2 _ hb)
      have := (nn_ok hp).2
      omega
    · exact ih h3 x hx
/-- A negative closed walk of least length meets no point twice. -/
theorem short_ring {p : Pl} (hp : planOk p = true) : ∀ (L : Nat) (i : Int) (r : List Nat), r.length = L → path p i i r → sumR p r < 0 → ∃ j s, path p j j s ∧ sumR p s < 0 ∧ s.length ≤ nn p := by
  intro L
  induction L using Nat.strongRecOn with
  | _ L ih =>
    intro i r hL hr hs
    by_cases hd : (r.map (fun k => (bdAt p k).f)).Nodup
    · have := nodup_len (nn p) _ hd (path_from hp hr)
      rw [List.length_map] at this
      exact ⟨i, r, hr, hs, this⟩
    · obtain ⟨l1, a, l2, b, l3, rfl, e⟩ := dup_split r hd
      obtain ⟨u, h1, h2⟩ := path_append.1 hr
      obtain ⟨v, h3, h4⟩ := path_append.1 h1
      have ea : (bdAt p a).f = v := h4.2.1
      have eb : (bdAt p b).f = u := h2.2.1
      have euv : v = u := by rw [← ea, ← eb]; exact e
      subst euv
      have hsum : sumR p (l1 ++ (a :: l2) ++ (b :: l3)) = sumR p (a :: l2) + sumR p (l1 ++ (b :: l3)) := by simp only [sumR_append]; omega
      have hl : (l1 ++ (a :: l2) ++ (b :: l3)).length = (a :: l2).length + (l1 ++ (b :: l3)).length := by simp only [List.length_append]; omega
      by_cases hn : sumR p (a :: l2) < 0
      · exact ih _ (by simp only [List.length_append, List.length_cons] at hL ⊢; omega) v (a :: l2) rfl h4 hn
      · exact ih _ (by simp only [List.length_append, List.length_cons] at hL ⊢; omega) i (l1 ++ (b :: l3)) rfl (path_append.2 ⟨v, h3, h2⟩) (by omega)
/-- A plan that does not fit has a bad ring of at most as many bounds as points. -/
theorem bad_some {p : Pl} (hp : planOk p = true) (hf : fits p = false) : ∃ j r, path p j j r ∧ sumR p r < 0 ∧ r.length ≤ nn p := by
  have hd : diagOk (nn p) (clT p) = false := by
    unfold fits at hf
    rw [hp] at hf
    simpa using hf
  have : ∃ i, i < nn p ∧ clT p i i < 0 := by
    apply Classical.byContradiction
    intro hno
    have : diagOk (nn p) (clT p) = true := by
      unfold diagOk
      simp only [List.all_eq_true, List.mem_range, decide_eq_true_eq]
      intro i hi
      exact Int.not_lt.1 fun h => hno ⟨i, hi, h⟩
    rw [this] at hd; cases hd
  obtain ⟨i, hi, hneg⟩ := this
  obtain ⟨r, h1, h2⟩ := walk_path (walk_clo (bs := p.bs) (nn p) i i (by
    have : clo (tab0 p.bs) (nn p) i i < 0 := hneg
    unfold Far; omega))
  exact short_ring hp _ i r rfl h1 (by rw [h2]; exact hneg)
end Pp
end Go.Proofs.Ytledgblepdjjlaa
