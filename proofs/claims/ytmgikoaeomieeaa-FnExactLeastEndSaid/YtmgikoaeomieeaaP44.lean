/-
  Projects, plain: all orders, and the least end.
-/
import Derived.Test.YtmgikoaeomieeaaP43
namespace Go.Proofs.Ytmgikoaeomieeaa.Pp

/-- The less of two; less than 0 stands for none. -/
def comb (x y : Int) : Int := if x < 0 then y else if y < 0 then x else min x y
theorem comb_assoc (x y z : Int) : comb (comb x y) z = comb x (comb y z) := by
  unfold comb
  repeat' split
  all_goals first | rfl | omega
def minL : List Int → Int
  | [] => -1
  | x :: l => comb x (minL l)
theorem minL_append : ∀ a b : List Int, minL (a ++ b) = comb (minL a) (minL b)
  | [], b => by simp [minL, comb]
  | x :: a, b => by simp only [List.cons_append, minL, minL_append a b, comb_assoc]
theorem minL_facts : ∀ {l : List Int}, (∀ x ∈ l, 0 ≤ x) → (l = [] ∧ minL l = -1) ∨ (0 ≤ minL l ∧ minL l ∈ l ∧ ∀ x ∈ l, minL l ≤ x)
  | [], _ => .inl ⟨rfl, rfl⟩
  | x :: l, h => by
    have hx := h x List.mem_cons_self
    right
    rcases minL_facts (l := l) (fun y hy => h y (List.mem_cons_of_mem _ hy)) with ⟨rfl, h2⟩ | ⟨h1, h2, h3⟩
    · have e : minL [x] = x := by unfold minL; rw [h2]; unfold comb; rw [if_neg (by omega), if_pos (by omega)]
      rw [e]
      exact ⟨hx, by simp, by simp⟩
    · have e : minL (x :: l) = min x (minL l) := by
        show comb x (minL l) = _
        unfold comb
        rw [if_neg (by omega), if_neg (by omega)]
      rw [e]
      refine ⟨by omega, ?_, fun y hy => ?_⟩
      · rcases Int.le_total x (minL l) with c | c
        · rw [Int.min_eq_left c]; exact List.mem_cons_self
        · rw [Int.min_eq_right c]; exact List.mem_cons_of_mem _ h2
      · rcases List.mem_cons.1 hy with rfl | hy
        · omega
        · have := h3 y hy; omega

/-- All orders that go on some tasks. -/
def ordW (n : Nat) : Nat → List Int → List (List Int)
  | 0, hd => [hd]
  | m + 1, hd => (List.range n).flatMap fun (k : Nat) => if (k : Int) ∈ hd then [] else ordW n m (hd ++ [(k : Int)])
/-- .. by the first places. -/
def ordK (n m : Nat) (hd : List Int) (k : Nat) : List (List Int) := (List.range k).flatMap fun (k : Nat) => if (k : Int) ∈ hd then [] else ordW n m (hd ++ [(k : Int)])
theorem ordK_succ (n m : Nat) (hd : List Int) (k : Nat) : ordK n m hd (k + 1) = ordK n m hd k ++ (if (k : Int) ∈ hd then [] else ordW n m (hd ++ [(k : Int)])) := by
  simp [ordK, List.range_succ]
theorem ordW_succ (n m : Nat) (hd : List Int) : ordW n (m + 1) hd = ordK n m hd n := rfl
theorem ordW_mem {n : Nat} : ∀ {m : Nat} {hd s : List Int}, (∀ v ∈ hd, 0 ≤ v ∧ v < n) → hd.Nodup → s ∈ ordW n m hd → s.length = hd.length + m ∧ s.Nodup ∧ ∀ v ∈ s, 0 ≤ v ∧ v < n
  | 0, hd, s, h1, h2, hs => by
    simp only [ordW, List.mem_singleton] at hs
    subst hs
    exact ⟨rfl, h2, h1⟩
  | m + 1, hd, s, h1, h2, hs => by
    simp only [ordW, List.mem_flatMap, List.mem_range] at hs
    obtain ⟨k, hk, hs⟩ := hs
    split at hs
    · simp at hs
    · rename_i hno
      obtain ⟨e1, e2, e3⟩ := ordW_mem (m := m) (hd := hd ++ [(k : Int)]) (fun v hv => by
        rcases List.mem_append.1 hv with hv | hv
        · exact h1 v hv
        · rw [List.mem_singleton] at hv; omega) (List.nodup_append.2 ⟨h2, by simp, fun a ha b hb e => by
          rw [List.mem_singleton] at hb
          subst hb; subst e
          exact hno ha⟩) hs
      exact ⟨by rw [e1]; simp; omega, e2, e3⟩
theorem ordW_all {n : Nat} : ∀ {t hd : List Int}, (hd ++ t).Nodup → (∀ v ∈ t, 0 ≤ v ∧ v < n) → hd ++ t ∈ ordW n t.length hd
  | [], hd, _, _ => by simp [ordW]
  | v :: t, hd, h1, h2 => by
    have hv := h2 v List.mem_cons_self
    obtain ⟨k, rfl⟩ := Int.eq_ofNat_of_zero_le hv.1
    simp only [List.length_cons, ordW, List.mem_flatMap, List.mem_range]
    refine ⟨k, by omega, ?_⟩
    have hno : (k : Int) ∉ hd := fun hm => (List.nodup_append.1 h1).2.2 _ hm _ List.mem_cons_self rfl
    rw [if_neg hno]
    have := ordW_all (t := t) (hd := hd ++ [(k : Int)]) (by rw [List.append_assoc]; exact h1) (fun w hw => h2 w (List.mem_cons_of_mem _ hw))
    rwa [List.append_assoc] at this
theorem orders_iff {n : Nat} {s : List Int} : s ∈ ordW n n [] ↔ IsOrder n s := by
  constructor
  · intro h
    obtain ⟨h1, h2, h3⟩ := ordW_mem (by simp) (by simp) h
    exact ⟨by simpa using h1, h2, h3⟩
  · rintro ⟨h1, h2, h3⟩
    have := ordW_all (n := n) (t := s) (hd := []) (by simpa using h2) h3
    rw [h1] at this
    simpa using this
/-- The end of begins by an order. -/
def endBy (L F : List Int) (h : Int) (order : List Int) : Int := endOf L (beginsBy L F h order)
def leastW (L F : List Int) (h : Int) (m : Nat) (hd : List Int) : Int := minL ((ordW L.length m hd).map (endBy L F h))
def leastK (L F : List Int) (h : Int) (m : Nat) (hd : List Int) (k : Nat) : Int := minL ((ordK L.length m hd k).map (endBy L F h))
def leastE (L F : List Int) (h : Int) : Int := leastW L F h L.length []
theorem leastK_succ (L F : List Int) (h : Int) (m : Nat) (hd : List Int) (k : Nat) : leastK L F h m hd (k + 1) = if (k : Int) ∈ hd then leastK L F h m hd k else comb (leastK L F h m hd k) (leastW L F h m (hd ++ [(k : Int)])) := by
  unfold leastK leastW
  rw [ordK_succ, List.map_append, minL_append]
  split
  · simp only [List.map_nil, minL]
    unfold comb
    split
    · rename_i hneg
      have := minL_facts (l := (ordK L.length m hd k).map (endBy L F h)) (fun x hx => by
        obtain ⟨o, _, rfl⟩ := List.mem_map.1 hx
        exact endTo_nonneg _ _ _)
      rcases this with ⟨_, e⟩ | ⟨e, _⟩
      · exact e.symm
      · omega
    · rw [if_pos (by omega)]
  · rfl
section
variable {L F : List Int} {h : Int}
theorem ends_nonneg (l : List (List Int)) : ∀ x ∈ l.map (endBy L F h), 0 ≤ x := fun x hx => by
  obtain ⟨o, _, rfl⟩ := List.mem_map.1 hx
  exact endTo_nonneg _ _ _
theorem least_at : ∃ s, IsOrder L.length s ∧ leastE L F h = endBy L F h s := by
  rcases minL_facts (ends_nonneg (L := L) (F := F) (h := h) (ordW L.length L.length [])) with ⟨e, _⟩ | ⟨_, hm, _⟩
  · have : (List.range L.length).map (fun (i : Nat) => (i : Int)) ∈ ordW L.length L.length [] := orders_iff.2 (range_order _)
    rw [List.map_eq_nil_iff] at e
    rw [e] at this
    simp at this
  · obtain ⟨s, hs, e⟩ := List.mem_map.1 hm
    exact ⟨s, orders_iff.1 hs, e.symm⟩
theorem least_le {s : List Int} (hs : IsOrder L.length s) : leastE L F h ≤ endBy L F h s := by
  have hm : endBy L F h s ∈ (ordW L.length L.length []).map (endBy L F h) := List.mem_map.2 ⟨s, orders_iff.2 hs, rfl⟩
  rcases minL_facts (ends_nonneg (L := L) (F := F) (h := h) (ordW L.length L.length [])) with ⟨e, _⟩ | ⟨_, _, h3⟩
  · rw [e] at hm; simp at hm
  · exact h3 _ hm
theorem least_nonneg : 0 ≤ leastE L F h := by
  obtain ⟨s, _, e⟩ := least_at (L := L) (F := F) (h := h)
  rw [e]; exact endTo_nonneg _ _ _
/-- No right begins end before the least end. -/
theorem least_all {b : List Int} (hb : beginsOk L F h b = true) : leastE L F h ≤ endOf L b := by
  obtain ⟨h1, h2⟩ := by_best hb
  have := least_le (F := F) (h := h) h1
  unfold endBy at this
  omega
theorem least_len (hp : projOk L F = true) (hh : 1 ≤ h ∧ h ≤ 3) : lenOf L F ≤ leastE L F h := by
  obtain ⟨s, hs, e⟩ := least_at (L := L) (F := F) (h := h)
  rw [e]
  exact len_le (by_ok hp hh hs)
theorem least_work (hp : projOk L F = true) (hh : 1 ≤ h ∧ h ≤ 3) : work L L.length ≤ h * leastE L F h := by
  obtain ⟨s, hs, e⟩ := least_at (L := L) (F := F) (h := h)
  rw [e]
  exact work_le (by_ok hp hh hs)
theorem least_more (hp : projOk L F = true) (hh : 1 ≤ h ∧ h + 1 ≤ 3) : leastE L F (h + 1) ≤ leastE L F h := by
  obtain ⟨s, hs, e⟩ := least_at (L := L) (F := F) (h := h)
  have hb := by_ok hp (show 1 ≤ h ∧ h ≤ 3 by omega) hs
  obtain ⟨a1, a2, a3, a4, a5⟩ := beginsOk_iff.1 hb
  rw [e]
  refine least_all (beginsOk_iff.2 ⟨a1, a2, a3, by omega, fun i hi => ⟨(a5 i hi).1, by have := (a5 i hi).2; omega⟩⟩)
theorem least_one (hp : projOk L F = true) : leastE L F 1 = work L L.length := by
  obtain ⟨s, hs, e⟩ := least_at (L := L) (F := F) (h := 1)
  rw [e]
  exact by_one hp hs
theorem least_many (hp : projOk L F = true) (h1 : 1 ≤ h) (hn : (L.length : Int) ≤ h) : leastE L F h = lenOf L F := by
  obtain ⟨s, hs, e⟩ := least_at (L := L) (F := F) (h := h)
  rw [e]
  unfold endBy lenOf
  rw [by_many hp h1 hn hs]
end
end Go.Proofs.Ytmgikoaeomieeaa.Pp
