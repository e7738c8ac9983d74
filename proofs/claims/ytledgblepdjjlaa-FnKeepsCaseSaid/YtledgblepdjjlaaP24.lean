/-
  Cases: a plan and choices of bounds. Plain definitions and laws. No program.
-/
import Derived.Test.YtledgblepdjjlaaP2
namespace Go.Proofs.Ytledgblepdjjlaa
set_option linter.unusedVariables false
set_option linter.unusedSimpArgs false
namespace Pp

def listOk (n : Int) (l : List Bd) : Bool := inB l.length 1 3 && l.all (bdOk n)
def caseOk (p : Pl) (cs : List (List Bd)) : Bool := planOk p && decide (p.bs.length ≤ 12) && decide (cs.length ≤ 4) && cs.all (listOk p.n)
theorem caseOk_iff {p : Pl} {cs : List (List Bd)} : caseOk p cs = true ↔ planOk p = true ∧ p.bs.length ≤ 12 ∧ cs.length ≤ 4 ∧ ∀ l ∈ cs, listOk p.n l = true := by
  simp [caseOk, and_assoc]
theorem listOk_iff {n : Int} {l : List Bd} : listOk n l = true ↔ (1 ≤ l.length ∧ l.length ≤ 3) ∧ ∀ b ∈ l, bdOk n b = true := by
  simp [listOk, inB_iff]; omega
theorem listOk_plan {p : Pl} {l : List Bd} (hp : planOk p = true) : (inB (l.length : Int) 1 3 && planOk ⟨p.n, l⟩) = listOk p.n l := by
  rw [Bool.eq_iff_iff, listOk_iff, Bool.and_eq_true, inB_iff, planOk_iff]
  have h := (planOk_iff.1 hp).1
  dsimp only
  constructor
  · rintro ⟨h1, _, _, h3⟩; exact ⟨by omega, h3⟩
  · rintro ⟨h1, h2⟩; exact ⟨by omega, h, by omega, h2⟩

/-- The bounds that are picked. -/
def pickAt (l : List Bd) (k : Int) : Bd := l.getD k.toNat ⟨0, 0, 0⟩
def picked : List (List Bd) → List Int → List Bd
  | l :: cs, k :: ks => pickAt l k :: picked cs ks
  | _, _ => []
def picksOk : List (List Bd) → List Int → Bool
  | [], [] => true
  | l :: cs, k :: ks => inB k 0 ((l.length : Int) - 1) && picksOk cs ks
  | _, _ => false
def wayP (p : Pl) (cs : List (List Bd)) (ks : List Int) : Pl := ⟨p.n, p.bs ++ picked cs ks⟩
def wayOf (p : Pl) (cs : List (List Bd)) (ks : List Int) : Pl × Bool := if caseOk p cs && picksOk cs ks then (wayP p cs ks, true) else (⟨0, []⟩, false)

theorem picksOk_iff : ∀ {cs : List (List Bd)} {ks : List Int}, picksOk cs ks = true ↔ ks.length = cs.length ∧ ∀ (i : Nat) (l : List Bd) (k : Int), cs[i]? = some l → ks[i]? = some k → 0 ≤ k ∧ k ≤ (l.length : Int) - 1
  | [], [] => by simp [picksOk]
  | [], k :: ks => by simp [picksOk]
  | l :: cs, [] => by simp [picksOk]
  | l :: cs, k :: ks => by
    simp only [picksOk, Bool.and_eq_true, inB_iff, picksOk_iff (cs := cs) (ks := ks), List.length_cons]
    constructor
    · rintro ⟨h1, h2, h3⟩
      refine ⟨by omega, fun i l' k' hl hk => ?_⟩
      cases i with
      | zero => simp at hl hk; subst hl; subst hk; exact h1
      | succ i => exact h3 i l' k' (by simpa using hl) (by simpa using hk)
    · rintro ⟨h1, h2⟩
      exact ⟨h2 0 l k rfl rfl, by omega, fun i l' k' hl hk => h2 (i + 1) l' k' (by simpa using hl) (by simpa using hk)⟩
theorem picksOk_bad {cs : List (List Bd)} {ks : List Int} {i : Nat} {l : List Bd} {k : Int} (hl : cs[i]? = some l) (hk : ks[i]? = some k) (h : ¬ (0 ≤ k ∧ k ≤ (l.length : Int) - 1)) : picksOk cs ks = false := by
  rw [Bool.eq_false_iff]
  exact fun e => h ((picksOk_iff.1 e).2 i l k hl hk)
theorem picksOk_len {cs : List (List Bd)} {ks : List Int} (h : ks.length ≠ cs.length) : picksOk cs ks = false := by
  rw [Bool.eq_false_iff]
  exact fun e => h (picksOk_iff.1 e).1
theorem picksOk_take {cs : List (List Bd)} {ks : List Int} {i : Nat} {l : List Bd} {k : Int} (h : picksOk (cs.take i) (ks.take i) = true) (hl : cs[i]? = some l) (hk : ks[i]? = some k) (hv : 0 ≤ k ∧ k ≤ (l.length : Int) - 1) : picksOk (cs.take (i + 1)) (ks.take (i + 1)) = true := by
  obtain ⟨h1, h2⟩ := picksOk_iff.1 h
  have hl1 := (List.getElem?_eq_some_iff.1 hl).1
  have hk1 := (List.getElem?_eq_some_iff.1 hk).1
  refine picksOk_iff.2 ⟨by rw [List.length_take, List.length_take]; omega, fun j l' k' hl' hk' => ?_⟩
  rw [List.getElem?_take] at hl' hk'
  by_cases hj : j < i
  · rw [if_pos (by omega)] at hl' hk'
    exact h2 j l' k' (by rw [List.getElem?_take, if_pos hj]; exact hl') (by rw [List.getElem?_take, if_pos hj]; exact hk')
  · by_cases e : j = i
    · subst e
      rw [if_pos (by omega)] at hl' hk'
      rw [hl] at hl'; cases hl'
      rw [hk] at hk'; cases hk'
      exact hv
    · rw [if_neg (by omega)] at hl'; cases hl'
theorem picked_snoc : ∀ {cs : List (List Bd)} {ks : List Int} {l : List Bd} {k : Int}, cs[ks.length]? = some l → picked cs (ks ++ [k]) = picked cs ks ++ [pickAt l k]
  | [], ks, l, k, h => by simp at h
  | l0 :: cs, [], l, k, h => by simp at h; subst h; simp [picked]
  | l0 :: cs, k0 :: ks, l, k, h => by
    have := picked_snoc (cs := cs) (ks := ks) (l := l) (k := k) (by simpa using h)
    simp [picked, this]
theorem picked_take {cs : List (List Bd)} {ks : List Int} {i : Nat} {l : List Bd} {k : Int} (hl : cs[i]? = some l) (hk : ks[i]? = some k) : picked cs (ks.take (i + 1)) = picked cs (ks.take i) ++ [pickAt l k] := by
  have hi := (List.getElem?_eq_some_iff.1 hk).1
  have e : ks.take (i + 1) = ks.take i ++ [k] := by rw [List.take_succ_eq_append_getElem hi, (List.getElem?_eq_some_iff.1 hk).2]
  rw [e]
  exact picked_snoc (by rw [List.length_take, Nat.min_eq_left (by omega)]; exact hl)
theorem picked_length : ∀ (cs : List (List Bd)) (ks : List Int), ks.length ≤ cs.length → (picked cs ks).length = ks.length
  | [], [], _ => rfl
  | [], k :: ks, h => by simp at h
  | l :: cs, [], _ => rfl
  | l :: cs, k :: ks, h => by simp only [picked, List.length_cons] at h ⊢; rw [picked_length cs ks (by omega)]
theorem pickAt_get {l : List Bd} {k : Int} (h : 0 ≤ k ∧ k ≤ (l.length : Int) - 1) : l[k.toNat]? = some (pickAt l k) := by
  unfold pickAt
  rw [List.getD_eq_getElem?_getD, List.getElem?_eq_getElem (by omega)]; rfl
theorem picked_mem : ∀ {cs : List (List Bd)} {ks : List Int}, (∀ (i : Nat) (l : List Bd) (k : Int), cs[i]? = some l → ks[i]? = some k → 0 ≤ k ∧ k ≤ (l.length : Int) - 1) → ∀ b ∈ picked cs ks, ∃ l ∈ cs, b ∈ l
  | [], ks, _, b, hb => by cases ks <;> simp [picked] at hb
  | l :: cs, [], _, b, hb => by simp [picked] at hb
  | l :: cs, k :: ks, h, b, hb => by
    simp only [picked, List.mem_cons] at hb
    rcases hb with rfl | hb
    · exact ⟨l, by simp, List.mem_of_getElem? (pickAt_get (h 0 l k rfl rfl))⟩
    · obtain ⟨l', h1, h2⟩ := picked_mem (fun i l' k' hl hk => h (i + 1) l' k' (by simpa using hl) (by simpa using hk)) b hb
      exact ⟨l', by simp [h1], h2⟩
/-- What is picked so far is a plan. -/
theorem way_plan {p : Pl} {cs : List (List Bd)} {ks : List Int} (hc : caseOk p cs = true) (hl : ks.length ≤ cs.length) (h : ∀ (i : Nat) (l : List Bd) (k : Int), cs[i]? = some l → ks[i]? = some k → 0 ≤ k ∧ k ≤ (l.length : Int) - 1) : planOk (wayP p cs ks) = true := by
  obtain ⟨h1, h2, h3, h4⟩ := caseOk_iff.1 hc
  obtain ⟨a, _, b⟩ := planOk_iff.1 h1
  refine planOk_iff.2 ⟨a, ?_, fun x hx => ?_⟩
  · have := picked_length cs ks hl
    simp only [wayP, List.length_append]; omega
  · simp only [wayP, List.mem_append] at hx
    rcases hx with hx | hx
    · exact b x hx
    · obtain ⟨l, hl, hb⟩ := picked_mem h x hx
      exact (listOk_iff.1 (h4 l hl)).2 x hb

/-! ### all ways -/
def allW (cs : List (List Bd)) : Nat → List Int → List (List Int)
  | 0, ks => [ks]
  | m + 1, ks => match cs[ks.length]? with
    | none => []
    | some l => (List.range l.length).flatMap fun (i : Nat) => allW cs m (ks ++ [(i : Int)])
/-- .. of the first places. -/
def allK (cs : List (List Bd)) (m : Nat) (ks : List Int) (k : Nat) : List (List Int) := (List.range k).flatMap fun (i : Nat) => allW cs m (ks ++ [(i : Int)])
theorem allK_succ (cs : List (List Bd)) (m : Nat) (ks : List Int) (k : Nat) : allK cs m ks (k + 1) = allK cs m ks k ++ allW cs m (ks ++ [(k : Int)]) := by
  simp [allK, List.range_succ]
theorem allW_succ {cs : List (List Bd)} {ks : List Int} {l : List Bd} (m : Nat) (h : cs[ks.length]? = some l) : allW cs (m + 1) ks = allK cs m ks l.length := by
  simp only [allW, h, allK]
/-- Whether a way fits. -/
def fitsW (p : Pl) (cs : List (List Bd)) (ks : List Int) : Bool := fits (wayP p cs ks)
def waysF (p : Pl) (cs : List (List Bd)) (m : Nat) (ks : List Int) : List (List Int) := (allW cs m ks).filter (fitsW p cs)
def waysK (p : Pl) (cs : List (List Bd)) (m : Nat) (ks : List Int) (k : Nat) : List (List Int) := (allK cs m ks k).filter (fitsW p cs)
theorem waysK_succ (p : Pl) (cs : List (List Bd)) (m : Nat) (ks : List Int) (k : Nat) : waysK p cs m ks (k + 1) = waysK p cs m ks k ++ waysF p cs m (ks ++ [(k : Int)]) := by
  unfold waysK waysF; rw [allK_succ, List.filter_append]
theorem waysF_succ {p : Pl} {cs : List (List Bd)} {ks : List Int} {l : List Bd} (m : Nat) (h : cs[ks.length]? = some l) : waysF p cs (m + 1) ks = waysK p cs m ks l.length := by
  unfold waysF waysK; rw [allW_succ m h]
theorem waysK_le (p : Pl) (cs : List (List Bd)) (m : Nat) (ks : List Int) (k N : Nat) (h : k ≤ N) : waysK p cs m ks k <+: waysK p cs m ks N := by
  induction N with
  | zero => obtain rfl : k = 0 := by omega
            exact List.prefix_refl _
  | succ N ih =>
    by_cases e : k = N + 1
    · subst e; exact List.prefix_refl _
    · rw [waysK_succ]; exact (ih (by omega)).trans (List.prefix_append _ _)
/-- All ways that fit. -/
def ways (p : Pl) (cs : List (List Bd)) : List (List Int) := if caseOk p cs then waysF p cs cs.length [] else []
theorem allW_mem {cs : List (List Bd)} : ∀ {m : Nat} {ks xs : List Int}, ks.length + m = cs.length → xs ∈ allW cs m ks → (∀ (i : Nat) (l : List Bd) (k : Int), cs[i]? = some l → ks[i]? = some k → 0 ≤ k ∧ k ≤ (l.length : Int) - 1) → picksOk cs xs = true ∧ ∃ t, xs = ks ++ t
  | 0, ks, xs, hm, hx, h => by
    simp only [allW, List.mem_singleton] at hx
    subst hx
    exact ⟨picksOk_iff.2 ⟨by omega, h⟩, [], by simp⟩
  | m + 1, ks, xs, hm, hx, h => by
    have hl := List.getElem?_eq_getElem (show ks.length < cs.length by omega)
    rw [allW_succ m hl, allK, List.mem_flatMap] at hx
    obtain ⟨j, hj, hx⟩ := hx
    rw [List.mem_range] at hj
    obtain ⟨h1, t, h2⟩ := allW_mem (by simp; omega) hx (by
      intro i l k hi hk
      by_cases e : i < ks.length
      · rw [List.getElem?_append_left e] at hk; exact h i l k hi hk
      · rw [List.getElem?_append_right (by omega)] at hk
        have e0 : i - ks.length = 0 := by
          have := (List.getElem?_eq_some_iff.1 hk).1
          simpa using this
        rw [e0] at hk
        simp at hk
        have : i = ks.length := by omega
        subst this
        rw [hl] at hi
        cases hi
        omega)
    exact ⟨h1, (j : Int) :: t, by rw [h2]; simp⟩
theorem ways_mem {p : Pl} {cs : List (List Bd)} {xs : List Int} (h : xs ∈ ways p cs) : caseOk p cs = true ∧ picksOk cs xs = true ∧ fitsW p cs xs = true := by
  unfold ways at h
  split at h
  · rename_i hc
    unfold waysF at h
    obtain ⟨h1, h2⟩ := List.mem_filter.1 h
    exact ⟨hc, (allW_mem (by simp) h1 (by simp)).1, h2⟩
  · simp at h
theorem allW_self {cs : List (List Bd)} : ∀ {m : Nat} {ks t : List Int}, ks.length + m = cs.length → picksOk cs (ks ++ t) = true → ks ++ t ∈ allW cs m ks
  | 0, ks, t, hm, h => by
    have := (picksOk_iff.1 h).1
    have : t = [] := List.eq_nil_of_length_eq_zero (by rw [List.length_append] at this; omega)
    subst this
    simp [allW]
  | m + 1, ks, t, hm, h => by
    have hl := List.getElem?_eq_getElem (show ks.length < cs.length by omega)
    obtain ⟨h1, h2⟩ := picksOk_iff.1 h
    cases t with
    | nil => rw [List.append_nil] at h1; omega
    | cons k t =>
      have hk := h2 ks.length _ k hl (by simp)
      rw [allW_succ m hl, allK, List.mem_flatMap]
      refine ⟨k.toNat, List.mem_range.2 (by omega), ?_⟩
      have e : ks ++ k :: t = (ks ++ [((k.toNat : Nat) : Int)]) ++ t := by rw [Int.toNat_of_nonneg hk.1]; simp
      rw [e]
      exact allW_self (by simp; omega) (by rw [← e]; exact h)
theorem ways_iff {p : Pl} {cs : List (List Bd)} {xs : List Int} : xs ∈ ways p cs ↔ caseOk p cs = true ∧ picksOk cs xs = true ∧ fitsW p cs xs = true := by
  refine ⟨ways_mem, fun ⟨h1, h2, h3⟩ => ?_⟩
  unfold ways
  rw [if_pos h1]
  exact List.mem_filter.2 ⟨allW_self (ks := []) (by simp) h2, h3⟩

/-- The same, choice by choice. -/
def allB (cs : List (List Bd)) : Nat → List (List Int)
  | 0 => [[]]
  | k + 1 => (allB cs k).flatMap fun ks => (List.range (cs.getD k []).length).map fun (i : Nat) => ks ++ [(i : Int)]
theorem allW_last {cs : List (List Bd)} : ∀ (m : Nat) (ks : List Int), ks.length + m < cs.length → allW cs (m + 1) ks = (allW cs m ks).flatMap fun xs => (List.range (cs.getD (ks.length + m) []).length).map fun (i : Nat) => xs ++ [(i : Int)]
  | 0, ks, h => by
    have hl := List.getElem?_eq_getElem (show ks.length < cs.length by omega)
    rw [allW_succ 0 hl]
    simp only [allK, allW, List.flatMap_cons, List.flatMap_nil, List.append_nil, Nat.add_zero]
    rw [List.getD_eq_getElem?_getD, hl]
    exact List.map_eq_flatMap.symm
  | m + 1, ks, h => by
    have hl := List.getElem?_eq_getElem (show ks.length < cs.length by omega)
    rw [allW_succ (m + 1) hl, allW_succ m hl]
    unfold allK
    rw [List.flatMap_assoc]
    congr 1
    funext i
    have hlen : (ks ++ [(i : Int)]).length = ks.length + 1 := by simp
    have hw : (ks ++ [(i : Int)]).length + m < cs.length := by omega
    have h9 := allW_last m (ks ++ [(i : Int)]) hw
    rw [h9, hlen, show ks.length + 1 + m = ks.length + (m + 1) by omega]
theorem allB_eq (cs : List (List Bd)) : ∀ m, m ≤ cs.length → allB cs m = allW cs m []
  | 0, _ => rfl
  | m + 1, h => by
    rw [allW_last m [] (by simp; omega), allB, allB_eq cs m (by omega)]
    simp
theorem allB_len1 (cs : List (List Bd)) : ∀ (m : Nat), ∀ l ∈ allB cs m, l.length = m
  | 0, l, h => by simp [allB] at h; subst h; rfl
  | m + 1, l, h => by
    simp only [allB, List.mem_flatMap, List.mem_map] at h
    obtain ⟨ks, h1, i, _, rfl⟩ := h
    simp [allB_len1 cs m ks h1]
theorem flat_le {α β : Type} (f : α → List β) (k : Nat) (h : ∀ a, (f a).length ≤ k) (l : List α) : (l.flatMap f).length ≤ l.length * k := by
  induction l with
  | nil => simp
  | cons a t ih =>
    rw [List.flatMap_cons, List.length_append, List.length_cons, Nat.succ_mul]
    have := h a
    omega
theorem allB_le {cs : List (List Bd)} (h : ∀ (i : Nat) (l : List Bd), cs[i]? = some l → l.length ≤ 3) : ∀ m, (allB cs m).length ≤ 3 ^ m
  | 0 => by simp [allB]
  | m + 1 => by
    rw [allB, Nat.pow_succ]
    refine Nat.le_trans (flat_le _ 3 (fun ks => ?_) _) (Nat.mul_le_mul_right _ (allB_le h m))
    rw [List.length_map, List.length_range, List.getD_eq_getElem?_getD]
    cases hx : cs[m]? with
    | none => simp
    | some l => simpa using h _ _ hx
theorem allW_len {cs : List (List Bd)} (h : ∀ (i : Nat) (l : List Bd), cs[i]? = some l → l.length ≤ 3) : ∀ (m : Nat) (ks : List Int), (allW cs m ks).length ≤ 3 ^ m
  | 0, ks => by simp [allW]
  | m + 1, ks => by
    simp only [allW]
    cases hx : cs[ks.length]? with
    | none => simp
    | some l =>
      have h3 := h _ _ hx
      dsimp only
      have key : ∀ k : Nat, ((List.range k).flatMap fun (i : Nat) => allW cs m (ks ++ [(i : Int)])).length ≤ k * 3 ^ m := by
        intro k
        induction k with
        | zero => simp
        | succ k ih =>
          rw [List.range_succ, List.flatMap_append, List.length_append, Nat.succ_mul]
          have := allW_len h m (ks ++ [(k : Int)])
          have e : (List.flatMap (fun (i : Nat) => allW cs m (ks ++ [(i : Int)])) [k]).length = (allW cs m (ks ++ [(k : Int)])).length := by simp
          rw [e]
          omega
      refine Nat.le_trans (key _) ?_
      rw [Nat.pow_succ, Nat.mul_comm]
      exact Nat.mul_le_mul_left _ h3
theorem ways_len (p : Pl) (cs : List (List Bd)) : (ways p cs).length ≤ 81 := by
  unfold ways
  split
  · rename_i hc
    obtain ⟨_, _, h4, ho⟩ := caseOk_iff.1 hc
    have h1 := allW_len (cs := cs) (fun i l hi => (listOk_iff.1 (ho l (List.mem_of_getElem? hi))).1.2) cs.length []
    have h2 : (3 : Nat) ^ cs.length ≤ 3 ^ 4 := Nat.pow_le_pow_right (by omega) h4
    have h3 : (waysF p cs cs.length []).length ≤ (allW cs cs.length []).length := List.length_filter_le ..
    omega
  · simp
def headW (ws : List (List Int)) : List Int × Bool := match ws with
  | [] => ([], false)
  | x :: _ => (x, true)
def firstW (p : Pl) (cs : List (List Bd)) : List Int × Bool := headW (ways p cs)
theorem headW_pre {pre xs : List (List Int)} {q : List Int} (h : pre <+: xs) (hq : headW pre = (q, true)) : headW xs = (q, true) := by
  obtain ⟨t, rfl⟩ := h
  cases pre with
  | nil => cases hq
  | cons a l => exact hq
theorem headW_no {xs : List (List Int)} {q : List Int} (h : headW xs = (q, false)) : xs = [] ∧ q = [] := by
  cases xs with
  | nil => exact ⟨rfl, (Prod.mk.inj h).1.symm⟩
  | cons a l => cases h
theorem picked_app {cs : List (List Bd)} : ∀ {ks t : List Int}, ∃ r, picked cs (ks ++ t) = picked cs ks ++ r := by
  induction cs with
  | nil => intro ks t; exact ⟨[], by simp [picked]⟩
  | cons l cs ih =>
    intro ks t
    cases ks with
    | nil => exact ⟨picked (l :: cs) t, rfl⟩
    | cons k ks =>
      obtain ⟨r, hr⟩ := ih (ks := ks) (t := t)
      exact ⟨r, by simp [picked, hr]⟩
/-- What goes on picks that do not fit does not fit. -/
theorem waysF_none {p : Pl} {cs : List (List Bd)} (hc : caseOk p cs = true) {m : Nat} {ks : List Int} (hm : ks.length + m = cs.length) (hv : ∀ (i : Nat) (l : List Bd) (k : Int), cs[i]? = some l → ks[i]? = some k → 0 ≤ k ∧ k ≤ (l.length : Int) - 1) (hf : fits (wayP p cs ks) = false) : waysF p cs m ks = [] := by
  apply List.eq_nil_iff_forall_not_mem.2
  intro xs hx
  unfold waysF at hx
  obtain ⟨h1, h2⟩ := List.mem_filter.1 hx
  obtain ⟨h3, t, rfl⟩ := allW_mem hm h1 hv
  have hp := planOk_of_fits h2
  have hp0 := way_plan hc (by omega) hv
  obtain ⟨y, hy⟩ := (fits_iff hp).1 h2
  have : fits (wayP p cs ks) = true := (fits_iff hp0).2 ⟨y, fun b hb => hy b (by
    obtain ⟨r, hr⟩ := picked_app (cs := cs) (ks := ks) (t := t)
    simp only [wayP, List.mem_append] at hb ⊢
    rw [hr]
    rcases hb with hb | hb
    · exact .inl hb
    · exact .inr (List.mem_append.2 (.inl hb)))⟩
  rw [hf] at this
  cases this
/-- The least number so far. -/
def spanAcc (a : Int × Bool) (n : Int) : Int × Bool := if a.2 = false ∨ n < a.1 then (n, true) else a
def spanW (L : List Int → Int × Bool) (xs : List (List Int)) : Int × Bool := xs.foldl (fun a ks => spanAcc a (L ks).1) (0, false)
theorem spanW_snoc (L : List Int → Int × Bool) (xs : List (List Int)) (ks : List Int) : spanW L (xs ++ [ks]) = spanAcc (spanW L xs) (L ks).1 := by simp [spanW]
def leastW (L : List Int → Int × Bool) (ws : List (List Int)) : Int × Bool := if ws.all (fun ks => (L ks).2) then spanW L ws else (0, false)
def leastSpan (p : Pl) (cs : List (List Bd)) (f t : Int) : Int × Bool := leastW (fun ks => leastOf (wayP p cs ks) f t) (ways p cs)
/-- What is met, each once, in the order in which it comes. -/
def optAcc (out : List Int) (v : Int) : List Int := if v ∈ out then out else out ++ [v]
def optL (ch : Nat) (xs : List (List Int)) : List Int := xs.foldl (fun out ks => optAcc out (ks.getD ch 0)) []
theorem optL_snoc (ch : Nat) (xs : List (List Int)) (ks : List Int) : optL ch (xs ++ [ks]) = optAcc (optL ch xs) (ks.getD ch 0) := by simp [optL]
theorem optL_len (ch : Nat) (xs : List (List Int)) : (optL ch xs).length ≤ xs.length := by
  unfold optL
  have key : ∀ (xs : List (List Int)) (o : List Int), (xs.foldl (fun out ks => optAcc out (ks.getD ch 0)) o).length ≤ o.length + xs.length := by
    intro xs
    induction xs with
    | nil => intro o; simp
    | cons a t ih =>
      intro o
      have h := ih (optAcc o (a.getD ch 0))
      have h2 : (optAcc o (a.getD ch 0)).length ≤ o.length + 1 := by unfold optAcc; split <;> simp
      simp only [List.foldl_cons, List.length_cons]
      omega
  simpa using key xs []
theorem small_len : ∀ (n : Nat) (l : List Int), l.Nodup → (∀ x ∈ l, 0 ≤ x ∧ x < n) → l.length ≤ n
  | 0, l, _, h => by
    cases l with
    | nil => exact Nat.le_refl _
    | cons a l => have := h a (by simp); omega
  | n + 1, l, hd, h => by
    by_cases hm : (n : Int) ∈ l
    · have h1 := small_len n (l.erase n) (hd.erase _) (fun x hx => by
        have h2 := (hd.mem_erase_iff).1 hx
        have := h x h2.2
        have := h2.1
        omega)
      rw [List.length_erase_of_mem hm] at h1
      omega
    · exact Nat.le_succ_of_le (small_len n l hd (fun x hx => by
        have := h x hx
        have : x ≠ n := fun e => hm (e ▸ hx)
        omega))
/-- Few and small. -/
def OptOk (L : List Int) : Prop := L.Nodup ∧ ∀ x ∈ L, 0 ≤ x ∧ x < (3 : Nat)
theorem OptOk.acc {L : List Int} (h : OptOk L) {v : Int} (hv : 0 ≤ v ∧ v < 3) : OptOk (optAcc L v) := by
  unfold optAcc
  split
  · exact h
  · rename_i hn
    refine ⟨List.nodup_append.2 ⟨h.1, by simp, fun a ha b hb => ?_⟩, fun x hx => ?_⟩
    · rw [List.mem_singleton] at hb; subst hb; exact fun e => hn (e ▸ ha)
    · rcases List.mem_append.1 hx with hx | hx
      · exact h.2 x hx
      · rw [List.mem_singleton] at hx; subst hx; exact ⟨hv.1, by omega⟩
theorem OptOk.len {L : List Int} (h : OptOk L) : L.length ≤ 3 := small_len 3 L h.1 h.2
def optionsOf (p : Pl) (cs : List (List Bd)) (ch : Int) : List Int := if caseOk p cs && inB ch 0 ((cs.length : Int) - 1) then (optL ch.toNat (ways p cs)).mergeSort (fun x y => decide (x ≤ y)) else []
def countW (p : Pl) (cs : List (List Bd)) : Int := if caseOk p cs then ((ways p cs).length : Int) else -1
/-- The least number so far, or Far. -/
def bestF (F : List Int → Bool) (L : List Int → Int × Bool) (xs : List (List Int)) : Int := (xs.filter F).foldl (fun a ks => min a (L ks).1) Far
theorem bestF_snoc (F : List Int → Bool) (L : List Int → Int × Bool) (xs : List (List Int)) (ks : List Int) : bestF F L (xs ++ [ks]) = if F ks then min (bestF F L xs) (L ks).1 else bestF F L xs := by
  unfold bestF
  rw [List.filter_append]
  cases h : F ks <;> simp [h]
theorem leastW_bad {L : List Int → Int × Bool} {ws : List (List Int)} {ks : List Int} (h : ks ∈ ws) (hn : (L ks).2 = false) : leastW L ws = (0, false) := by
  unfold leastW
  rw [if_neg]
  intro e
  have := List.all_eq_true.1 e ks h
  rw [hn] at this; cases this
theorem leastW_good {L : List Int → Int × Bool} {ws : List (List Int)} (h : ∀ ks ∈ ws, (L ks).2 = true) : leastW L ws = spanW L ws := by
  unfold leastW
  rw [if_pos (List.all_eq_true.2 h)]
theorem spanW_best (L : List Int → Int × Bool) (hL : ∀ ks, (L ks).1 < Far) (ws : List (List Int)) : spanW L ws = (if ws.foldl (fun a ks => min a (L ks).1) Far = Far then (0, false) else (ws.foldl (fun a ks => min a (L ks).1) Far, true)) := by
  have key : ∀ (xs : List (List Int)) (a : Int × Bool) (m : Int), (a = (0, false) ∧ m = Far) ∨ (a = (m, true) ∧ m < Far) →
      (xs.foldl (fun a ks => spanAcc a (L ks).1) a = (0, false) ∧ xs.foldl (fun a ks => min a (L ks).1) m = Far) ∨ (xs.foldl (fun a ks => spanAcc a (L ks).1) a = (xs.foldl (fun a ks => min a (L ks).1) m, true) ∧ xs.foldl (fun a ks => min a (L ks).1) m < Far) := by
    intro xs
    induction xs with
    | nil => intro a m h; exact h
    | cons k t ih =>
      intro a m h
      simp only [List.foldl_cons]
      apply ih
      have hk := hL k
      right
      rcases h with ⟨rfl, rfl⟩ | ⟨rfl, hm⟩
      · refine ⟨?_, by omega⟩
        unfold spanAcc
        rw [if_pos (.inl rfl)]
        congr 1; omega
      · refine ⟨?_, by omega⟩
        unfold spanAcc
        by_cases h : (L k).1 < m
        · rw [if_pos (.inr h)]; congr 1; omega
        · rw [if_neg (by simp [h])]; congr 1; omega
  rcases key ws (0, false) Far (.inl ⟨rfl, rfl⟩) with ⟨h1, h2⟩ | ⟨h1, h2⟩
  · unfold spanW; rw [h1, if_pos h2]
  · unfold spanW; rw [h1, if_neg (by omega)]
theorem allB_ok {cs : List (List Bd)} {ks : List Int} (h : ks ∈ allB cs cs.length) : picksOk cs ks = true := by
  rw [allB_eq cs cs.length (Nat.le_refl _)] at h
  exact (allW_mem (by simp) h (by simp)).1
theorem ways_allB {p : Pl} {cs : List (List Bd)} (hc : caseOk p cs = true) : ways p cs = (allB cs cs.length).filter (fitsW p cs) := by
  unfold ways waysF
  rw [if_pos hc, allB_eq cs cs.length (Nat.le_refl _)]
theorem optL_mem {ch : Nat} {v : Int} : ∀ {xs : List (List Int)}, v ∈ optL ch xs ↔ ∃ ks ∈ xs, ks.getD ch 0 = v := by
  have key : ∀ (xs : List (List Int)) (o : List Int), v ∈ xs.foldl (fun out ks => optAcc out (ks.getD ch 0)) o ↔ v ∈ o ∨ ∃ ks ∈ xs, ks.getD ch 0 = v := by
    intro xs
    induction xs with
    | nil => intro o; simp
    | cons a t ih =>
      intro o
      rw [List.foldl_cons, ih]
      have h : v ∈ optAcc o (a.getD ch 0) ↔ v ∈ o ∨ a.getD ch 0 = v := by
        unfold optAcc
        split
        · rename_i hm
          exact ⟨.inl, fun h => h.elim id (fun e => e ▸ hm)⟩
        · simp only [List.mem_append, List.mem_singleton]
          exact or_congr_right eq_comm
      rw [h]
      simp only [List.mem_cons, exists_eq_or_imp, or_assoc]
  intro xs
  have := key xs []
  simpa [optL] using this
theorem optL_nodup (ch : Nat) (xs : List (List Int)) : (optL ch xs).Nodup := by
  have key : ∀ (xs : List (List Int)) (o : List Int), o.Nodup → (xs.foldl (fun out ks => optAcc out (ks.getD ch 0)) o).Nodup := by
    intro xs
    induction xs with
    | nil => intro o h; exact h
    | cons a t ih =>
      intro o h
      refine ih _ ?_
      dsimp only
      unfold optAcc
      split
      · exact h
      · rename_i hn
        refine List.nodup_append.2 ⟨h, by simp, fun x hx y hy => ?_⟩
        rw [List.mem_singleton] at hy; subst hy; exact fun e => hn (e ▸ hx)
  exact key xs [] List.nodup_nil
/-- Whether a place is in some way that fits. -/
def someJ (ch : Nat) (F : List Int → Bool) (j : Int) (zs : List (List Int)) : Bool := zs.any fun ks => decide (ks.getD ch 0 = j) && F ks
def outS (ch : Nat) (F : List Int → Bool) (zs : List (List Int)) (m : Nat) : List Int := ((List.range m).filter fun (j : Nat) => someJ ch F (j : Int) zs).map fun (j : Nat) => (j : Int)
theorem outS_succ (ch : Nat) (F : List Int → Bool) (zs : List (List Int)) (m : Nat) : outS ch F zs (m + 1) = if someJ ch F (m : Int) zs then outS ch F zs m ++ [(m : Int)] else outS ch F zs m := by
  unfold outS
  rw [List.range_succ, List.filter_append]
  cases h : someJ ch F (m : Int) zs <;> simp [h]
theorem outS_len (ch : Nat) (F : List Int → Bool) (zs : List (List Int)) (m : Nat) : (outS ch F zs m).length ≤ m := by
  unfold outS
  rw [List.length_map]
  have := List.length_filter_le (fun (j : Nat) => someJ ch F (j : Int) zs) (List.range m)
  simpa using this
theorem options_eq {p : Pl} {cs : List (List Bd)} {ch : Nat} {l : List Bd} (hc : caseOk p cs = true) (hi : inB (ch : Int) 0 ((cs.length : Int) - 1) = true) (hl : cs[ch]? = some l) : optionsOf p cs (ch : Int) = outS ch (fitsW p cs) (allB cs cs.length) l.length := by
  have hcl := (List.getElem?_eq_some_iff.1 hl).1
  unfold optionsOf
  rw [hc, hi]
  simp only [Bool.and_self, if_true, Int.toNat_natCast]
  rw [ways_allB hc]
  obtain ⟨zs, hzs⟩ : ∃ zs, allB cs cs.length = zs := ⟨_, rfl⟩
  obtain ⟨F, hF⟩ : ∃ F, fitsW p cs = F := ⟨_, rfl⟩
  rw [hzs, hF]
  have hv : ∀ ks ∈ zs, 0 ≤ ks.getD ch 0 ∧ ks.getD ch 0 < l.length := by
    intro ks hk
    have h := picksOk_iff.1 (allB_ok (cs := cs) (by rw [hzs]; exact hk))
    have hk2 := List.getElem?_eq_getElem (show ch < ks.length by omega)
    have := h.2 ch l _ hl hk2
    rw [List.getD_eq_getElem?_getD, hk2]
    simp only [Option.getD_some]
    omega
  refine List.Perm.eq_of_pairwise (le := fun a b : Int => a ≤ b) (fun a b _ _ h1 h2 => by omega) ?_ ?_ ?_
  · have h := List.pairwise_mergeSort (le := fun x y : Int => decide (x ≤ y)) (fun a b c h1 h2 => by simp at *; omega) (fun a b => by simp; omega) (optL ch (zs.filter F))
    exact h.imp (fun h => by simpa using h)
  · unfold outS
    rw [List.pairwise_map]
    refine List.Pairwise.imp ?_ (List.Pairwise.filter _ (List.pairwise_lt_range (n := l.length)))
    intro a b h; omega
  · refine (List.mergeSort_perm _ _).trans ((List.perm_ext_iff_of_nodup (optL_nodup _ _) ?_).2 fun v => ?_)
    · unfold outS
      refine List.Pairwise.map _ ?_ (List.Pairwise.filter _ List.nodup_range)
      intro a b h; omega
    · rw [optL_mem]
      unfold outS someJ
      simp only [List.mem_map, List.mem_filter, List.mem_range, List.any_eq_true, Bool.and_eq_true, decide_eq_true_eq]
      constructor
      · rintro ⟨ks, ⟨h1, h2⟩, rfl⟩
        have := hv ks h1
        exact ⟨(ks.getD ch 0).toNat, ⟨by omega, ks, h1, by omega, h2⟩, by omega⟩
      · rintro ⟨j, ⟨_, ks, h1, h2, h3⟩, rfl⟩
        exact ⟨ks, ⟨h1, h3⟩, h2⟩
end Pp
end Go.Proofs.Ytledgblepdjjlaa
