/-
  The law of KeepsCase, plain: what keeps a case keeps some way.
-/
import Derived.Test.YtledgblepdjjlaaP28
namespace Go.Proofs.Ytledgblepdjjlaa.Pp

/-- The places of a way by its number. -/
def digs : Nat → Nat → List Int
  | 0, _ => []
  | m + 1, w => ((w % 3 : Nat) : Int) :: digs m (w / 3)
theorem digs_length : ∀ m w, (digs m w).length = m
  | 0, _ => rfl
  | m + 1, w => by simp only [digs, List.length_cons, digs_length m]
def someW (p : Pl) (cs : List (List Bd)) (xs : List Int) (k : Nat) : Bool := (List.range k).any fun w => (wayOf p cs (digs cs.length w)).2 && keepsOk (wayOf p cs (digs cs.length w)).1 xs
theorem someW_succ (p : Pl) (cs : List (List Bd)) (xs : List Int) (k : Nat) : someW p cs xs (k + 1) = (someW p cs xs k || ((wayOf p cs (digs cs.length k)).2 && keepsOk (wayOf p cs (digs cs.length k)).1 xs)) := by
  unfold someW; rw [List.range_succ, List.any_append]; simp
theorem digs_some (xs : List Int) : ∀ cs : List (List Bd), (∀ l ∈ cs, l.length ≤ 3 ∧ l.any (keptB xs) = true) → ∃ w, w < 3 ^ cs.length ∧ picksOk cs (digs cs.length w) = true ∧ ∀ x ∈ picked cs (digs cs.length w), keptB xs x = true
  | [], _ => ⟨0, by simp, rfl, by simp [picked]⟩
  | l :: cs, h => by
    obtain ⟨w, h1, h2, h3⟩ := digs_some xs cs (fun l' hl => h l' (List.mem_cons_of_mem _ hl))
    obtain ⟨h4, h5⟩ := h l List.mem_cons_self
    obtain ⟨x, hx, hk⟩ := List.any_eq_true.1 h5
    obtain ⟨k, hkl, e⟩ := List.getElem_of_mem hx
    have e1 : (3 * w + k) % 3 = k := by omega
    have e2 : (3 * w + k) / 3 = w := by omega
    refine ⟨3 * w + k, ?_, ?_, ?_⟩
    · rw [List.length_cons, Nat.pow_succ]; omega
    · simp only [List.length_cons, digs, e1, e2, picksOk, h2, Bool.and_true]
      exact inB_iff.2 (by omega)
    · intro y hy
      simp only [List.length_cons, digs, e1, e2, picked, List.mem_cons] at hy
      rcases hy with rfl | hy
      · unfold pickAt
        rw [List.getD_eq_getElem?_getD, Int.toNat_natCast, List.getElem?_eq_getElem hkl, Option.getD_some, e]
        exact hk
      · exact h3 y hy
theorem keeps_some {p : Pl} {cs : List (List Bd)} {xs : List Int} (hc : caseOk p cs = true) : keepsCase p cs xs = someW p cs xs 81 := by
  rw [Bool.eq_iff_iff]
  obtain ⟨h1, h2, h3, h4⟩ := caseOk_iff.1 hc
  constructor
  · intro h
    unfold keepsCase at h
    simp only [Bool.and_eq_true] at h
    obtain ⟨⟨_, ha⟩, hb⟩ := h
    obtain ⟨w, w1, w2, w3⟩ := digs_some xs cs (fun l hl => ⟨(listOk_iff.1 (h4 l hl)).1.2, List.all_eq_true.1 hb l hl⟩)
    have hw : w < 81 := by
      have : 3 ^ cs.length ≤ 3 ^ 4 := Nat.pow_le_pow_right (by omega) h3
      omega
    have e : wayOf p cs (digs cs.length w) = (wayP p cs (digs cs.length w), true) := by unfold wayOf; rw [hc, w2]; rfl
    unfold someW
    refine List.any_eq_true.2 ⟨w, List.mem_range.2 hw, ?_⟩
    rw [e, Bool.true_and]
    obtain ⟨a1, a2⟩ := keepsOk_iff.1 ha
    have hp := way_plan hc (ks := digs cs.length w) (by rw [digs_length]; omega) (picksOk_iff.1 w2).2
    refine keepsOk_iff.2 ⟨?_, ?_⟩
    · unfold timesOk at a1 ⊢
      simp only [Bool.and_eq_true] at a1 ⊢
      exact ⟨⟨hp, a1.1.2⟩, a1.2⟩
    · refine sol_append.2 ⟨a2, fun x hx => ?_⟩
      have := w3 x hx
      unfold keptB at this
      exact of_decide_eq_true this
  · intro h
    unfold someW at h
    obtain ⟨w, _, hw⟩ := List.any_eq_true.1 h
    rw [Bool.and_eq_true] at hw
    obtain ⟨b1, b2⟩ := hw
    have e : wayOf p cs (digs cs.length w) = ((wayOf p cs (digs cs.length w)).1, true) := by rw [← b1]
    obtain ⟨c1, c2, c3⟩ := wayOf_yes e
    rw [c3] at b2
    exact way_keeps c1 c2 b2
theorem keeps_take {p : Pl} {cs : List (List Bd)} {xs : List Int} (m : Nat) (h : keepsCase p cs xs = true) : keepsCase p (cs.take m) xs = true := by
  unfold keepsCase at h ⊢
  simp only [Bool.and_eq_true] at h ⊢
  obtain ⟨⟨hc, ha⟩, hb⟩ := h
  obtain ⟨h1, h2, h3, h4⟩ := caseOk_iff.1 hc
  refine ⟨⟨caseOk_iff.2 ⟨h1, h2, by rw [List.length_take]; omega, fun l hl => h4 l (List.mem_of_mem_take hl)⟩, ha⟩, ?_⟩
  rw [List.all_eq_true] at hb ⊢
  exact fun l hl => hb l (List.mem_of_mem_take hl)
end Go.Proofs.Ytledgblepdjjlaa.Pp
