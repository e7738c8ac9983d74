/-
  The plain laws of PlanNarrowed, LengthsOf, LastOf and PlanOf (no program).
-/
import Derived.Test.YtofodhdpppjaoaaP55
import Derived.Test.YtofodhdpppjaoaaL88
import Derived.Test.YtofodhdpppjaoaaL87
import Derived.Test.YtofodhdpppjaoaaL84
namespace Go.Proofs.Ytofodhdpppjaoaa
set_option linter.unusedVariables false
set_option linter.unusedSimpArgs false
open Go.RowKit Pp
namespace Pp
theorem nar_cnt : ∀ (a : Tm) (lo hi : Int), (nar a lo hi).thens = a.thens ∧ (nar a lo hi).steps = a.steps ∧ (nar a lo hi).withs = a.withs
  | .step l h, lo, hi => ⟨rfl, rfl, rfl⟩
  | .wth a h, lo, hi => by simp only [nar, Tm.thens, Tm.steps, Tm.withs, nar_cnt a, and_self]
  | .thn a b, lo, hi => by simp only [nar, Tm.thens, Tm.steps, Tm.withs, nar_cnt a, nar_cnt b, and_self]
  | .bth a b, lo, hi => by simp only [nar, Tm.thens, Tm.steps, Tm.withs, nar_cnt a, nar_cnt b, and_self]
theorem lensOf_some {t : List Mk} {u : Int × Int} (h : lensOf t = some u) : ∃ a, termOf t = some a ∧ a.lens = some u := by
  unfold lensOf at h
  cases ht : termOf t with
  | none => rw [ht] at h; cases h
  | some a => rw [ht] at h; exact ⟨a, rfl, h⟩
/-- A narrowed term has a plan that is kept alike. -/
theorem narrow_law {t : List Mk} (h1 : (lensOf t).isSome = true) (h2 : planIs t = true) : planIs (narrowOf t) = true ∧ alike (planOf t) (planOf (narrowOf t)) = true := by
  obtain ⟨⟨u, v⟩, hl⟩ := Option.isSome_iff_exists.1 h1
  obtain ⟨a, ht, hal⟩ := lensOf_some hl
  obtain ⟨hf, hm, h11⟩ := term_back ht
  have hnn : narrowOf t = (nar a u v).marks := by unfold narrowOf; rw [ht]; simp only [hal]
  obtain ⟨k1, k2, k3⟩ := lens_le hf hal
  have hfn := nar_fine (lo := u) (hi := v) hf hal k2 k2 k2
  have htn : termOf (narrowOf t) = some (nar a u v) := by rw [hnn]; exact term_marks hfn (by rw [nar_marks, hm]; exact h11)
  have hp : planOk (tmP a) = true := by unfold planIs at h2; rw [ht] at h2; exact h2
  obtain ⟨c1, c2, c3⟩ := nar_cnt a u v
  have hpn : planOk (tmP (nar a u v)) = true := by rw [tm_ok hfn, c1, c2, c3]; exact (tm_ok hf).1 hp
  have e1 : planOf t = tmP a := by unfold planOf; rw [ht]; exact if_pos hp
  have e2 : planOf (narrowOf t) = tmP (nar a u v) := by unfold planOf; rw [htn]; exact if_pos hpn
  refine ⟨by unfold planIs; rw [htn]; exact hpn, ?_⟩
  rw [e1, e2, alike_iff hp hpn (by show ((tmB a 0 1 2).2 : Int) = ((tmB (nar a u v) 0 1 2).2 : Int); rw [nar_next])]
  exact fun y => (nar_alike hal).symm
/-- What is told of a term's plan. -/
theorem plan_facts {t : List Mk} (h : planIs t = true) : planOk (planOf t) = true ∧ fits (planOf t) = (lensOf t).isSome ∧ ∀ u v, lensOf t = some (u, v) → mostOf (planOf t) 0 1 = (v, true) ∧ leastOf (planOf t) 0 1 = (u, true) := by
  cases ht : termOf t with
  | none => unfold planIs at h; rw [ht] at h; cases h
  | some a =>
    obtain ⟨hf, hm, h11⟩ := term_back ht
    have hp : planOk (tmP a) = true := by unfold planIs at h; rw [ht] at h; exact h
    have e1 : planOf t = tmP a := by unfold planOf; rw [ht]; exact if_pos hp
    have e2 : lensOf t = a.lens := by unfold lensOf; rw [ht]; rfl
    rw [e1, e2]
    exact ⟨hp, tm_fits hf hp, fun u v hl => tm_most hf hp hl⟩
theorem termOk_none {t : List Mk} (h : termOk t = false) : termOf t = none := by
  unfold termOk at h
  cases ht : termOf t with
  | none => rfl
  | some a => rw [ht] at h; cases h
theorem plan_none {t : List Mk} (h : termOk t = false) : lensOf t = none ∧ planIs t = false ∧ backTerm t = [] := by
  have ht := termOk_none h
  unfold lensOf planIs backTerm
  rw [ht]
  exact ⟨rfl, rfl, rfl⟩
/-- Back it is the same. -/
theorem back_law {t : List Mk} (h : termOk t = true) : lensOf (backTerm t) = lensOf t ∧ planIs (backTerm t) = planIs t := by
  obtain ⟨a, ht⟩ := Option.isSome_iff_exists.1 h
  obtain ⟨hf, hm, h11⟩ := term_back ht
  have hb : backTerm t = a.back.marks := by unfold backTerm; rw [ht]
  have htb : termOf (backTerm t) = some a.back := by rw [hb]; exact term_marks (back_fine hf) (by rw [(back_steps a).2.2.2, hm]; exact h11)
  unfold lensOf planIs
  rw [htb, ht]
  exact ⟨back_lens a, tm_back hf⟩
theorem backTerm_len {t : List Mk} : (backTerm t).length ≤ 11 := by
  unfold backTerm
  cases ht : termOf t with
  | none => simp
  | some a =>
    obtain ⟨hf, hm, h11⟩ := term_back ht
    show a.back.marks.length ≤ 11
    rw [(back_steps a).2.2.2, hm]; exact h11
theorem narrow_len {t : List Mk} : (narrowOf t).length ≤ 11 := by
  unfold narrowOf
  cases ht : termOf t with
  | none => simp
  | some a =>
    obtain ⟨hf, hm, h11⟩ := term_back ht
    cases hl : a.lens with
    | none => simp [hl]
    | some uv =>
      obtain ⟨u, v⟩ := uv
      simp only [hl]
      rw [nar_marks, hm]; exact h11
theorem lensOf_le {t : List Mk} {u v : Int} (h : lensOf t = some (u, v)) : u ≤ v ∧ 0 ≤ u ∧ v ≤ 400 := by
  obtain ⟨a, ht, hl⟩ := lensOf_some h
  obtain ⟨hf, hm, h11⟩ := term_back ht
  have h2 := lens_small hf (by rw [← Tm.marks_len, hm]; omega) hl
  exact ⟨h2.2.1, h2.1, h2.2.2⟩
/-- What the steps make is a length that may be. -/
theorem last_law {t : List Mk} {xs : List Int} (h : (lastOf t xs).2 = true) : ∃ u v, lensOf t = some (u, v) ∧ u ≤ (lastOf t xs).1 ∧ (lastOf t xs).1 ≤ v ∧ (planIs t = true → mayBe (planOf t) 0 1 (lastOf t xs).1 = true) := by
  unfold lastOf at h ⊢
  cases ht : termOf t with
  | none => rw [ht] at h; cases h
  | some a =>
    rw [ht] at h
    dsimp only at h ⊢
    by_cases hc : a.steps = xs.length ∧ (lastV a xs 0).2.1 = true
    · rw [if_pos hc]
      obtain ⟨hf, hm, h11⟩ := term_back ht
      obtain ⟨u, v, hl, h1, h2⟩ := last_lens hc.2
      have hls : lensOf t = some (u, v) := by unfold lensOf; rw [ht]; exact hl
      have hb := lensOf_le hls
      refine ⟨u, v, hls, h1, h2, fun hp => ?_⟩
      have hp2 : planOk (tmP a) = true := by unfold planIs at hp; rw [ht] at hp; exact hp
      have e1 : planOf t = tmP a := by unfold planOf; rw [ht]; exact if_pos hp2
      rw [e1]
      exact tm_may hf hp2 hl h1 h2 (by omega)
    · rw [if_neg hc] at h; cases h
/-- A term is a plan with a point more for each semicolon. -/
theorem plan_law {t : List Mk} (h : planIs t = true) : (planOf t).n = (cntK 1 t : Int) + 2 ∧ ((planOf t).bs.length : Int) = 2 * stepsOf t + (cntK 3 t : Int) ∧ mostOf (planOf t) 0 1 = mostOf (planOf (backTerm t)) 0 1 := by
  cases ht : termOf t with
  | none => unfold planIs at h; rw [ht] at h; cases h
  | some a =>
    have hk : termOk t = true := by unfold termOk; rw [ht]; rfl
    obtain ⟨hf, hm, h11⟩ := term_back ht
    have hp : planOk (tmP a) = true := by unfold planIs at h; rw [ht] at h; exact h
    have e1 : planOf t = tmP a := by unfold planOf; rw [ht]; exact if_pos hp
    obtain ⟨c1, c2, c3⟩ := cntK_marks a
    rw [hm] at c1 c2 c3
    refine ⟨?_, ?_, ?_⟩
    · rw [e1, c2]; show ((tmB a 0 1 2).2 : Int) = _; rw [tmB_next]; omega
    · rw [e1, c3, stepsOf_tm ht]; show ((tmB a 0 1 2).1.length : Int) = _; rw [tmB_len]; omega
    · obtain ⟨b1, b2⟩ := back_law hk
      have f1 := plan_facts h
      have f2 := plan_facts (t := backTerm t) (by rw [b2]; exact h)
      cases hl : lensOf t with
      | none =>
        rw [hl] at b1
        have g1 := f1.2.1
        have g2 := f2.2.1
        rw [hl] at g1
        rw [b1] at g2
        unfold mostOf
        rw [g1, g2]; rfl
      | some uv =>
        obtain ⟨u, v⟩ := uv
        rw [hl] at b1
        rw [(f1.2.2 u v hl).1, (f2.2.2 u v b1).1]
end Pp
end Go.Proofs.Ytofodhdpppjaoaa
