/-
  Times for a strong deal keep its plan, whatever comes. No program.
-/
import Derived.Test.YtdijfkpccbkdfaaP18
import Derived.Test.YtdijfkpccbkdfaaP16
import Derived.Test.YtdijfkpccbkdfaaL23
import Derived.Test.YtdijfkpccbkdfaaL27
namespace Go.Proofs.Ytdijfkpccbkdfaa
set_option linter.unusedVariables false
set_option linter.unusedSimpArgs false
open Pp

theorem set_getD (ys : List Int) (t : Nat) (v : Int) (i : Nat) (ht : t < ys.length) : (ys.set t v).getD i 0 = if i = t then v else ys.getD i 0 := by
  rw [List.getD_eq_getElem?_getD, List.getD_eq_getElem?_getD]
  by_cases e : i = t
  · subst e; rw [if_pos rfl, List.getElem?_set_self ht]; rfl
  · rw [if_neg e, List.getElem?_set_ne (Ne.symm e)]
theorem setT_z {n : Int} {ps : List Pr} (h2 : ps.length ≤ 2) (h : PrsOk n ps ps.length) {ls ys : List Int} (hl : ls.length = ps.length) (hy : (ys.length : Int) = n) (v : Nat) :
    (setT ps ls ys).getD v 0 = zOf ps ls (fun u => ys.getD u 0) v := by
  match ps, ls, h2 with
  | [], [], _ => simp [setT, zOf]
  | [x], [l], _ =>
    obtain ⟨⟨⟨f0, f1⟩, ⟨t0, t1⟩, _⟩, _⟩ := h 0 x (by simp) rfl
    simp only [setT, zOf]
    rw [set_getD _ _ _ _ (by omega)]
  | [x, y], [l, k], _ =>
    obtain ⟨⟨⟨f0, f1⟩, ⟨t0, t1⟩, hne, _⟩, ax⟩ := h 0 x (by simp) rfl
    obtain ⟨⟨⟨g0, g1⟩, ⟨s0, s1⟩, hne', _⟩, ay⟩ := h 1 y (by simp) rfl
    have a1 := ax 1 y (by simp) rfl (by omega)
    have a2 := ay 0 x (by simp) rfl (by omega)
    simp only [setT, zOf]
    rw [set_getD _ _ _ _ (by simp; omega), set_getD _ _ _ _ (by omega), set_getD _ _ _ _ (by omega)]
    by_cases e1 : v = y.t.toNat
    · rw [if_pos e1, if_neg (by omega), if_neg (by omega), if_pos e1]
    · rw [if_neg e1, if_neg e1]
/-- What is told of times for a strong deal. -/
theorem strongTimes_law {p : Pl} {ps : List Pr} {ls zs : List Int} (h : strongTimes p ps ls = (zs, true)) :
    strongOk p ps = true ∧ LastsOk p ps ls ∧ zs.length = nn p ∧ keepsOk p zs = true ∧ keepsOk (planFor p ps ls) zs = true ∧
    ∃ ss, strongTimes p ps (ps.map Pr.l) = (ss, true) ∧ ss.length = zs.length ∧ ∀ k, k < zs.length → (∀ x ∈ ps, (k : Int) ≠ x.t) → ss.getD k 0 = zs.getD k 0 := by
  unfold strongTimes at h
  split at h
  · rename_i hc
    obtain ⟨h1, h2, h3⟩ := hc
    obtain ⟨rfl, _⟩ := Prod.mk.inj h
    have hLO := lastsOk_iff.1 h2
    obtain ⟨hd, hlen, hl⟩ := hLO
    obtain ⟨ys, hys⟩ : ∃ ys, (timesFor (strongPlan p ps).1).1 = ys := ⟨_, rfl⟩
    have htf : timesFor (strongPlan p ps).1 = (ys, true) := Prod.ext hys h3
    have hsp : strongPlan p ps = (toldP (own p ps), planOk (own p ps)) := by unfold strongPlan; rw [dealOk_iff.2 hd, if_pos rfl]
    have hpo : planOk (own p ps) = true := by rw [hsp] at h1; exact h1
    have hq : (strongPlan p ps).1 = own p ps := by rw [hsp]; show toldP (own p ps) = own p ps; unfold toldP; rw [hpo]; rfl
    rw [hq] at htf
    obtain ⟨hf, hyl, hS, hsm⟩ := timesFor_law htf
    have hnn : nn (own p ps) = nn p := rfl
    rw [hnn] at hyl hsm
    have hnp := nn_ok hd.1
    have hstrong : strong p ps = true := by
      unfold fits at hf
      rw [Bool.and_eq_true] at hf
      exact hf.2
    have hylI : (ys.length : Int) = p.n := by rw [hyl]; exact hnp.2.2
    have hz := fun v => setT_z hd.2.2.1 hd.2.2.2 hlen hylI v
    have hSol := own_sol_all ⟨hd, hlen, hl⟩ hS
    have hSol2 : Sol (planFor p ps ls).bs (fun v => (setT ps ls ys).getD v 0) := by
      have e : (fun v => (setT ps ls ys).getD v 0) = zOf ps ls (fun v => ys.getD v 0) := funext hz
      rw [e]; exact hSol
    have hlz : (setT ps ls ys).length = nn p := by rw [setT_length]; exact hyl
    have hpk : ∀ (i : Nat) (x : Pr), ps[i]? = some x → PrOk p.n x := fun i x hx => (hd.2.2.2 i x (List.getElem?_eq_some_iff.1 hx).1 hx).1
    have hrange : ∀ v, v < nn p → -700 ≤ (setT ps ls ys).getD v 0 ∧ (setT ps ls ys).getD v 0 ≤ 700 := by
      intro v hv
      rw [hz v]
      by_cases hx : ∀ x ∈ ps, v ≠ x.t.toNat
      · rw [zOf_else ps ls _ v hx]; have := hsm v hv; omega
      · obtain ⟨x, hx⟩ := Classical.not_forall.1 hx
        obtain ⟨hm, hx⟩ := Classical.not_imp.1 hx
        have hx : v = x.t.toNat := Classical.not_not.1 hx
        obtain ⟨i, hi, rfl⟩ := List.getElem_of_mem hm
        have hg := List.getElem?_eq_getElem hi
        have hgl := List.getElem?_eq_getElem (show i < ls.length by omega)
        have hsmall := lasts_small ⟨hd, hlen, hl⟩ i _ hgl
        obtain ⟨⟨f0, f1⟩, ⟨t0, t1⟩, _⟩ := hpk i _ hg
        have hsf := hsm ps[i].f.toNat (by omega)
        rw [hx, zOf_at ps ls _ i _ _ hg hgl (fun k z hzk hk e => by
          obtain ⟨_, ⟨t0', _⟩, _⟩ := hpk k z hzk
          have := ((hd.2.2.2 i _ hi hg).2 k z (List.getElem?_eq_some_iff.1 hzk).1 hzk (Ne.symm hk)).2
          omega)]
        omega
    have htimes : ∀ q : Pl, planOk q = true → nn q = nn p → timesOk q (setT ps ls ys) = true := by
      intro q hqo hqn
      unfold timesOk
      rw [hqo, hqn, hlz]
      simp only [Bool.true_and, decide_true]
      refine List.all_eq_true.2 fun t ht => ?_
      obtain ⟨i, hi, rfl⟩ := List.getElem_of_mem ht
      have := hrange i (by omega)
      rw [List.getD_eq_getElem?_getD, List.getElem?_eq_getElem hi] at this
      exact inB_iff.2 ⟨by simp at this; omega, by simp at this; omega⟩
    refine ⟨by unfold strongOk; rw [dealOk_iff.2 hd, hstrong]; rfl, ⟨hd, hlen, hl⟩, by rw [hys]; exact hlz, ?_, ?_, setT ps (ps.map Pr.l) ys, ?_, ?_, ?_⟩
    · rw [hys]
      exact keepsOk_iff.2 ⟨htimes p hd.1 rfl, (sol_append.1 hSol2).1⟩
    · rw [hys]
      exact keepsOk_iff.2 ⟨htimes _ (planFor_ok ⟨hd, hlen, hl⟩) rfl, hSol2⟩
    · unfold strongTimes
      rw [if_pos ⟨h1, lastsOk_iff.2 (lows_ok hd), h3⟩, hys]
    · rw [hys, setT_length, setT_length]
    · intro k hk hne
      rw [hys, hz k, setT_z hd.2.2.1 hd.2.2.2 (by simp) hylI k]
      have hk2 : ∀ x ∈ ps, k ≠ x.t.toNat := fun x hx e => by
        obtain ⟨i, hi, rfl⟩ := List.getElem_of_mem hx
        obtain ⟨_, ⟨t0, _⟩, _⟩ := hpk i _ (List.getElem?_eq_getElem hi)
        exact hne _ hx (by omega)
      rw [zOf_else ps ls _ k hk2, zOf_else ps _ _ k hk2]
  · cases (Prod.mk.inj h).2
theorem strongTimes_no {p : Pl} {ps : List Pr} {ls zs : List Int} (h : strongTimes p ps ls = (zs, false)) : zs = [] := by
  unfold strongTimes at h
  split at h
  · cases (Prod.mk.inj h).2
  · exact (Prod.mk.inj h).1.symm
end Go.Proofs.Ytdijfkpccbkdfaa
