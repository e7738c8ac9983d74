/-
  What is strong is weak. No program.
-/
import Derived.Test.YtdijfkpccbkdfaaP16
import Derived.Test.YtdijfkpccbkdfaaL33
import Derived.Test.YtdijfkpccbkdfaaL23
namespace Go.Proofs.Ytdijfkpccbkdfaa
set_option linter.unusedVariables false
set_option linter.unusedSimpArgs false
open Pp

theorem strong_weak {p : Pl} {ps : List Pr} (h : strongOk p ps = true) : weakR p ps = true := by
  unfold strongOk at h
  rw [Bool.and_eq_true] at h
  obtain ⟨hd, hs⟩ := h
  have hdl := dealOk_iff.1 hd
  have hok : ∀ (i : Nat) (x : Pr), ps[i]? = some x → 0 ≤ x.l ∧ x.l ≤ x.h ∧ x.h ≤ 12 := fun i x hx => (hdl.2.2.2 i x (List.getElem?_eq_some_iff.1 hx).1 hx).1.2.2.2
  unfold weakR
  rw [hd, Bool.true_and]
  unfold weakF
  refine List.all_eq_true.2 fun ls hls => ?_
  obtain ⟨h1, h2⟩ := come_lasts hok ps.length [] ls (by simp) (fun i x l hi => by simp at hi) hls
  have hLO : LastsOk p ps ls := ⟨hdl, h1, h2⟩
  have e : planForR p ps ls = (planFor p ps ls, true) := by unfold planForR; rw [lastsOk_iff.2 hLO]; rfl
  rw [e]
  exact strong_fits hLO hs
theorem weak_strong {p : Pl} {ps : List Pr} (he : ∀ x ∈ ps, x.l = x.h) (h : weakR p ps = true) : strongOk p ps = true := by
  unfold weakR at h
  rw [Bool.and_eq_true] at h
  obtain ⟨hd, hw⟩ := h
  have hdl := dealOk_iff.1 hd
  have hLO := lows_ok hdl
  have hm := come_mem (ps := ps) ps.length [] (ps.map Pr.l) (by simp) hLO.2.1 (List.nil_prefix) hLO.2.2
  unfold weakF at hw
  have h1 := List.all_eq_true.1 hw _ hm
  have e : planForR p ps (ps.map Pr.l) = (planFor p ps (ps.map Pr.l), true) := by unfold planForR; rw [lastsOk_iff.2 hLO]; rfl
  rw [e] at h1
  unfold strongOk
  rw [hd, Bool.true_and]
  exact fits_strong hdl he h1
theorem strong_same {p : Pl} {ps : List Pr} (he : ∀ x ∈ ps, x.l = x.h) : strongOk p ps = weakR p ps := by
  rw [Bool.eq_iff_iff]
  exact ⟨strong_weak, weak_strong he⟩
theorem strongOk_less {p : Pl} {qs : List Pr} {x : Pr} (hlt : x.l < x.h) (hd' : dealOk p (qs ++ [⟨x.f, x.t, x.l, x.h - 1⟩]) = true) (h : strongOk p (qs ++ [x]) = true) : strongOk p (qs ++ [⟨x.f, x.t, x.l, x.h - 1⟩]) = true := by
  unfold strongOk at *
  rw [Bool.and_eq_true] at *
  exact ⟨hd', strong_less (dealOk_iff.1 h.1) (dealOk_iff.1 hd') (by omega) h.2⟩
end Go.Proofs.Ytdijfkpccbkdfaa
