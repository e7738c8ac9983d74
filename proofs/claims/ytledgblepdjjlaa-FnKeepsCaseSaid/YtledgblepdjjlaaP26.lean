/-
  The laws of ways, plain: the first way.
-/
import Derived.Test.YtledgblepdjjlaaP24
namespace Go.Proofs.Ytledgblepdjjlaa.Pp

theorem first_law {p : Pl} {cs : List (List Bd)} {ks : List Int} (h : firstW p cs = (ks, true)) :
    wayOf p cs ks = (wayP p cs ks, true) ∧ fits (wayP p cs ks) = true ∧ 0 < countW p cs ∧ ks.length = cs.length ∧ ∀ k : Nat, k < ks.length → ks.getD k 0 ∈ optionsOf p cs (k : Int) := by
  cases hw : ways p cs with
  | nil => unfold firstW at h; rw [hw] at h; cases h
  | cons x xs =>
    have e : ks = x := by unfold firstW at h; rw [hw] at h; exact (Prod.mk.inj h).1.symm
    subst e
    have hx : ks ∈ ways p cs := by rw [hw]; exact List.mem_cons_self ..
    obtain ⟨hc, hk, hf⟩ := ways_mem hx
    have hl := (picksOk_iff.1 hk).1
    refine ⟨by unfold wayOf; rw [hc, hk]; rfl, hf, ?_, hl, fun k hkl => ?_⟩
    · unfold countW; rw [if_pos hc, hw]; simp only [List.length_cons]; omega
    · unfold optionsOf
      have hi : inB (k : Int) 0 ((cs.length : Int) - 1) = true := inB_iff.2 ⟨by omega, by omega⟩
      rw [hc, hi, Bool.and_self, if_pos rfl, List.mem_mergeSort, Int.toNat_natCast]
      exact optL_mem.2 ⟨ks, hx, rfl⟩
theorem first_none {p : Pl} {cs : List (List Bd)} {ks : List Int} (h : firstW p cs = (ks, false)) : ks = [] ∧ countW p cs ≤ 0 := by
  obtain ⟨h1, h2⟩ := headW_no h
  refine ⟨h2, ?_⟩
  unfold countW
  rw [h1]
  split <;> simp
end Go.Proofs.Ytledgblepdjjlaa.Pp
