/-
  Plain laws: a difference that is set.
-/
import Derived.Test.YtdijfkpccbkdfaaP2
namespace Go.Proofs.Ytdijfkpccbkdfaa
set_option linter.unusedVariables false
set_option linter.unusedSimpArgs false
namespace Pp

theorem planOk_split (n : Int) (l : List Bd) : planOk ⟨n, l⟩ = (inB n 1 6 && decide (l.length ≤ 16) && l.all (bdOk n)) := rfl
theorem planOk_front {n : Int} {a b : List Bd} (h : planOk ⟨n, a ++ b⟩ = true) : planOk ⟨n, a⟩ = true := by
  rw [planOk_split] at h ⊢
  simp only [Bool.and_eq_true, decide_eq_true_eq, List.length_append, List.all_append] at h ⊢
  exact ⟨⟨h.1.1, by omega⟩, h.2.1⟩

section
variable {n : Int} {bs : List Bd} {f t y : Int}
theorem set_ranges (h : planOk ⟨n, bs ++ [⟨f, t, y⟩, ⟨t, f, -y⟩]⟩ = true) : (0 ≤ f ∧ f < n) ∧ (0 ≤ t ∧ t < n) ∧ -99 ≤ y ∧ y ≤ 99 := by
  obtain ⟨_, _, hb⟩ := planOk_iff.1 h
  have := bdOk_iff.1 (hb ⟨f, t, y⟩ (by simp))
  exact ⟨this.1, this.2.1, this.2.2⟩
theorem set_sol (x : Nat → Int) : Sol (bs ++ [⟨f, t, y⟩, ⟨t, f, -y⟩]) x ↔ Sol bs x ∧ x t.toNat - x f.toNat = y := by
  rw [sol_append]
  refine and_congr_right fun _ => ?_
  unfold Sol
  simp only [List.mem_cons, List.not_mem_nil, or_false, forall_eq_or_imp, forall_eq]
  omega
theorem set_fits (h : planOk ⟨n, bs ++ [⟨f, t, y⟩, ⟨t, f, -y⟩]⟩ = true) : fits ⟨n, bs ++ [⟨f, t, y⟩, ⟨t, f, -y⟩]⟩ = mayBe ⟨n, bs⟩ f t y := by
  obtain ⟨hf, ht, hy1, hy2⟩ := set_ranges h
  have hp := planOk_front h
  have hn := nn_ok hp
  dsimp only at hn
  have key : (fits ⟨n, bs ++ [⟨f, t, y⟩, ⟨t, f, -y⟩]⟩ = true) ↔ (mayBe ⟨n, bs⟩ f t y = true) := by
    rw [fits_iff h]
    unfold mayBe mayT
    simp only [Bool.and_eq_true, Bool.or_eq_true, decide_eq_true_eq, inB_iff]
    constructor
    · rintro ⟨x, hx⟩
      obtain ⟨hs, he⟩ := (set_sol x).1 hx
      have hfit : fits ⟨n, bs⟩ = true := (fits_iff hp).2 ⟨x, hs⟩
      have F := fit_of hfit
      have a : clT ⟨n, bs⟩ f.toNat t.toNat < Far → x t.toNat - x f.toNat ≤ _ := fun hlt => F.le (by omega) (by omega) hs hlt
      have b : clT ⟨n, bs⟩ t.toNat f.toNat < Far → x f.toNat - x t.toNat ≤ _ := fun hlt => F.le (by omega) (by omega) hs hlt
      have a' := clT_le (p := ⟨n, bs⟩) f.toNat t.toNat
      have b' := clT_le (p := ⟨n, bs⟩) t.toNat f.toNat
      exact ⟨⟨⟨⟨hfit, by omega⟩, by omega⟩, by omega⟩, by omega, by omega⟩
    · rintro ⟨⟨⟨⟨hfit, _⟩, _⟩, _⟩, h1, h2⟩
      have F := fit_of hfit
      obtain ⟨x, hs, he⟩ := F.between (i := f.toNat) (j := t.toNat) (by omega) (by omega) y (fun e => by
        rw [← e] at h1 h2
        rw [F.diag _ (by omega)] at h1 h2
        unfold Far at h1 h2; omega) (fun hlt => by omega) (fun hlt => by omega)
      exact ⟨x, (set_sol x).2 ⟨hs, he⟩⟩
  cases h1 : fits ⟨n, bs ++ [⟨f, t, y⟩, ⟨t, f, -y⟩]⟩ <;> cases h2 : mayBe ⟨n, bs⟩ f t y <;> simp [h1, h2] at key ⊢
theorem set_most (h : fits ⟨n, bs ++ [⟨f, t, y⟩, ⟨t, f, -y⟩]⟩ = true) : mostOf ⟨n, bs ++ [⟨f, t, y⟩, ⟨t, f, -y⟩]⟩ f t = (y, true) ∧ leastOf ⟨n, bs ++ [⟨f, t, y⟩, ⟨t, f, -y⟩]⟩ f t = (y, true) := by
  have F := fit_of h
  obtain ⟨hf, ht, hy1, hy2⟩ := set_ranges F.ok
  have hn := nn_ok F.ok
  dsimp only at hn
  obtain ⟨x, hx⟩ := (fits_iff F.ok).1 h
  obtain ⟨_, he⟩ := (set_sol x).1 hx
  obtain ⟨a1, a2⟩ := F.tight (i := f.toNat) (j := t.toNat) (by omega) (by omega) y (fun z hz => by have := ((set_sol z).1 hz).2; omega)
  obtain ⟨b1, b2⟩ := F.tight (i := t.toNat) (j := f.toNat) (by omega) (by omega) (-y) (fun z hz => by have := ((set_sol z).1 hz).2; omega)
  have a3 := F.le (i := f.toNat) (j := t.toNat) (by omega) (by omega) hx a1
  have b3 := F.le (i := t.toNat) (j := f.toNat) (by omega) (by omega) hx b1
  have e1 : clT ⟨n, bs ++ [⟨f, t, y⟩, ⟨t, f, -y⟩]⟩ f.toNat t.toNat = y := by omega
  have e2 : clT ⟨n, bs ++ [⟨f, t, y⟩, ⟨t, f, -y⟩]⟩ t.toNat f.toNat = -y := by omega
  have m1 := mostOf_is (p := ⟨n, bs ++ [⟨f, t, y⟩, ⟨t, f, -y⟩]⟩) h hf ht a1
  have m2 := mostOf_is (p := ⟨n, bs ++ [⟨f, t, y⟩, ⟨t, f, -y⟩]⟩) h ht hf b1
  rw [e1] at m1
  rw [e2] at m2
  refine ⟨m1, ?_⟩
  unfold leastOf
  rw [m2]
  simp
end
end Pp
end Go.Proofs.Ytdijfkpccbkdfaa
