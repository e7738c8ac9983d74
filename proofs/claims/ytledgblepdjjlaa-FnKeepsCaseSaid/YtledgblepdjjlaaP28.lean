/-
  The laws of ways, plain: a way has one bound of each choice; times that keep a case.
-/
import Derived.Test.YtledgblepdjjlaaP24
import Derived.Test.YtledgblepdjjlaaP18
namespace Go.Proofs.Ytledgblepdjjlaa.Pp

def keepsCase (p : Pl) (cs : List (List Bd)) (xs : List Int) : Bool := caseOk p cs && keepsOk p xs && cs.all fun l => l.any (keptB xs)
theorem picked_has : ∀ {cs : List (List Bd)} {ks : List Int} {i : Nat} {l : List Bd} {k : Int}, cs[i]? = some l → ks[i]? = some k → pickAt l k ∈ picked cs ks
  | [], ks, i, l, k, h, _ => by simp at h
  | l0 :: cs, [], i, l, k, _, h => by simp at h
  | l0 :: cs, k0 :: ks, 0, l, k, h1, h2 => by simp at h1 h2; subst h1; subst h2; simp [picked]
  | l0 :: cs, k0 :: ks, i + 1, l, k, h1, h2 => by simp only [picked]; exact List.mem_cons_of_mem _ (picked_has (by simpa using h1) (by simpa using h2))
theorem wayOf_yes {p : Pl} {cs : List (List Bd)} {ks : List Int} {q : Pl} (h : wayOf p cs ks = (q, true)) : caseOk p cs = true ∧ picksOk cs ks = true ∧ q = wayP p cs ks := by
  unfold wayOf at h
  split at h
  · rename_i hb
    rw [Bool.and_eq_true] at hb
    exact ⟨hb.1, hb.2, (Prod.mk.inj h).1.symm⟩
  · exact absurd (Prod.mk.inj h).2 (by simp)
theorem wayOf_no {p : Pl} {cs : List (List Bd)} {ks : List Int} {q : Pl} (h : wayOf p cs ks = (q, false)) : q = ⟨0, []⟩ := by
  unfold wayOf at h
  split at h
  · exact absurd (Prod.mk.inj h).2 (by simp)
  · exact (Prod.mk.inj h).1.symm
theorem keeps_front {n : Int} {a b : List Bd} {ys : List Int} (hp : planOk ⟨n, a⟩ = true) (h : keepsOk ⟨n, a ++ b⟩ ys = true) : keepsOk ⟨n, a⟩ ys = true := by
  obtain ⟨h1, h2⟩ := keepsOk_iff.1 h
  refine keepsOk_iff.2 ⟨?_, (sol_append.1 h2).1⟩
  unfold timesOk at h1 ⊢
  simp only [Bool.and_eq_true] at h1 ⊢
  exact ⟨⟨hp, h1.1.2⟩, h1.2⟩
theorem way_keeps {p : Pl} {cs : List (List Bd)} {ks ys : List Int} (hc : caseOk p cs = true) (hk : picksOk cs ks = true) (h : keepsOk (wayP p cs ks) ys = true) : keepsCase p cs ys = true := by
  obtain ⟨hl, hv⟩ := picksOk_iff.1 hk
  have hp := (caseOk_iff.1 hc).1
  unfold keepsCase
  rw [hc, keeps_front hp h]
  simp only [Bool.true_and, List.all_eq_true]
  intro l hlm
  obtain ⟨i, hi, e⟩ := List.getElem_of_mem hlm
  have h1 : cs[i]? = some l := by rw [List.getElem?_eq_getElem hi, e]
  have h2 := List.getElem?_eq_getElem (show i < ks.length by omega)
  have h3 := hv i l _ h1 h2
  have h4 := picked_has h1 h2
  have h5 := (keepsOk_iff.1 h).2 _ (List.mem_append.2 (.inr h4))
  refine List.any_eq_true.2 ⟨_, List.mem_of_getElem? (pickAt_get h3), ?_⟩
  unfold keptB
  exact decide_eq_true h5
theorem way_law {n : Int} {bs : List Bd} {cs : List (List Bd)} {ks : List Int} {q : Pl} (h : wayOf ⟨n, bs⟩ cs ks = (q, true)) :
    planOk q = true ∧ q.bs.length = bs.length + cs.length ∧ implies q ⟨n, bs⟩ = true ∧ (bs.length ≤ 12 ∧ cs.length ≤ 4) ∧ ∀ ys, timesFor q = (ys, true) → keepsCase ⟨n, bs⟩ cs ys = true := by
  obtain ⟨hc, hk, rfl⟩ := wayOf_yes h
  obtain ⟨hl, hv⟩ := picksOk_iff.1 hk
  obtain ⟨h1, h2, h3, _⟩ := caseOk_iff.1 hc
  have hp := way_plan hc (by omega) hv
  refine ⟨hp, ?_, (implies_iff hp h1 rfl).2 fun y hy => (sol_append.1 hy).1, ⟨h2, h3⟩, fun ys hy => ?_⟩
  · have := picked_length cs ks (by omega)
    simp only [wayP, List.length_append]; omega
  · obtain ⟨_, a2, a3, a4⟩ := timesFor_law hy
    refine way_keeps hc hk (keepsOk_iff.2 ⟨?_, a3⟩)
    unfold timesOk
    simp only [Bool.and_eq_true, decide_eq_true_eq]
    refine ⟨⟨hp, a2⟩, List.all_eq_true.2 fun x hx => ?_⟩
    obtain ⟨k, hkx, e⟩ := List.getElem_of_mem hx
    have := a4 k (by omega)
    rw [List.getD_eq_getElem?_getD, List.getElem?_eq_getElem hkx] at this
    simp only [Option.getD_some] at this
    rw [e] at this
    exact inB_iff.2 (by omega)
end Go.Proofs.Ytledgblepdjjlaa.Pp
