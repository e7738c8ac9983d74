/-
  What is implied is kept: the plain law of ImpliesOk. No program.
-/
import Derived.Test.YtjlaljnffmncpaaP18
namespace Go.Proofs.Ytjlaljnffmncpaa
set_option linter.unusedVariables false
set_option linter.unusedSimpArgs false
namespace Pp

def bothP (p q : Pl) : Pl := ⟨p.n, p.bs ++ q.bs⟩
theorem keeps_of {p : Pl} (hp : planOk p = true) {xs : List Int} (hl : xs.length = nn p) (hb : ∀ k, k < nn p → -2000 ≤ xs.getD k 0 ∧ xs.getD k 0 ≤ 2000) (hs : Sol p.bs (fun v => xs.getD v 0)) : keepsOk p xs = true := by
  refine keepsOk_iff.2 ⟨?_, hs⟩
  unfold timesOk
  rw [hp, hl]
  simp only [Bool.true_and, decide_true]
  refine List.all_eq_true.2 fun t ht => ?_
  obtain ⟨i, hi, rfl⟩ := List.getElem_of_mem ht
  have := hb i (by omega)
  rw [List.getD_eq_getElem?_getD, List.getElem?_eq_getElem hi] at this
  exact inB_iff.2 ⟨by simpa using this.1, by simpa using this.2⟩
theorem implies_keeps {p q : Pl} {v : Int} (hv : 0 ≤ v ∧ v ≤ 99) {xs : List Int} (hx : endedOne p v = (xs, true)) (h : implies p q = true) : keepsOk q xs = true := by
  obtain ⟨hp, hq, hn⟩ := implies_ok h
  obtain ⟨_, hl, hs, hb⟩ := endedOne_law hv hx
  have hnn : nn p = nn q := by unfold nn; rw [hn]
  refine keeps_of hq (by rw [hl, hnn]) (fun k hk => by have := hb k (by omega); omega) ((implies_iff hp hq hn).1 h _ hs)
theorem both_alike {p q : Pl} (hp : planOk p = true) (hq : planOk q = true) (hn : p.n = q.n) (hb : planOk (bothP p q) = true) : alike (bothP p q) p = implies p q := by
  rw [Bool.eq_iff_iff, alike_iff hb hp rfl, implies_iff hp hq hn]
  constructor
  · intro h y hy
    exact (sol_append.1 ((h y).2 hy)).2
  · intro h y
    exact ⟨fun hy => (sol_append.1 hy).1, fun hy => sol_append.2 ⟨hy, h y hy⟩⟩
end Pp
end Go.Proofs.Ytjlaljnffmncpaa
