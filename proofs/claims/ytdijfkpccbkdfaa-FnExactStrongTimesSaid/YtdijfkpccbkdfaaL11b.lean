/-
  A number put into a row of one's own.
-/
import Derived.Test.YtdijfkpccbkdfaaL11a
namespace Go.Proofs.Ytdijfkpccbkdfaa
set_option linter.unusedVariables false
set_option linter.unusedSimpArgs false
open Go.RowKit Pp

theorem own_setI {base : Nat} {w : World} {g c k : Nat} {xs : List Int} (v : Int) (h : OwnI base w (.slice (some ⟨g, 0, none⟩) xs.length c) xs) (hk : k < xs.length) :
    OwnI base (w.setCell ⟨g, k, none⟩ (.int .i64 v)) (.slice (some ⟨g, 0, none⟩) (xs.set k v).length c) (xs.set k v) ∧ w.cell? ⟨g, k, none⟩ = some (.int .i64 (xs.getD k 0)) ∧ w.frozen? ⟨g, k, none⟩ = false := by
  obtain ⟨f, hf, hx, hb, hnc, hcm⟩ := own_row h
  have hk1 : k < c * 1 := by omega
  have hl : (xs.set k v).length = xs.length := List.length_set
  refine ⟨?_, ?_, hf.frozen k⟩
  · have h2 := row_own (n := xs.length) (base := base) (size := 1) (xs := (xs.set k v).map (Value.int .i64)) (hf.set k (.int .i64 v)) (fun j hj => ?_) (by simp) hb hnc hcm
    · unfold OwnI; rw [hl]; exact h2
    · rw [List.getElem?_map, List.getElem?_set]
      by_cases e : k = j
      · subst e; rw [if_pos rfl, if_pos hk, if_pos rfl]; rfl
      · rw [if_neg e, if_neg (fun e' => e e'.symm), ← List.getElem?_map]; exact hx j hj
  · rw [hf.cell hk1]
    have := hx k (by omega)
    rw [List.getElem?_map, List.getElem?_eq_getElem hk] at this
    rw [List.getD_eq_getElem?_getD, List.getElem?_eq_getElem hk]
    simp at this
    rw [← this]; rfl
end Go.Proofs.Ytdijfkpccbkdfaa
