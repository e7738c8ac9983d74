/-
  A row of one's own as a row of cells, and back.
-/
import Derived.Test.YtdijfkpccbkdfaaL1b
import Derived.Lib.LazyBuf
import Derived.Lib.SliceRun
namespace Go.Proofs.Ytdijfkpccbkdfaa
set_option linter.unusedVariables false
set_option linter.unusedSimpArgs false
open Go.RowKit Pp

theorem own_row {w : World} {base g n cap : Nat} {e : TypeId} {size : Nat} {xs : List Value} (h : w.ownsRow base e size (.slice (some ⟨g, 0, none⟩) n cap) n xs) :
    ∃ f : Nat → Value, w.rowIs g e (cap * size) f ∧ (∀ j, j < n * size → xs[j]? = some (f j)) ∧ base ≤ g ∧ n ≤ cap ∧ cap ≤ maxLen := by
  rcases h.2 with ⟨hv, _⟩ | ⟨g', cap', cur, hv, hb, hh, h1, h2, h3, h4⟩
  · cases hv
  · injection hv with e1 e2 e3
    injection e1 with e1
    injection e1 with e1 _ _
    subst e1; subst e3
    refine ⟨fun j => cur[j]?.getD default, ⟨cur, hh, h3, fun i hi => ?_⟩, fun j hj => ?_, hb, h1, h2⟩
    · have hlt : i < cur.size := by omega
      simp [hlt]
    · have hn : n * size ≤ cap * size := Nat.mul_le_mul_right _ h1
      rw [← h4, List.getElem?_take, if_pos hj, Array.getElem?_toList]
      have hlt : j < cur.size := by omega
      simp [hlt]
theorem row_own {w : World} {base g n cap : Nat} {e : TypeId} {size : Nat} {xs : List Value} {f : Nat → Value} (h : w.rowIs g e (cap * size) f) (hx : ∀ j, j < n * size → xs[j]? = some (f j)) (hl : xs.length = n * size) (hb : base ≤ g) (h1 : n ≤ cap) (h2 : cap ≤ maxLen) :
    w.ownsRow base e size (.slice (some ⟨g, 0, none⟩) n cap) n xs := by
  obtain ⟨cur, hh, hs, hc⟩ := h
  have hn : n * size ≤ cap * size := Nat.mul_le_mul_right _ h1
  refine ⟨hl, .inr ⟨g, cap, cur, rfl, hb, hh, h1, h2, hs, ?_⟩⟩
  apply List.ext_getElem?
  intro j
  rw [List.getElem?_take]
  by_cases hj : j < n * size
  · rw [if_pos hj, Array.getElem?_toList, hc j (by omega), hx j hj]
  · rw [if_neg hj, List.getElem?_eq_none (by omega)]

theorem grown_cells {w : World} {g : Nat} : ∀ (vs : List Value) (o : Nat) (w' : World), w.grownBy w' (some g) → w.grownBy (w'.setCells g o vs) (some g)
  | [], _, _, h => h
  | v :: r, o, w', h => grown_cells r (o + 1) _ (⟨h.os, h.tape, h.output, by simpa using h.size, fun k hk hne => by
      rw [← h.block k hk hne]; exact Below.heap_setCell w' ⟨g, o, none⟩ v k (fun e => hne (by rw [e]))⟩)
end Go.Proofs.Ytdijfkpccbkdfaa
