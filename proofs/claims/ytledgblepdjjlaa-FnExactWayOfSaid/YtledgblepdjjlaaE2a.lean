/-
  A box for a value of several cells that is made.
-/
import Derived.Test.YtledgblepdjjlaaL11a
import Derived.Test.YtledgblepdjjlaaR1
namespace Go.Proofs.Ytledgblepdjjlaa
set_option linter.unusedVariables false
set_option linter.unusedSimpArgs false
open Go.RowKit Pp


/-- A box for a deal that is the zero value, its last cell yet untouched. -/
structure ZD (w0 W : World) (Y : Nat) (cs : List Value) : Prop where
  lo : w0.heap.size ≤ Y
  b : CB W Y cs
  zf : ∀ i, W.frozen? ⟨Y, i, none⟩ = false
theorem ZD.grown {w0 W W' : World} {Y : Nat} {cs : List Value} {row : Option Nat} (h : ZD w0 W Y cs) (hg : W.grownBy W' row) (hr : some Y ≠ row) : ZD w0 W' Y cs :=
  ⟨h.lo, h.b.grown hg hr, fun i => (hg.frozen_far ⟨Y, i, none⟩ h.b.ex hr).trans (h.zf i)⟩
theorem ZD.below {w0 W W' : World} {Y : Nat} {cs : List Value} (h : ZD w0 W Y cs) (hb : Below W.heap.size W W') : ZD w0 W' Y cs := h.grown (bel_grown hb) (by simp)
theorem zd_new {w0 W : World} {t : TypeId} (cs : List Value) (h : w0.heap.size ≤ W.heap.size) : ZD w0 (W.alloc (.cells cs.toArray t)) W.heap.size cs :=
  ⟨h, cb_new W cs t, fun i => by simp [go_sem]⟩
theorem ZD.put {w0 W : World} {Y : Nat} {cs : List Value} (h : ZD w0 W Y cs) (k : Nat) (v : Value) (hk : k < cs.length) : ZD w0 (W.setCell ⟨Y, k, none⟩ v) Y (cs.set k v) :=
  ⟨h.lo, ⟨by simpa using h.b.ex, fun i u hi => by
    by_cases e : i = k
    · subst e
      rw [List.getElem?_set_self hk] at hi
      cases hi
      exact World.cell?_setCell_same _ _ _ (h.b.c i _ (List.getElem?_eq_getElem hk))
    · rw [List.getElem?_set_ne (fun e' => e e'.symm)] at hi
      exact (World.cell?_setCell_other (h := fun e' => e (by have := congrArg Addr.off e'; dsimp only at this; omega)) ..).trans (h.b.c i u hi)⟩, fun i => by rw [← h.zf i]; simp⟩
end Go.Proofs.Ytledgblepdjjlaa
