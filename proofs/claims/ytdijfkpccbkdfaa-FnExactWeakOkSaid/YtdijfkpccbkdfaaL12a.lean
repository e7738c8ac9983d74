/-
  A box for a plan that is the zero value.
-/
import Derived.Test.YtdijfkpccbkdfaaL11a
import Derived.Test.YtdijfkpccbkdfaaI0
namespace Go.Proofs.Ytdijfkpccbkdfaa
set_option linter.unusedVariables false
set_option linter.unusedSimpArgs false
open Go.RowKit Pp

/-- A box for a plan that is the zero value. -/
structure ZB (w0 W : World) (Y : Nat) : Prop where
  lo : w0.heap.size ≤ Y
  ex : Y < W.heap.size
  z0 : W.cell? ⟨Y, 0, none⟩ = some (.int .i64 0)
  z1 : W.cell? ⟨Y, 1, none⟩ = some (.slice none 0 0)
  zf : ∀ i, W.frozen? ⟨Y, i, none⟩ = false
theorem ZB.grown {w0 W W' : World} {Y : Nat} {row : Option Nat} (h : ZB w0 W Y) (hg : W.grownBy W' row) (hr : ∀ k, row = some k → k ≠ Y) : ZB w0 W' Y := by
  have hne : some Y ≠ row := fun e => hr _ e.symm rfl
  exact ⟨h.lo, Nat.lt_of_lt_of_le h.ex hg.size, (hg.cell_far ⟨Y, 0, none⟩ h.ex hne).trans h.z0, (hg.cell_far ⟨Y, 1, none⟩ h.ex hne).trans h.z1, fun i => (hg.frozen_far ⟨Y, i, none⟩ h.ex hne).trans (h.zf i)⟩
theorem bel_grown {W W' : World} (hb : Below W.heap.size W W') : W.grownBy W' none := ⟨hb.os, hb.tape, hb.output, hb.size, fun k hk _ => hb.block k hk⟩
theorem ZB.below {w0 W W' : World} {Y : Nat} (h : ZB w0 W Y) (hb : Below W.heap.size W W') : ZB w0 W' Y := h.grown (bel_grown hb) (fun _ e => by cases e)
theorem zb_new {w0 W : World} {t : TypeId} (h : w0.heap.size ≤ W.heap.size) : ZB w0 (W.alloc (.cells #[.int .i64 0, .slice none 0 0] t)) W.heap.size :=
  ⟨h, by simp, by simp [go_sem], by simp [go_sem], fun i => by simp [go_sem]⟩
/-- A plan is put into it, and handed back. -/
theorem ZB.fin {w0 W : World} {Y : Nat} {n : Int} {A : Option Addr} {c : Nat} {bs : List Bd} (h : ZB w0 W Y) (hW : Below w0.heap.size w0 W) (own : OwnB w0.heap.size W (.slice A bs.length c) bs) (ne : (Value.slice A bs.length c).ownBlock ≠ some Y) :
    ((W.setCell ⟨Y, 0, none⟩ (.int .i64 n)).setCell ⟨Y, 1, none⟩ (.slice A bs.length c)).cell? ⟨Y, 0, none⟩ = some (.int .i64 n) ∧ ((W.setCell ⟨Y, 0, none⟩ (.int .i64 n)).setCell ⟨Y, 1, none⟩ (.slice A bs.length c)).cell? ⟨Y, 1, none⟩ = some (.slice A bs.length c) ∧
    OwnB w0.heap.size ((W.setCell ⟨Y, 0, none⟩ (.int .i64 n)).setCell ⟨Y, 1, none⟩ (.slice A bs.length c)) (.slice A bs.length c) bs ∧ Below w0.heap.size w0 ((W.setCell ⟨Y, 0, none⟩ (.int .i64 n)).setCell ⟨Y, 1, none⟩ (.slice A bs.length c)) := by
  obtain ⟨r0, r1⟩ := two_cells (a := .int .i64 n) (b := .slice A bs.length c) h.z0 h.z1
  exact ⟨r0, r1, own_set (own_set own ne _) ne _, (hW.setCell h.lo _).setCell h.lo _⟩
end Go.Proofs.Ytdijfkpccbkdfaa
