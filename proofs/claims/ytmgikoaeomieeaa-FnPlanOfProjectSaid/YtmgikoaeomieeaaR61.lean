/-
  A plan that is being made in a box of its own.
-/
import Derived.Test.YtmgikoaeomieeaaL11a
namespace Go.Proofs.Ytmgikoaeomieeaa
set_option linter.unusedVariables false
set_option linter.unusedSimpArgs false
open Go.RowKit Pp

/-- A plan that is being made in a box of its own, behind a world W. -/
structure PQ (W wr : World) (X : Nat) (n : Int) (A : Option Addr) (c : Nat) (bs : List Bd) : Prop where
  bel : Below W.heap.size W wr
  lo : W.heap.size ≤ X
  ex : X < wr.heap.size
  c0 : wr.cell? ⟨X, 0, none⟩ = some (.int .i64 n)
  c1 : wr.cell? ⟨X, 1, none⟩ = some (.slice A bs.length c)
  cf : ∀ i, wr.frozen? ⟨X, i, none⟩ = false
  own : OwnB W.heap.size wr (.slice A bs.length c) bs
  ne : (Value.slice A bs.length c).ownBlock ≠ some X
section
variable {W wr w' : World} {X c c' : Nat} {n : Int} {A A' : Option Addr} {bs bs' : List Bd}
theorem PQ.below (h : PQ W wr X n A c bs) (hb : Below wr.heap.size wr w') : PQ W w' X n A c bs :=
  ⟨bthen h.bel hb, h.lo, Nat.lt_of_lt_of_le h.ex hb.size, ((bcell hb).1 _ _ h.ex).trans h.c0, ((bcell hb).1 _ _ h.ex).trans h.c1, fun i => ((bcell hb).2 _ _ h.ex).trans (h.cf i), own_below h.own hb, h.ne⟩
theorem PQ.alloc (h : PQ W wr X n A c bs) (x : Obj) : PQ W (wr.alloc x) X n A c bs := h.below (by go_grown)
theorem PQ.drew (h : PQ W wr X n A c bs) : PQ W wr.drew X n A c bs := h.below (by go_grown)
theorem pq_new {t : TypeId} (hW : Below W.heap.size W wr) : PQ W (wr.alloc (.cells #[.int .i64 n, .slice none 0 0] t)) wr.heap.size n none 0 [] := by
  have hb : Below wr.heap.size wr (wr.alloc (.cells #[.int .i64 n, .slice none 0 0] t)) := by go_grown
  exact ⟨bthen hW hb, hW.size, by simp, by simp [go_sem], by simp [go_sem], fun i => by simp [go_sem], World.ownsRow_nil _ _ _ _, by simp [Value.ownBlock]⟩
/-- Behind an append onto its bounds: they are stored. -/
theorem PQ.app (h : PQ W wr X n A c bs) (hg : wr.grownBy w' (Value.slice A bs.length c).ownBlock) (own : OwnB W.heap.size w' (.slice A' bs'.length c') bs') (hat : (Value.slice A' bs'.length c').ownBlock = (Value.slice A bs.length c).ownBlock ∨ (Value.slice A' bs'.length c').ownBlock = some wr.heap.size) :
    w'.cell? ⟨X, 0, none⟩ = some (.int .i64 n) ∧ w'.cell? ⟨X, 1, none⟩ = some (.slice A bs.length c) ∧ w'.frozen? ⟨X, 1, none⟩ = false ∧ PQ W (w'.setCell ⟨X, 1, none⟩ (.slice A' bs'.length c')) X n A' c' bs' ∧ Below W.heap.size W w' := by
  have hne : some X ≠ (Value.slice A bs.length c).ownBlock := fun e => h.ne e.symm
  have e0 : w'.cell? ⟨X, 0, none⟩ = some (.int .i64 n) := (hg.cell_far ⟨X, 0, none⟩ h.ex hne).trans h.c0
  have e1 : w'.cell? ⟨X, 1, none⟩ = some (.slice A bs.length c) := (hg.cell_far ⟨X, 1, none⟩ h.ex hne).trans h.c1
  have ef : ∀ i, w'.frozen? ⟨X, i, none⟩ = false := fun i => (hg.frozen_far ⟨X, i, none⟩ h.ex hne).trans (h.cf i)
  have hb : Below W.heap.size W w' := below_app h.bel h.own hg (Nat.le_refl _) h.bel.size
  have hx := h.ex
  have ne' : (Value.slice A' bs'.length c').ownBlock ≠ some X := fun e => by
    rcases hat with e2 | e2
    · rw [e2] at e; exact h.ne e
    · rw [e2] at e; injection e with e; omega
  refine ⟨e0, e1, ef 1, ⟨hb.setCell h.lo _, h.lo, by have := hg.size; simp; omega, ?_, World.cell?_setCell_same _ _ _ e1, fun i => ?_, own_set own ne' _, ne'⟩, hb⟩
  · rw [World.cell?_setCell_other _ _ _ _ (by simp)]; exact e0
  · rw [← ef i]; simp
end
end Go.Proofs.Ytmgikoaeomieeaa
