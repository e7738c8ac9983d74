/-
  impl.fromTable over CommonOf's number.
-/
import Derived.Test.YtjlaljnffmncpaaS3b
import Derived.Test.YtjlaljnffmncpaaL7
namespace Go.Proofs.Ytjlaljnffmncpaa
set_option linter.unusedVariables false
set_option linter.unusedSimpArgs false
open Go.RowKit Pp

/-- While a plan is made: the result's box and the plan's box are the first two blocks of the call. -/
structure FT (w0 wr : World) (n : Int) (A : Option Addr) (c : Nat) (bs : List Bd) : Prop where
  bel : Below w0.heap.size w0 wr
  sz : w0.heap.size + 2 ≤ wr.heap.size
  z0 : wr.cell? ⟨w0.heap.size, 0, none⟩ = some (.int .i64 0)
  z1 : wr.cell? ⟨w0.heap.size, 1, none⟩ = some (.slice none 0 0)
  zf : ∀ i, wr.frozen? ⟨w0.heap.size, i, none⟩ = false
  c0 : wr.cell? ⟨w0.heap.size + 1, 0, none⟩ = some (.int .i64 n)
  c1 : wr.cell? ⟨w0.heap.size + 1, 1, none⟩ = some (.slice A bs.length c)
  cf : ∀ i, wr.frozen? ⟨w0.heap.size + 1, i, none⟩ = false
  own : OwnB (w0.heap.size + 2) wr (.slice A bs.length c) bs

theorem FT.below {w0 wr w' : World} {n : Int} {A : Option Addr} {c : Nat} {bs : List Bd} (h : FT w0 wr n A c bs) (hb : Below wr.heap.size wr w') : FT w0 w' n A c bs := by
  have hs := h.sz
  have hc := (bcell hb).1
  have hf := (bcell hb).2
  exact ⟨bthen h.bel hb, Nat.le_trans hs hb.size, (hc _ _ (by omega)).trans h.z0, (hc _ _ (by omega)).trans h.z1, fun i => (hf _ _ (by omega)).trans (h.zf i), (hc _ _ (by omega)).trans h.c0, (hc _ _ (by omega)).trans h.c1, fun i => (hf _ _ (by omega)).trans (h.cf i), own_below h.own hb⟩
theorem FT.alloc {w0 wr : World} {n : Int} {A : Option Addr} {c : Nat} {bs : List Bd} (h : FT w0 wr n A c bs) (o : Obj) : FT w0 (wr.alloc o) n A c bs := h.below (by go_grown)
theorem FT.app {w0 wr w' : World} {n : Int} {A A' : Option Addr} {c c' : Nat} {bs bs' : List Bd} (h : FT w0 wr n A c bs) (hg : wr.grownBy w' (Value.slice A bs.length c).ownBlock) (len : Nat) (hlen : bs'.length = len) (hown : OwnB (w0.heap.size + 2) w' (.slice A' len c') bs') :
    w'.cell? ⟨w0.heap.size + 1, 1, none⟩ = some (.slice A bs.length c) ∧ w'.frozen? ⟨w0.heap.size + 1, 1, none⟩ = false ∧ FT w0 (w'.setCell ⟨w0.heap.size + 1, 1, none⟩ (.slice A' len c')) n A' c' bs' := by
  subst hlen
  have hs := h.sz
  have k1 : ∀ b, b < w0.heap.size + 2 → some b ≠ (Value.slice A bs.length c).ownBlock := fun b hb e => by have := (h.own.lt _ e.symm).1; omega
  have hc : ∀ b o, b < w0.heap.size + 2 → w'.cell? ⟨b, o, none⟩ = wr.cell? ⟨b, o, none⟩ := fun b o hb => hg.cell_far _ (by show b < _; omega) (k1 b hb)
  have hf : ∀ b o, b < w0.heap.size + 2 → w'.frozen? ⟨b, o, none⟩ = wr.frozen? ⟨b, o, none⟩ := fun b o hb => hg.frozen_far _ (by show b < _; omega) (k1 b hb)
  have a1 := (hc (w0.heap.size + 1) 1 (by omega)).trans h.c1
  have hb := below_app h.bel h.own hg (by omega) hs
  refine ⟨a1, (hf _ _ (by omega)).trans (h.cf 1), hb.setCell (by dsimp only; omega) _, by simpa using Nat.le_trans hs hg.size, ?_, ?_, fun i => ?_, ?_, ?_, fun i => ?_, own_set_low hown (by dsimp only; omega) _⟩
  · rw [set_other (by dsimp only; omega)]; exact (hc _ _ (by omega)).trans h.z0
  · rw [set_other (by dsimp only; omega)]; exact (hc _ _ (by omega)).trans h.z1
  · rw [← h.zf i, ← hf _ _ (by omega)]; simp
  · rw [World.cell?_setCell_other _ _ _ _ (by simp)]; exact (hc _ _ (by omega)).trans h.c0
  · exact World.cell?_setCell_same _ _ _ a1
  · rw [← h.cf i, ← hf _ _ (by omega)]; simp
end Go.Proofs.Ytjlaljnffmncpaa
