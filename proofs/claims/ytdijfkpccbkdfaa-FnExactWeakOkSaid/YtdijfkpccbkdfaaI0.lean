/-
  A plan in a box of the call's own.
-/
import Derived.Test.YtdijfkpccbkdfaaBase
namespace Go.Proofs.Ytdijfkpccbkdfaa
set_option linter.unusedVariables false
set_option linter.unusedSimpArgs false
open Go.RowKit Pp

/-- A plan in a box of the call's own, its bounds anywhere. -/
structure PO (w0 W : World) (X b o : Nat) (n : Int) (A : Option Addr) (c : Nat) (bs : List Bd) : Prop where
  bel : Below w0.heap.size w0 W
  lo : w0.heap.size ≤ X
  ex : X < W.heap.size
  c0 : W.cell? ⟨X, 0, none⟩ = some (.int .i64 n)
  c1 : W.cell? ⟨X, 1, none⟩ = some (.slice A bs.length c)
  rd : BdsR W W.heap.size b o A bs
theorem PO.below {w0 W W' : World} {X b o : Nat} {n : Int} {A : Option Addr} {c : Nat} {bs : List Bd} (h : PO w0 W X b o n A c bs) (hb : Below W.heap.size W W') : PO w0 W' X b o n A c bs :=
  ⟨bthen h.bel hb, h.lo, Nat.lt_of_lt_of_le h.ex hb.size, ((bcell hb).1 _ _ h.ex).trans h.c0, ((bcell hb).1 _ _ h.ex).trans h.c1, (h.rd.below hb).more hb.size⟩
theorem PO.alloc {w0 W : World} {X b o : Nat} {n : Int} {A : Option Addr} {c : Nat} {bs : List Bd} (h : PO w0 W X b o n A c bs) (x : Obj) : PO w0 (W.alloc x) X b o n A c bs := h.below (by go_grown)
theorem PO.drew {w0 W : World} {X b o : Nat} {n : Int} {A : Option Addr} {c : Nat} {bs : List Bd} (h : PO w0 W X b o n A c bs) : PO w0 W.drew X b o n A c bs := h.below (by go_grown)
theorem po_new {w0 W : World} {b o : Nat} {n : Int} {A : Option Addr} {c : Nat} {bs : List Bd} {t : TypeId} (hW : Below w0.heap.size w0 W) (hrd : BdsR W W.heap.size b o A bs) : PO w0 (W.alloc (.cells #[.int .i64 n, .slice A bs.length c] t)) W.heap.size b o n A c bs := by
  have hb : Below W.heap.size W (W.alloc (.cells #[.int .i64 n, .slice A bs.length c] t)) := by go_grown
  exact ⟨bthen hW hb, hW.size, by simp, by simp [go_sem], by simp [go_sem], (hrd.below hb).more hb.size⟩
end Go.Proofs.Ytdijfkpccbkdfaa
