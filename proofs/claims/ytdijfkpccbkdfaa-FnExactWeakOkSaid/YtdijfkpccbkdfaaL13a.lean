/-
  A plan in a box of the call's own, beside the result's box.
-/
import Derived.Test.YtdijfkpccbkdfaaL12a
namespace Go.Proofs.Ytdijfkpccbkdfaa
set_option linter.unusedVariables false
set_option linter.unusedSimpArgs false
open Go.RowKit Pp

/-- A plan of the call's own in a box of its own, beside a box Y that is still the zero value. -/
structure OX (w0 W : World) (Y X : Nat) (n : Int) (A : Option Addr) (c : Nat) (bs : List Bd) : Prop where
  bel : Below w0.heap.size w0 W
  z : ZB w0 W Y
  xy : Y ≠ X
  lo : w0.heap.size ≤ X
  ex : X < W.heap.size
  c0 : W.cell? ⟨X, 0, none⟩ = some (.int .i64 n)
  c1 : W.cell? ⟨X, 1, none⟩ = some (.slice A bs.length c)
  cf : ∀ i, W.frozen? ⟨X, i, none⟩ = false
  own : OwnB w0.heap.size W (.slice A bs.length c) bs
  neY : (Value.slice A bs.length c).ownBlock ≠ some Y
  neX : (Value.slice A bs.length c).ownBlock ≠ some X
theorem OX.below {w0 W W' : World} {Y X : Nat} {n : Int} {A : Option Addr} {c : Nat} {bs : List Bd} (h : OX w0 W Y X n A c bs) (hb : Below W.heap.size W W') : OX w0 W' Y X n A c bs :=
  ⟨bthen h.bel hb, h.z.below hb, h.xy, h.lo, Nat.lt_of_lt_of_le h.ex hb.size, ((bcell hb).1 _ _ h.ex).trans h.c0, ((bcell hb).1 _ _ h.ex).trans h.c1, fun i => ((bcell hb).2 _ _ h.ex).trans (h.cf i), own_below h.own hb, h.neY, h.neX⟩
theorem OX.reads {w0 W : World} {Y X : Nat} {n : Int} {A : Option Addr} {c : Nat} {bs : List Bd} (h : OX w0 W Y X n A c bs) : ∃ g, BdsR W W.heap.size g 0 A bs := OwnB.readsA h.own
theorem OX.put {w0 W : World} {Y X : Nat} {n n' : Int} {A A' : Option Addr} {c c' : Nat} {bs bs' : List Bd} (h : OX w0 W Y X n A c bs) (own : OwnB w0.heap.size W (.slice A' bs'.length c') bs') (neY : (Value.slice A' bs'.length c').ownBlock ≠ some Y) (neX : (Value.slice A' bs'.length c').ownBlock ≠ some X) :
    OX w0 ((W.setCell ⟨X, 0, none⟩ (.int .i64 n')).setCell ⟨X, 1, none⟩ (.slice A' bs'.length c')) Y X n' A' c' bs' := by
  obtain ⟨r0, r1⟩ := two_cells (a := .int .i64 n') (b := .slice A' bs'.length c') h.c0 h.c1
  have hxy := h.xy
  refine ⟨(h.bel.setCell h.lo _).setCell h.lo _, (h.z.grown (grown_set W ⟨X, 0, none⟩ _) (fun q hq => by cases hq; dsimp only; omega)).grown (grown_set _ ⟨X, 1, none⟩ _) (fun q hq => by cases hq; dsimp only; omega), hxy, h.lo, by simpa using h.ex, r0, r1, fun i => ?_, own_set (own_set own neX _) neX _, neY, neX⟩
  rw [← h.cf i]; simp
/-- A new box for it. -/
theorem ox_new {w0 W : World} {Y : Nat} {n : Int} {A : Option Addr} {c : Nat} {bs : List Bd} {t : TypeId} (bel : Below w0.heap.size w0 W) (z : ZB w0 W Y) (own : OwnB w0.heap.size W (.slice A bs.length c) bs) (neY : (Value.slice A bs.length c).ownBlock ≠ some Y) :
    OX w0 (W.alloc (.cells #[.int .i64 n, .slice A bs.length c] t)) Y W.heap.size n A c bs := by
  have hb : Below W.heap.size W (W.alloc (.cells #[.int .i64 n, .slice A bs.length c] t)) := by go_grown
  have hz := z.ex
  refine ⟨bthen bel hb, z.below hb, by omega, bel.size, by simp, by simp [go_sem], by simp [go_sem], fun i => by simp [go_sem], own_below own hb, neY, fun e => ?_⟩
  have := (own.lt _ e).2
  omega
theorem ox_put {w0 W : World} {Y X : Nat} {n : Int} {A : Option Addr} {c : Nat} {bs : List Bd} (bel : Below w0.heap.size w0 W) (z : ZB w0 W Y) (x : ZB w0 W X) (hxy : Y ≠ X) (own : OwnB w0.heap.size W (.slice A bs.length c) bs) (neY : (Value.slice A bs.length c).ownBlock ≠ some Y) (neX : (Value.slice A bs.length c).ownBlock ≠ some X) :
    OX w0 ((W.setCell ⟨X, 0, none⟩ (.int .i64 n)).setCell ⟨X, 1, none⟩ (.slice A bs.length c)) Y X n A c bs := by
  obtain ⟨r0, r1, ho, hb⟩ := x.fin (n := n) bel own neX
  refine ⟨hb, (z.grown (grown_set W ⟨X, 0, none⟩ _) (fun q hq => by cases hq; dsimp only; omega)).grown (grown_set _ ⟨X, 1, none⟩ _) (fun q hq => by cases hq; dsimp only; omega), hxy, x.lo, by simpa using x.ex, r0, r1, fun i => ?_, ho, neY, neX⟩
  rw [← x.zf i]; simp
theorem ZB.alloc {w0 W : World} {Y : Nat} (h : ZB w0 W Y) (o : Obj) : ZB w0 (W.alloc o) Y := h.below (by go_grown)
theorem ZB.drew {w0 W : World} {Y : Nat} (h : ZB w0 W Y) : ZB w0 W.drew Y := h.below (by go_grown)
theorem zb_at {w0 W : World} {t : TypeId} {X : Nat} (hX : X = W.heap.size) (h : w0.heap.size ≤ W.heap.size) : ZB w0 (W.alloc (.cells #[.int .i64 0, .slice none 0 0] t)) X := by subst hX; exact zb_new h
end Go.Proofs.Ytdijfkpccbkdfaa
