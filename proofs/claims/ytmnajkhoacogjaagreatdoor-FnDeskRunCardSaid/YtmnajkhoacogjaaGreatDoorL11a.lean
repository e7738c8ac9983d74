/-
 A row of one's own as a row of cells, and back.
 A number put into a row of one's own.
 A row of bounds of one's own: one Most put anew, and the first of it.
 A box for a plan that is the zero value.
 A plan in a box of the call's own, beside the result's box.
-/
import Derived.Test.YtmnajkhoacogjaaGreatDoorL1
import Derived.Lib.LazyBuf
import Derived.Lib.SliceRun
import Derived.Test.YtmnajkhoacogjaaGreatDoorI1
namespace Go.Proofs.YtmnajkhoacogjaaGreatDoor
set_option linter.unusedVariables false
set_option linter.unusedSimpArgs false
open Go.RowKit Pp

theorem own_row {w : World} {base g n cap : Nat} {e : TypeId} {size : Nat} {xs : List Value} (h : w.ownsRow base e size (.slice (some ⟨g, 0, none⟩) n cap) n xs) :
  ∃ f : Nat → Value, w.rowIs g e (cap * size) f ∧ (∀ j, j < n * size → xs[j]? = some (f j)) ∧ base ≤ g ∧ n ≤ cap ∧ cap ≤ maxLen := by
 rcases h.2 with ⟨hv, _⟩ | ⟨g', cap', cur, hv, hb, hh, h1, h2, h3, h4⟩
 ·cases hv
 ·injection hv with e1 e2 e3
  injection e1 with e1
  injection e1 with e1 _ _
  subst e1; subst e3
  refine ⟨fun j => cur[j]?.getD default, ⟨cur, hh, h3, fun i hi => ?_⟩, fun j hj => ?_, hb, h1, h2⟩
  ·have hlt : i < cur.size := by omega
   simp [hlt]
  ·have hn : n * size ≤ cap * size := Nat.mul_le_mul_right _ h1
   rw [← h4, List.getElem?_take, if_pos hj, Array.getElem?_toList]
   have hlt : j < cur.size := by omega
   simp [hlt]
theorem row_own {w : World} {base g n cap : Nat} {e : TypeId} {size : Nat} {xs : List Value} {f : Nat → Value} (h : w.rowIs g e (cap * size) f) (hx : ∀ j, j < n * size → xs[j]? = some (f j)) (hl : xs.length = n * size) (hb : base ≤ g) (h1 : n ≤ cap) (h2 : cap ≤ maxLen) :
  w.ownsRow base e size (.slice (some ⟨g, 0, none⟩) n cap) n xs := by
 obtain ⟨cur, hh, hs, hc⟩ := h
 have hn : n * size ≤ cap * size := Nat.mul_le_mul_right _ h1
 refine ⟨hl, .inr ⟨g, cap, cur, rfl, hb, hh, h1, h2, hs, ?_⟩⟩
 apply List.ext_getElem?
 intro j
 rw [List.getElem?_take]
 by_cases hj : j < n * size
 ·rw [if_pos hj, Array.getElem?_toList, hc j (by omega), hx j hj]
 ·rw [if_neg hj, List.getElem?_eq_none (by omega)]

theorem grown_cells {w : World} {g : Nat} : ∀ (vs : List Value) (o : Nat) (w' : World), w.grownBy w' (some g) → w.grownBy (w'.setCells g o vs) (some g)
 | [], _, _, h => h
 | v :: r, o, w', h => grown_cells r (o + 1) _ (⟨h.os, h.tape, h.output, by simpa using h.size, fun k hk hne => by
    rw [← h.block k hk hne]; exact Below.heap_setCell w' ⟨g, o, none⟩ v k (fun e => hne (by rw [e]))⟩)

/-- A box for a plan that is the zero value. -/
structure ZB (w0 W : World) (Y : Nat) : Prop where
 lo : w0.heap.size ≤ Y
 ex : Y < W.heap.size
 z0 : W.cell? ⟨Y, 0, none⟩ = some (.int .i64 0)
 z1 : W.cell? ⟨Y, 1, none⟩ = some (.slice none 0 0)
 zf : ∀ i, W.frozen? ⟨Y, i, none⟩ = false
theorem ZB.grown {w0 W W' : World} {Y : Nat} {row : Option Nat} (h : ZB w0 W Y) (hg : W.grownBy W' row) (hr : ∀ k, row = some k → k ≠ Y) : ZB w0 W' Y := by
 have hne : some Y ≠ row := fun e => hr _ e.symm rfl
 exact ⟨h.lo, Nat.lt_of_lt_of_le h.ex hg.size, (hg.cell_far ⟨Y, 0, none⟩ h.ex hne).trans h.z0, (hg.cell_far ⟨Y, 1, none⟩ h.ex hne).trans h.z1, fun i => (hg.frozen_far ⟨Y, i, none⟩ h.ex hne).trans (h.zf i)⟩
theorem bel_grown {W W' : World} (hb : Below W.heap.size W W') : W.grownBy W' none := ⟨hb.os, hb.tape, hb.output, hb.size, fun k hk _ => hb.block k hk⟩
theorem ZB.below {w0 W W' : World} {Y : Nat} (h : ZB w0 W Y) (hb : Below W.heap.size W W') : ZB w0 W' Y := h.grown (bel_grown hb) (fun _ e => by cases e)
theorem zb_new {w0 W : World} {t : TypeId} (h : w0.heap.size ≤ W.heap.size) : ZB w0 (W.alloc (.cells #[.int .i64 0, .slice none 0 0] t)) W.heap.size :=
 ⟨h, by simp, by simp [go_sem], by simp [go_sem], fun i => by simp [go_sem]⟩
/-- A plan is put into it, and handed back. -/
theorem ZB.fin {w0 W : World} {Y : Nat} {n : Int} {A : Option Addr} {c : Nat} {bs : List Bd} (h : ZB w0 W Y) (hW : Below w0.heap.size w0 W) (own : OwnB w0.heap.size W (.slice A bs.length c) bs) (ne : (Value.slice A bs.length c).ownBlock ≠ some Y) :
  ((W.setCell ⟨Y, 0, none⟩ (.int .i64 n)).setCell ⟨Y, 1, none⟩ (.slice A bs.length c)).cell? ⟨Y, 0, none⟩ = some (.int .i64 n) ∧ ((W.setCell ⟨Y, 0, none⟩ (.int .i64 n)).setCell ⟨Y, 1, none⟩ (.slice A bs.length c)).cell? ⟨Y, 1, none⟩ = some (.slice A bs.length c) ∧
  OwnB w0.heap.size ((W.setCell ⟨Y, 0, none⟩ (.int .i64 n)).setCell ⟨Y, 1, none⟩ (.slice A bs.length c)) (.slice A bs.length c) bs ∧ Below w0.heap.size w0 ((W.setCell ⟨Y, 0, none⟩ (.int .i64 n)).setCell ⟨Y, 1, none⟩ (.slice A bs.length c)) := by
 obtain ⟨r0, r1⟩ := two_cells (a := .int .i64 n) (b := .slice A bs.length c) h.z0 h.z1
 exact ⟨r0, r1, own_set (own_set own ne _) ne _, (hW.setCell h.lo _).setCell h.lo _⟩

/-- A plan of the call's own in a box of its own, beside a box Y that is still the zero value. -/
structure OX (w0 W : World) (Y X : Nat) (n : Int) (A : Option Addr) (c : Nat) (bs : List Bd) : Prop where
 bel : Below w0.heap.size w0 W
 z : ZB w0 W Y
 xy : Y ≠ X
 lo : w0.heap.size ≤ X
 ex : X < W.heap.size
 c0 : W.cell? ⟨X, 0, none⟩ = some (.int .i64 n)
 c1 : W.cell? ⟨X, 1, none⟩ = some (.slice A bs.length c)
 cf : ∀ i, W.frozen? ⟨X, i, none⟩ = false
 own : OwnB w0.heap.size W (.slice A bs.length c) bs
 neY : (Value.slice A bs.length c).ownBlock ≠ some Y
 neX : (Value.slice A bs.length c).ownBlock ≠ some X
theorem OX.below {w0 W W' : World} {Y X : Nat} {n : Int} {A : Option Addr} {c : Nat} {bs : List Bd} (h : OX w0 W Y X n A c bs) (hb : Below W.heap.size W W') : OX w0 W' Y X n A c bs :=
 ⟨bthen h.bel hb, h.z.below hb, h.xy, h.lo, Nat.lt_of_lt_of_le h.ex hb.size, ((bcell hb).1 _ _ h.ex).trans h.c0, ((bcell hb).1 _ _ h.ex).trans h.c1, fun i => ((bcell hb).2 _ _ h.ex).trans (h.cf i), own_below h.own hb, h.neY, h.neX⟩
theorem OX.reads {w0 W : World} {Y X : Nat} {n : Int} {A : Option Addr} {c : Nat} {bs : List Bd} (h : OX w0 W Y X n A c bs) : ∃ g, BdsR W W.heap.size g 0 A bs := OwnB.readsA h.own
theorem OX.put {w0 W : World} {Y X : Nat} {n n' : Int} {A A' : Option Addr} {c c' : Nat} {bs bs' : List Bd} (h : OX w0 W Y X n A c bs) (own : OwnB w0.heap.size W (.slice A' bs'.length c') bs') (neY : (Value.slice A' bs'.length c').ownBlock ≠ some Y) (neX : (Value.slice A' bs'.length c').ownBlock ≠ some X) :
  OX w0 ((W.setCell ⟨X, 0, none⟩ (.int .i64 n')).setCell ⟨X, 1, none⟩ (.slice A' bs'.length c')) Y X n' A' c' bs' := by
 obtain ⟨r0, r1⟩ := two_cells (a := .int .i64 n') (b := .slice A' bs'.length c') h.c0 h.c1
 have hxy := h.xy
 refine ⟨(h.bel.setCell h.lo _).setCell h.lo _, (h.z.grown (grown_set W ⟨X, 0, none⟩ _) (fun q hq => by cases hq; dsimp only; omega)).grown (grown_set _ ⟨X, 1, none⟩ _) (fun q hq => by cases hq; dsimp only; omega), hxy, h.lo, by simpa using h.ex, r0, r1, fun i => ?_, own_set (own_set own neX _) neX _, neY, neX⟩
 rw [← h.cf i]; simp
/-- A new box for it. -/
theorem ox_new {w0 W : World} {Y : Nat} {n : Int} {A : Option Addr} {c : Nat} {bs : List Bd} {t : TypeId} (bel : Below w0.heap.size w0 W) (z : ZB w0 W Y) (own : OwnB w0.heap.size W (.slice A bs.length c) bs) (neY : (Value.slice A bs.length c).ownBlock ≠ some Y) :
  OX w0 (W.alloc (.cells #[.int .i64 n, .slice A bs.length c] t)) Y W.heap.size n A c bs := by
 have hb : Below W.heap.size W (W.alloc (.cells #[.int .i64 n, .slice A bs.length c] t)) := by go_grown
 have hz := z.ex
 refine ⟨bthen bel hb, z.below hb, by omega, bel.size, by simp, by simp [go_sem], by simp [go_sem], fun i => by simp [go_sem], own_below own hb, neY, fun e => ?_⟩
 have := (own.lt _ e).2
 omega
theorem ox_put {w0 W : World} {Y X : Nat} {n : Int} {A : Option Addr} {c : Nat} {bs : List Bd} (bel : Below w0.heap.size w0 W) (z : ZB w0 W Y) (x : ZB w0 W X) (hxy : Y ≠ X) (own : OwnB w0.heap.size W (.slice A bs.length c) bs) (neY : (Value.slice A bs.length c).ownBlock ≠ some Y) (neX : (Value.slice A bs.length c).ownBlock ≠ some X) :
  OX w0 ((W.setCell ⟨X, 0, none⟩ (.int .i64 n)).setCell ⟨X, 1, none⟩ (.slice A bs.length c)) Y X n A c bs := by
 obtain ⟨r0, r1, ho, hb⟩ := x.fin (n := n) bel own neX
 refine ⟨hb, (z.grown (grown_set W ⟨X, 0, none⟩ _) (fun q hq => by cases hq; dsimp only; omega)).grown (grown_set _ ⟨X, 1, none⟩ _) (fun q hq => by cases hq; dsimp only; omega), hxy, x.lo, by simpa using x.ex, r0, r1, fun i => ?_, ho, neY, neX⟩
 rw [← x.zf i]; simp
theorem ZB.alloc {w0 W : World} {Y : Nat} (h : ZB w0 W Y) (o : Obj) : ZB w0 (W.alloc o) Y := h.below (by go_grown)
theorem ZB.drew {w0 W : World} {Y : Nat} (h : ZB w0 W Y) : ZB w0 W.drew Y := h.below (by go_grown)
theorem zb_at {w0 W : World} {t : TypeId} {X : Nat} (hX : X = W.heap.size) (h : w0.heap.size ≤ W.heap.size) : ZB w0 (W.alloc (.cells #[.int .i64 0, .slice none 0 0] t)) X := by subst hX; exact zb_new h
end Go.Proofs.YtmnajkhoacogjaaGreatDoor
