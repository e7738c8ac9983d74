/-
  A drawn row of numbers.
-/
import Derived.Test.YtofodhdpppjaoaaD2
namespace Go.Proofs.Ytofodhdpppjaoaa
set_option linter.unusedVariables false
set_option linter.unusedSimpArgs false
open Go.RowKit Pp

/-- A row of numbers is being made, behind what is drawn already. -/
structure LQ (wD wx : World) (g : Nat) (K : Int) (v : Value) (xs : List Int) : Prop where
  rd : RdO wx g K
  gr : wD.grownBy wx (some g)
  gl : g < wD.heap.size
  own : OwnI wD.heap.size wx v xs
theorem LQ.more {wD wx : World} {g : Nat} {K K' : Int} {v : Value} {xs : List Int} (h : LQ wD wx g K v xs) (hK : K ≤ K') : LQ wD wx g K' v xs := { h with rd := h.rd.more hK }
theorem LQ.pick {wD wx w' : World} {g : Nat} {K K' : Int} {v : Value} {xs : List Int} (h : LQ wD wx g K v xs) (hR : RdO w' g K') (hg : wx.grownBy w' (some g)) : LQ wD w' g K' v xs :=
  ⟨hR, gr_pick h.gr hg, h.gl, own_far h.own hg h.gl⟩
theorem LQ.below {wD wx w' : World} {g : Nat} {K : Int} {v : Value} {xs : List Int} (h : LQ wD wx g K v xs) (hb : Below wx.heap.size wx w') : LQ wD w' g K v xs :=
  ⟨h.rd.below hb, gr_below h.gr hb, h.gl, own_below h.own hb⟩
theorem LQ.app {wD wx w' : World} {g : Nat} {K : Int} {v v' : Value} {xs xs' : List Int} (h : LQ wD wx g K v xs) (hg : wx.grownBy w' v.ownBlock) (hown : OwnI wD.heap.size w' v' xs') : LQ wD w' g K v' xs' := by
  have hq : ∀ k, v.ownBlock = some k → wD.heap.size ≤ k := fun k hk => (h.own.lt k hk).1
  exact ⟨h.rd.other hg (fun k e => by have := hq k e; have := h.gl; omega), gr_then h.gr hg (fun k e => .inl (hq k e)), h.gl, hown⟩
end Go.Proofs.Ytofodhdpppjaoaa
