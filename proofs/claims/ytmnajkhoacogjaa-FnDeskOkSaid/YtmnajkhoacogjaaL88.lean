/-
  impl: into, PlanOf.
-/
import Derived.Test.YtmnajkhoacogjaaL80
import Derived.Test.YtmnajkhoacogjaaL1
namespace Go.Proofs.Ytmnajkhoacogjaa
set_option linter.unusedVariables false
set_option linter.unusedSimpArgs false
open Go Go.RowKit Pp

/-- A plan that is being made in a box of the call's own. -/
structure IX (w0 W : World) (X : Nat) (n : Int) (A : Option Addr) (c : Nat) (bs : List Bd) : Prop where
  bel : Below w0.heap.size w0 W
  lo : w0.heap.size ≤ X
  ex : X < W.heap.size
  c0 : W.cell? ⟨X, 0, none⟩ = some (.int .i64 n)
  c1 : W.cell? ⟨X, 1, none⟩ = some (.slice A bs.length c)
  cf : ∀ i, W.frozen? ⟨X, i, none⟩ = false
  own : OwnB w0.heap.size W (.slice A bs.length c) bs
  ne : (Value.slice A bs.length c).ownBlock ≠ some X
section
variable {w0 W : World} {X : Nat} {n : Int} {A : Option Addr} {c : Nat} {bs : List Bd}
theorem IX.below {w' : World} (h : IX w0 W X n A c bs) (hb : Below W.heap.size W w') : IX w0 w' X n A c bs :=
  ⟨bthen h.bel hb, h.lo, Nat.lt_of_lt_of_le h.ex hb.size, ((bcell hb).1 _ _ h.ex).trans h.c0, ((bcell hb).1 _ _ h.ex).trans h.c1, fun i => ((bcell hb).2 _ _ h.ex).trans (h.cf i), own_below h.own hb, h.ne⟩
theorem ix_new (hW : Below w0.heap.size w0 W) (n : Int) (t : TypeId) : IX w0 (W.alloc (.cells #[.int .i64 n, .slice none 0 0] t)) W.heap.size n none 0 [] := by
  have hb : Below W.heap.size W (W.alloc (.cells #[.int .i64 n, .slice none 0 0] t)) := by go_grown
  exact ⟨bthen hW hb, hW.size, by simp, by simp [go_sem], by simp [go_sem], fun i => by simp [go_sem], World.ownsRow_nil _ _ _ _, by simp [Value.ownBlock]⟩
theorem IX.setN (h : IX w0 W X n A c bs) (m : Int) : IX w0 (W.setCell ⟨X, 0, none⟩ (.int .i64 m)) X m A c bs :=
  ⟨h.bel.setCell h.lo _, h.lo, by rw [World.size_setCell]; exact h.ex, World.cell?_setCell_same _ _ _ h.c0, by rw [World.cell?_setCell_other _ _ _ _ (by simp)]; exact h.c1, fun i => by rw [← h.cf i]; simp, own_set h.own h.ne _, h.ne⟩
theorem IX.push {w3 w4 : World} {A5 : Option Addr} {c5 : Nat} {ns : List Bd} (h : IX w0 W X n A c bs) (hb3 : Below W.heap.size W w3) (hg : w3.grownBy w4 (Value.slice A bs.length c).ownBlock)
    (hown : w4.ownsRow w0.heap.size 51 3 (.slice A5 (bs.length + ns.length) c5) (bs.length + ns.length) (bdCs bs ++ bdCs ns))
    (hat : (Value.slice A5 (bs.length + ns.length) c5).ownBlock = (Value.slice A bs.length c).ownBlock ∨ (Value.slice A5 (bs.length + ns.length) c5).ownBlock = some w3.heap.size) :
    (w4.cell? ⟨X, 1, none⟩ = some (.slice A bs.length c) ∧ w4.frozen? ⟨X, 1, none⟩ = false) ∧ IX w0 (w4.setCell ⟨X, 1, none⟩ (.slice A5 (bs.length + ns.length) c5)) X n A5 c5 (bs ++ ns) := by
  have hlo : ∀ b, (Value.slice A bs.length c).ownBlock = some b → w0.heap.size ≤ b ∧ b < W.heap.size := fun b hb => h.own.lt b hb
  have s2 := hb3.size
  have s3 := hg.size
  have s0 := h.bel.size
  have sX := h.ex
  have neX : some X ≠ (Value.slice A bs.length c).ownBlock := fun e => h.ne e.symm
  have cX : ∀ i v, W.cell? ⟨X, i, none⟩ = some v → w4.cell? ⟨X, i, none⟩ = some v := fun i v hv => hg.cell (a := ⟨X, i, none⟩) ((hb3.cell (p := ⟨X, i, none⟩) h.ex).trans hv) neX
  have fX : ∀ i, w4.frozen? ⟨X, i, none⟩ = false := fun i => (hg.frozen_far ⟨X, i, none⟩ (by show X < _; omega) neX).trans (((bcell hb3).2 _ _ h.ex).trans (h.cf i))
  have hbel4 : Below w0.heap.size w0 w4 := (bthen h.bel hb3).grown hg (by omega) (fun b hb => (hlo b hb).1)
  have newX : (Value.slice A5 (bs.length + ns.length) c5).ownBlock ≠ some X := fun e => by
    rcases hat with e1 | e1
    · exact h.ne (e1 ▸ e)
    · rw [e1] at e; injection e with e; omega
  have hl : (bs ++ ns).length = bs.length + ns.length := by simp
  refine ⟨⟨cX 1 _ h.c1, fX 1⟩, ⟨hbel4.setCell h.lo _, h.lo, by rw [World.size_setCell]; omega, ?_, ?_, fun i => by rw [← fX i]; simp, ?_, by rw [hl]; exact newX⟩⟩
  · rw [World.cell?_setCell_other _ _ _ _ (by simp)]; exact cX 0 _ h.c0
  · rw [hl]; exact World.cell?_setCell_same _ _ _ (cX 1 _ h.c1)
  · unfold OwnB; rw [hl, bdCs_append]; exact own_set hown newX _
end
theorem bd_news {w : World} {g : Nat} {x : Bd} {t : TypeId} (h : w.heap[g]? = some (.cells #[.int .i64 x.f, .int .i64 x.t, .int .i64 x.m] t (0, 0))) : NewsAt w (some ⟨g, 0, none⟩) 1 (bdCs [x]) :=
  NewsAt.block (cs := #[.int .i64 x.f, .int .i64 x.t, .int .i64 x.m]) h
theorem bd_news2 {w : World} {g : Nat} {x y : Bd} {t : TypeId} (h : w.heap[g]? = some (.cells #[.int .i64 x.f, .int .i64 x.t, .int .i64 x.m, .int .i64 y.f, .int .i64 y.t, .int .i64 y.m] t (0, 0))) : NewsAt w (some ⟨g, 0, none⟩) 2 (bdCs [x, y]) :=
  NewsAt.block (cs := #[.int .i64 x.f, .int .i64 x.t, .int .i64 x.m, .int .i64 y.f, .int .i64 y.t, .int .i64 y.m]) h
theorem small_tm : ∀ a : Tm, 2 * a.steps + a.withs ≤ 50 * a.size ∧ a.thens ≤ 50 * a.size
  | .step l h => by simp [Tm.steps, Tm.withs, Tm.thens, Tm.size]
  | .wth a h => by have := small_tm a; simp only [Tm.steps, Tm.withs, Tm.thens, Tm.size]; omega
  | .thn a b => by have := small_tm a; have := small_tm b; simp only [Tm.steps, Tm.withs, Tm.thens, Tm.size]; omega
  | .bth a b => by have := small_tm a; have := small_tm b; simp only [Tm.steps, Tm.withs, Tm.thens, Tm.size]; omega
namespace Pp
/-- The plan of a term, and whether there is one. -/
def planOf (t : List Mk) : Pl := match termOf t with
  | some a => if planOk (tmP a) then tmP a else ⟨0, []⟩
  | none => ⟨0, []⟩
def planIs (t : List Mk) : Bool := match termOf t with
  | some a => planOk (tmP a)
  | none => false
end Pp
end Go.Proofs.Ytmnajkhoacogjaa
