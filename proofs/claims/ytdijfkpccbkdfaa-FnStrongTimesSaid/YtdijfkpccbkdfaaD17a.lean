/-
  The draws of the reference: deals: the boxes.
-/
import Derived.Test.YtdijfkpccbkdfaaD2
import Derived.Test.YtdijfkpccbkdfaaL11a
import Derived.Test.YtdijfkpccbkdfaaR1
namespace Go.Proofs.Ytdijfkpccbkdfaa
set_option linter.unusedVariables false
set_option linter.unusedSimpArgs false
open Go.RowKit Pp

/-- A drawn plan, with a deal's box for the result. -/
structure DS (w0 wr : World) (g P : Nat) (K n : Int) (A : Option Addr) (c : Nat) (bs : List Bd) : Prop where
  js : JS w0 wr g P K n A c bs
  z2 : wr.cell? ⟨w0.heap.size, 2, none⟩ = some (.slice none 0 0)
section
variable {w0 wr w' : World} {g P : Nat} {K K' n n' : Int} {A A' : Option Addr} {c c' : Nat} {bs bs' : List Bd}
theorem DS.more (h : DS w0 wr g P K n A c bs) (hK : K ≤ K') : DS w0 wr g P K' n A c bs := ⟨h.js.more hK, h.z2⟩
theorem DS.pick (h : DS w0 wr g P K n A c bs) (hR : RdO w' g K') (hg : wr.grownBy w' (some g)) : DS w0 w' g P K' n A c bs := by
  have := h.js.lt; have h0 := h.js.P0; have h1 := h.js.P1
  exact ⟨h.js.pick hR hg, far_cell hg h.z2 (by omega)⟩
theorem DS.below (h : DS w0 wr g P K n A c bs) (hb : Below wr.heap.size wr w') : DS w0 w' g P K n A c bs := by
  have h0 := h.js.P0; have h1 := h.js.P1
  exact ⟨h.js.below hb, ((bcell hb).1 _ _ (by omega)).trans h.z2⟩
theorem DS.alloc (h : DS w0 wr g P K n A c bs) (o : Obj) : DS w0 (wr.alloc o) g P K n A c bs := h.below (by go_grown)
theorem DS.drew (h : DS w0 wr g P K n A c bs) : DS w0 wr.drew g P K n A c bs := h.below (by go_grown)
end
section
variable {w0 wr : World} {g P q c k m : Nat} {K n : Int} {bs : List Bd}
/-- The plan's first m bounds alone. -/
theorem DS.take (h : DS w0 wr g P K n (some ⟨q, 0, none⟩) c bs) (hm : m ≤ bs.length) : DS w0 (wr.setCell ⟨P, 1, none⟩ (.slice (some ⟨q, 0, none⟩) m c)) g P K n (some ⟨q, 0, none⟩) c (bs.take m) := by
  have := h.js.lt; have h0 := h.js.P0; have h1 := h.js.P1
  have hl : (bs.take m).length = m := by simp; omega
  have e0 : q ≠ w0.heap.size := fun e => h.js.ne0 (by simp [Value.ownBlock, e])
  have eP : q ≠ P := fun e => h.js.neP (by simp [Value.ownBlock, e])
  refine ⟨⟨h.js.rd.set _ (by dsimp only; omega) _, gr_set h.js.gr _ (.inl (by dsimp only; omega)) _, h.js.lt, h.js.P0, by simpa using h1, ?_, ?_, fun i => ?_, ?_, ?_, fun i => ?_, ?_, by simpa [Value.ownBlock] using e0, by simpa [Value.ownBlock] using eP⟩, ?_⟩
  · rw [set_other (by dsimp only; omega)]; exact h.js.z0
  · rw [set_other (by dsimp only; omega)]; exact h.js.z1
  · rw [← h.js.zf i]; simp
  · rw [set_ne (by simp)]; exact h.js.c0
  · rw [hl]; exact World.cell?_setCell_same _ _ _ h.js.c1
  · rw [← h.js.cf i]; simp
  · rw [hl]; exact own_set (own_take h.js.own hm) (by simpa [Value.ownBlock] using eP) _
  · rw [set_other (by dsimp only; omega)]; exact h.z2
/-- One Most put anew. -/
theorem DS.put {x : Bd} (h : DS w0 wr g P K n (some ⟨q, 0, none⟩) c bs) (hx : bs[k]? = some x) (v : Int) : DS w0 (wr.setCell ⟨q, k * 3 + 2, none⟩ (.int .i64 v)) g P K n (some ⟨q, 0, none⟩) c (bs.set k ⟨x.f, x.t, v⟩) ∧ wr.frozen? ⟨q, k * 3 + 2, none⟩ = false := by
  have := h.js.lt; have h0 := h.js.P0; have h1 := h.js.P1
  have hl : (bs.set k ⟨x.f, x.t, v⟩).length = bs.length := List.length_set
  have e0 : q ≠ w0.heap.size := fun e => h.js.ne0 (by simp [Value.ownBlock, e])
  have eP : q ≠ P := fun e => h.js.neP (by simp [Value.ownBlock, e])
  obtain ⟨ho, hf⟩ := own_setM v h.js.own hx
  have hq := (h.js.own.lt q (by simp [Value.ownBlock])).1
  refine ⟨⟨⟨h.js.rd.set _ (by dsimp only; omega) _, gr_set h.js.gr _ (.inl (by dsimp only; omega)) _, h.js.lt, h.js.P0, by simpa using h1, ?_, ?_, fun i => ?_, ?_, ?_, fun i => ?_, ho, by simpa [Value.ownBlock] using e0, by simpa [Value.ownBlock] using eP⟩, ?_⟩, hf⟩
  · rw [set_other (by dsimp only; omega)]; exact h.js.z0
  · rw [set_other (by dsimp only; omega)]; exact h.js.z1
  · rw [← h.js.zf i]; simp
  · rw [set_other (by dsimp only; omega)]; exact h.js.c0
  · rw [set_other (by dsimp only; omega), hl]; exact h.js.c1
  · rw [← h.js.cf i]; simp
  · rw [set_other (by dsimp only; omega)]; exact h.z2
end
theorem pick_ds {w0 : World} {g P : Nat} {K n : Int} {A : Option Addr} {c : Nat} {bs : List Bd} (m : Int) (w : World) (h : DS w0 w g P K n A c bs) (hK : 0 ≤ K ∧ K ≤ 1000000000) (hm : -1000000000 ≤ m ∧ m ≤ 1000000000) :
    Calls Try.prog 93 #[.pointer (some ⟨g, 0, none⟩), .int .i64 m] w fun e w' =>
      ∃ v : Int, e = .returned (.int .i64 v) ∧ 0 ≤ v ∧ (1 ≤ m → v < m) ∧ (m < 1 → v = 0) ∧ DS w0 w' g P (K + 1) n A c bs ∧ w.grownBy w' (some g) ∧ w'.heap.size = w.heap.size := by
  refine (pick_c g K m w hK hm h.js.rd).mono ?_
  rintro e w' ⟨v, rfl, h1, h2, h3, h4, h5, h6⟩
  exact ⟨v, rfl, h1, h2, h3, h.pick h4 h5, h5, h6⟩
theorem ds_new {w w1 : World} {g : Nat} {K n : Int} {A : Option Addr} {c : Nat} {bs : List Bd} {t t' : TypeId} (G : (w.alloc (.cells #[.int .i64 0, .slice none 0 0, .slice none 0 0] t')).grownBy w1 (some g)) (hg : g < w.heap.size) (hR : RdO w1 g K)
    (hown : OwnB (w.alloc (.cells #[.int .i64 0, .slice none 0 0, .slice none 0 0] t')).heap.size w1 (.slice A bs.length c) bs) : DS w (w1.alloc (.cells #[.int .i64 n, .slice A bs.length c] t)) g w1.heap.size K n A c bs := by
  have hs : w.heap.size < w1.heap.size := by have := G.size; simp only [World.size_alloc] at this; omega
  have hl := fun q hq => hown.lt q hq
  simp only [World.size_alloc] at hl
  refine ⟨⟨hR.alloc _, gr_alloc (gr_pick (gr_new w _ _) G) _, hg, hs, by simp, ?_, ?_, fun i => ?_, by simp [go_sem], by simp [go_sem], fun i => by simp [go_sem], ?_, fun e => ?_, fun e => ?_⟩, ?_⟩
  · rw [World.cell?_alloc_past _ _ _ hs]; exact far_cell G (by simp [go_sem]) (by omega)
  · rw [World.cell?_alloc_past _ _ _ hs]; exact far_cell G (by simp [go_sem]) (by omega)
  · rw [World.frozen?_alloc_past _ _ _ hs]; exact far_frozen G (by simp [go_sem]) (by simp) (by omega)
  · exact own_less (hown.alloc _) (by simp)
  · have := (hl _ e).1; omega
  · have := (hl _ e).2; omega
  · rw [World.cell?_alloc_past _ _ _ hs]; exact far_cell G (by simp [go_sem]) (by omega)

/-- A drawn plan beside a drawn deal's box D, that holds it with promises of the call's own. -/
structure DQ (w0 wr : World) (g P D : Nat) (K n : Int) (A : Option Addr) (c : Nat) (bs : List Bd) (A2 : Option Addr) (c2 : Nat) (ps : List Pr) : Prop where
  ds : DS w0 wr g P K n A c bs
  PD : P < D
  ex : D < wr.heap.size
  lo : ∀ q, (Value.slice A bs.length c).ownBlock = some q → q < D
  d0 : wr.cell? ⟨D, 0, none⟩ = some (.int .i64 n)
  d1 : wr.cell? ⟨D, 1, none⟩ = some (.slice A bs.length c)
  d2 : wr.cell? ⟨D, 2, none⟩ = some (.slice A2 ps.length c2)
  df : ∀ i, wr.frozen? ⟨D, i, none⟩ = false
  own : wr.ownsRow (D + 1) 40 4 (.slice A2 ps.length c2) ps.length (prCs ps)
theorem own_hi {w : World} {base : Nat} {e : TypeId} {size : Nat} {v : Value} {n : Nat} {xs : List Value} (h : w.ownsRow base e size v n xs) : ∀ q, v.ownBlock = some q → base ≤ q ∧ q < w.heap.size := fun q hq => h.lt q hq
section
variable {w0 wr w' : World} {g P D : Nat} {K K' n : Int} {A A2 A3 : Option Addr} {c c2 c3 : Nat} {bs : List Bd} {ps ps3 : List Pr} {row : Option Nat}
theorem DQ.more (h : DQ w0 wr g P D K n A c bs A2 c2 ps) (hK : K ≤ K') : DQ w0 wr g P D K' n A c bs A2 c2 ps := { h with ds := h.ds.more hK }
theorem DQ.pick (h : DQ w0 wr g P D K n A c bs A2 c2 ps) (hR : RdO w' g K') (hg : wr.grownBy w' (some g)) : DQ w0 w' g P D K' n A c bs A2 c2 ps := by
  have := h.ds.js.lt; have h0 := h.ds.js.P0; have h1 := h.ds.js.P1; have h2 := h.PD; have h3 := h.ex
  exact ⟨h.ds.pick hR hg, h2, Nat.lt_of_lt_of_le h3 hg.size, h.lo, far_cell hg h.d0 (by omega), far_cell hg h.d1 (by omega), far_cell hg h.d2 (by omega), fun i => far_frozen hg (h.df i) (by omega) (by omega), own_far h.own hg (by omega)⟩
theorem DQ.below (h : DQ w0 wr g P D K n A c bs A2 c2 ps) (hb : Below wr.heap.size wr w') : DQ w0 w' g P D K n A c bs A2 c2 ps := by
  have h3 := h.ex
  have hc := (bcell hb).1
  have hf := (bcell hb).2
  exact ⟨h.ds.below hb, h.PD, Nat.lt_of_lt_of_le h3 hb.size, h.lo, (hc _ _ h3).trans h.d0, (hc _ _ h3).trans h.d1, (hc _ _ h3).trans h.d2, fun i => (hf _ _ h3).trans (h.df i), own_below h.own hb⟩
theorem DQ.alloc (h : DQ w0 wr g P D K n A c bs A2 c2 ps) (o : Obj) : DQ w0 (wr.alloc o) g P D K n A c bs A2 c2 ps := h.below (by go_grown)
theorem DQ.drew (h : DQ w0 wr g P D K n A c bs A2 c2 ps) : DQ w0 wr.drew g P D K n A c bs A2 c2 ps := h.below (by go_grown)
/-- Another row of the call's own has turned. -/
theorem DQ.other (h : DQ w0 wr g P D K n A c bs A2 c2 ps) (hg : wr.grownBy w' row) (hr : ∀ k, row = some k → D < k ∧ (Value.slice A2 ps.length c2).ownBlock ≠ some k) : DQ w0 w' g P D K n A c bs A2 c2 ps := by
  have h2 := h.PD; have h3 := h.ex
  have k1 : some D ≠ row := fun e => by have := (hr _ e.symm).1; omega
  refine ⟨⟨h.ds.js.other hg (fun k e => ⟨by have := (hr k e).1; omega, fun e2 => by have := h.lo _ e2; have := (hr k e).1; omega⟩), ?_⟩, h2, Nat.lt_of_lt_of_le h3 hg.size, h.lo, hg.cell h.d0 k1, hg.cell h.d1 k1, hg.cell h.d2 k1, fun i => ?_, ?_⟩
  · have := h.ds.js.P0
    have k0 : some w0.heap.size ≠ row := fun e => by have := (hr _ e.symm).1; omega
    exact hg.cell h.ds.z2 k0
  · exact (hg.frozen_far ⟨D, i, none⟩ h3 k1).trans (h.df i)
  · refine h.own.kept hg ?_
    cases hrow : row with
    | none => exact Classical.em _
    | some k => exact .inr (fun e => (hr k hrow).2 e)
theorem three_cells {w : World} {g : Nat} {a b d x y z : Value} (h0 : w.cell? ⟨g, 0, none⟩ = some x) (h1 : w.cell? ⟨g, 1, none⟩ = some y) (h2 : w.cell? ⟨g, 2, none⟩ = some z) :
    (((w.setCell ⟨g, 0, none⟩ a).setCell ⟨g, 1, none⟩ b).setCell ⟨g, 2, none⟩ d).cell? ⟨g, 0, none⟩ = some a ∧ (((w.setCell ⟨g, 0, none⟩ a).setCell ⟨g, 1, none⟩ b).setCell ⟨g, 2, none⟩ d).cell? ⟨g, 1, none⟩ = some b ∧ (((w.setCell ⟨g, 0, none⟩ a).setCell ⟨g, 1, none⟩ b).setCell ⟨g, 2, none⟩ d).cell? ⟨g, 2, none⟩ = some d := by
  obtain ⟨r0, r1⟩ := two_cells (a := a) (b := b) h0 h1
  refine ⟨?_, ?_, ?_⟩
  · rw [World.cell?_setCell_other _ _ _ _ (by simp)]; exact r0
  · rw [World.cell?_setCell_other _ _ _ _ (by simp)]; exact r1
  · exact World.cell?_setCell_same (u := z) _ _ _ ((World.cell?_setCell_other _ _ _ _ (by simp)).trans ((World.cell?_setCell_other _ _ _ _ (by simp)).trans h2))
/-- Other promises are put into the box. -/
theorem DQ.put (h : DQ w0 wr g P D K n A c bs A2 c2 ps) (own : wr.ownsRow (D + 1) 40 4 (.slice A3 ps3.length c3) ps3.length (prCs ps3)) :
    DQ w0 (((wr.setCell ⟨D, 0, none⟩ (.int .i64 n)).setCell ⟨D, 1, none⟩ (.slice A bs.length c)).setCell ⟨D, 2, none⟩ (.slice A3 ps3.length c3)) g P D K n A c bs A3 c3 ps3 := by
  have h0 := h.ds.js.P0; have h2 := h.PD; have h3 := h.ex
  obtain ⟨r0, r1, r2⟩ := three_cells (a := .int .i64 n) (b := .slice A bs.length c) (d := .slice A3 ps3.length c3) h.d0 h.d1 h.d2
  have nD : (Value.slice A bs.length c).ownBlock ≠ some D := fun e => by have := h.lo _ e; omega
  have nD3 : (Value.slice A3 ps3.length c3).ownBlock ≠ some D := fun e => by have := (own.lt _ e).1; omega
  refine ⟨⟨((h.ds.js.set ⟨D, 0, none⟩ h2 nD _).set ⟨D, 1, none⟩ h2 nD _).set ⟨D, 2, none⟩ h2 nD _, ?_⟩, h2, by simpa using h3, h.lo, r0, r1, r2, fun i => ?_, own_set (own_set (own_set own nD3 _) nD3 _) nD3 _⟩
  · rw [set_other (by dsimp only; omega), set_other (by dsimp only; omega), set_other (by dsimp only; omega)]; exact h.ds.z2
  · rw [← h.df i]; simp
end
theorem pick_dq {w0 : World} {g P D : Nat} {K n : Int} {A A2 : Option Addr} {c c2 : Nat} {bs : List Bd} {ps : List Pr} (m : Int) (w : World) (h : DQ w0 w g P D K n A c bs A2 c2 ps) (hK : 0 ≤ K ∧ K ≤ 1000000000) (hm : -1000000000 ≤ m ∧ m ≤ 1000000000) :
    Calls Try.prog 93 #[.pointer (some ⟨g, 0, none⟩), .int .i64 m] w fun e w' =>
      ∃ v : Int, e = .returned (.int .i64 v) ∧ 0 ≤ v ∧ (1 ≤ m → v < m) ∧ (m < 1 → v = 0) ∧ DQ w0 w' g P D (K + 1) n A c bs A2 c2 ps ∧ w.grownBy w' (some g) ∧ w'.heap.size = w.heap.size := by
  refine (pick_c g K m w hK hm h.ds.js.rd).mono ?_
  rintro e w' ⟨v, rfl, h1, h2, h3, h4, h5, h6⟩
  exact ⟨v, rfl, h1, h2, h3, h.pick h4 h5, h5, h6⟩
/-- The deal's box is made. -/
theorem dq_new {w0 W : World} {g P : Nat} {K n : Int} {A : Option Addr} {c : Nat} {bs : List Bd} {t : TypeId} (h : DS w0 W g P K n A c bs) : DQ w0 (W.alloc (.cells #[.int .i64 n, .slice A bs.length c, .slice none 0 0] t)) g P W.heap.size K n A c bs none 0 [] := by
  have h1 := h.js.P1
  exact ⟨h.alloc _, h1, by simp, fun q hq => (h.js.own.lt q hq).2, by simp [go_sem], by simp [go_sem], by simp [go_sem], fun i => by simp [go_sem], ⟨rfl, .inl ⟨rfl, rfl⟩⟩⟩
/-- A box of zeros for a deal, behind D, in no row of ours. -/
structure ZX (w : World) (D X : Nat) : Prop where
  lo : D < X
  ex : X < w.heap.size
  x0 : w.cell? ⟨X, 0, none⟩ = some (.int .i64 0)
  x1 : w.cell? ⟨X, 1, none⟩ = some (.slice none 0 0)
  x2 : w.cell? ⟨X, 2, none⟩ = some (.slice none 0 0)
  xf : ∀ i, w.frozen? ⟨X, i, none⟩ = false
theorem ZX.grown {w w' : World} {D X : Nat} {row : Option Nat} (h : ZX w D X) (hg : w.grownBy w' row) (hr : row ≠ some X) : ZX w' D X :=
  ⟨h.lo, Nat.lt_of_lt_of_le h.ex hg.size, hg.cell h.x0 (Ne.symm hr), hg.cell h.x1 (Ne.symm hr), hg.cell h.x2 (Ne.symm hr), fun i => (hg.frozen_far ⟨X, i, none⟩ h.ex (Ne.symm hr)).trans (h.xf i)⟩
theorem ZX.below {w w' : World} {D X : Nat} (h : ZX w D X) (hb : Below w.heap.size w w') : ZX w' D X :=
  h.grown (row := none) ⟨hb.os, hb.tape, hb.output, hb.size, fun k hk _ => hb.block k hk⟩ (by simp)
theorem zx_new {w : World} {D : Nat} {t : TypeId} (h : D < w.heap.size) : ZX (w.alloc (.cells #[.int .i64 0, .slice none 0 0, .slice none 0 0] t)) D w.heap.size :=
  ⟨h, by simp, by simp [go_sem], by simp [go_sem], by simp [go_sem], fun i => by simp [go_sem]⟩
theorem infoPm : (Try.prog.info? 40).map (fun i => (i.zero, i.size, i.bytes)) = some (some (.agg #[.int .i64 0, .int .i64 0, .int .i64 0, .int .i64 0]), 4, 32) := by kernel_rfl
theorem prCs_one : ∀ (bs : List Pr), ∀ u ∈ prCs bs, u.oneCell' = true
  | [] => by simp [prCs]
  | x :: l => by
    intro u hu
    simp only [prCs, List.mem_cons] at hu
    rcases hu with rfl | rfl | rfl | rfl | hu
    · rfl
    · rfl
    · rfl
    · rfl
    · exact prCs_one l u hu
theorem prCs_append : ∀ a b : List Pr, prCs (a ++ b) = prCs a ++ prCs b
  | [], _ => rfl
  | x :: l, b => by simp [prCs, prCs_append l b]
theorem own_news {w : World} {base : Nat} {e : TypeId} {size : Nat} {A : Option Addr} {n c : Nat} {cs : List Value} (h : w.ownsRow base e size (.slice A n c) n cs) : NewsAt w A n cs := fun hm => by
  obtain ⟨A2, g, c2, hv, h1, h2, h3⟩ := own_form h
  injection hv with e1 _ e3
  subst e1
  refine ⟨_, h1 hm, fun j u hu => ?_⟩
  rw [add_zero_off, Nat.zero_add]
  exact h3 j u hu
/-- A drawn deal beside a row of promises of the call's own. -/
structure DR (w0 wr : World) (g P D : Nat) (K n : Int) (A : Option Addr) (c : Nat) (bs : List Bd) (A2 : Option Addr) (c2 : Nat) (ps : List Pr) (v : Value) (m : Nat) (cs : List Value) : Prop where
  q : DQ w0 wr g P D K n A c bs A2 c2 ps
  own : wr.ownsRow (D + 1) 40 4 v m cs
/-- Where the floating box is made. -/
def BZ (w : World) (D : Nat) (v u z : Value) : Prop := ∃ X, z = .pointer (some ⟨X, 0, none⟩) ∧ ZX w D X ∧ v.ownBlock ≠ some X ∧ u.ownBlock ≠ some X
section
variable {w0 wr w' : World} {g P D m m' : Nat} {K K' n : Int} {A A2 : Option Addr} {c c2 : Nat} {bs : List Bd} {ps : List Pr} {v v' u z : Value} {cs cs' : List Value} {row : Option Nat}
theorem DR.below (h : DR w0 wr g P D K n A c bs A2 c2 ps v m cs) (hb : Below wr.heap.size wr w') : DR w0 w' g P D K n A c bs A2 c2 ps v m cs := ⟨h.q.below hb, own_below h.own hb⟩
theorem DR.alloc (h : DR w0 wr g P D K n A c bs A2 c2 ps v m cs) (o : Obj) : DR w0 (wr.alloc o) g P D K n A c bs A2 c2 ps v m cs := h.below (by go_grown)
theorem DR.cells (h : DR w0 wr g P D K n A c bs A2 c2 ps v m cs) : wr.cell? ⟨P, 0, none⟩ = some (.int .i64 n) ∧ wr.cell? ⟨P, 1, none⟩ = some (.slice A bs.length c) ∧ wr.cell? ⟨D, 2, none⟩ = some (.slice A2 ps.length c2) := ⟨h.q.ds.js.c0, h.q.ds.js.c1, h.q.d2⟩
theorem DR.empty (h : DR w0 wr g P D K n A c bs A2 c2 ps v m cs) {t : TypeId} (ht : t = 40) : DR w0 (wr.alloc (.cells #[] t)) g P D K n A c bs A2 c2 ps (.slice (some ⟨wr.heap.size, 0, none⟩) 0 0) 0 [] := by
  subst ht
  exact ⟨h.q.alloc _, own_empty (at_new rfl) (by have := h.q.ex; omega)⟩
theorem DR.picked (h : DR w0 wr g P D K n A c bs A2 c2 ps v m cs) (hq : DQ w0 w' g P D K' n A c bs A2 c2 ps) (hg : wr.grownBy w' (some g)) : DR w0 w' g P D K' n A c bs A2 c2 ps v m cs := by
  have := h.q.ds.js.lt; have := h.q.ds.js.P0; have := h.q.PD
  exact ⟨hq, own_far h.own hg (by omega)⟩
theorem DR.app (h : DR w0 wr g P D K n A c bs A2 c2 ps v m cs) (hg : wr.grownBy w' v.ownBlock) (hne : ∀ k, v.ownBlock = some k → (Value.slice A2 ps.length c2).ownBlock ≠ some k) (hown : w'.ownsRow (D + 1) 40 4 v' m' cs') : DR w0 w' g P D K n A c bs A2 c2 ps v' m' cs' :=
  ⟨h.q.other hg (fun k e => ⟨(h.own.lt k e).1, hne k e⟩), hown⟩
theorem BZ.grown (h : BZ wr D v u z) (hg : wr.grownBy w' row) (hr : ∀ X, D < X → X < wr.heap.size → v.ownBlock ≠ some X → row ≠ some X) : BZ w' D v u z := by
  obtain ⟨X, hz, hX, hv, hu⟩ := h
  exact ⟨X, hz, hX.grown hg (hr X hX.lo hX.ex hv), hv, hu⟩
theorem BZ.picked (h : BZ wr D v u z) (hg : wr.grownBy w' (some g)) (hD : g < D) : BZ w' D v u z := h.grown hg (fun X h1 _ _ e => by injection e; omega)
theorem BZ.below (h : BZ wr D v u z) (hb : Below wr.heap.size wr w') : BZ w' D v u z := by
  obtain ⟨X, hz, hX, hv, hu⟩ := h
  exact ⟨X, hz, hX.below hb, hv, hu⟩
theorem BZ.fresh (h : BZ wr D v u z) (o : Obj) (hv : v'.ownBlock = some wr.heap.size) : BZ (wr.alloc o) D v' u z := by
  obtain ⟨X, hz, hX, _, hu⟩ := h
  exact ⟨X, hz, hX.below (by go_grown), by rw [hv]; have := hX.ex; intro e; injection e; omega, hu⟩
theorem BZ.app (h : BZ wr D v u z) (hg : wr.grownBy w' v.ownBlock) (hat : v'.ownBlock = v.ownBlock ∨ v'.ownBlock = some wr.heap.size) : BZ w' D v' u z := by
  obtain ⟨X, hz, hX, hv, hu⟩ := h
  refine ⟨X, hz, hX.grown hg hv, ?_, hu⟩
  rcases hat with e | e <;> rw [e]
  · exact hv
  · have := hX.ex; intro e; injection e; omega
theorem DR.bz {t : TypeId} (h : DR w0 wr g P D K n A c bs A2 c2 ps v m cs) : BZ (wr.alloc (.cells #[.int .i64 0, .slice none 0 0, .slice none 0 0] t)) D v (.slice A2 ps.length c2) (.pointer (some ⟨wr.heap.size, 0, none⟩)) :=
  ⟨_, rfl, zx_new h.q.ex, fun e => by have := (h.own.lt _ e).2; omega, fun e => by have := (h.q.own.lt _ e).2; omega⟩
theorem DR.gD (h : DR w0 wr g P D K n A c bs A2 c2 ps v m cs) : g < D := by have := h.q.ds.js.lt; have := h.q.ds.js.P0; have := h.q.PD; omega
/-- .. and what is to be appended. -/
structure DV (w0 wr : World) (g P D : Nat) (K n : Int) (A : Option Addr) (c : Nat) (bs : List Bd) (A2 : Option Addr) (c2 : Nat) (ps : List Pr) (v : Value) (m : Nat) (cs : List Value) (V : Nat) (ds : List Value) : Prop where
  d : DR w0 wr g P D K n A c bs A2 c2 ps v m cs
  cb : CB wr V ds
  nv : v.ownBlock ≠ some V
theorem DV.alloc {V : Nat} {ds : List Value} (h : DV w0 wr g P D K n A c bs A2 c2 ps v m cs V ds) (o : Obj) : DV w0 (wr.alloc o) g P D K n A c bs A2 c2 ps v m cs V ds := ⟨h.d.alloc o, h.cb.alloc o, h.nv⟩
theorem DV.cells {V : Nat} {ds : List Value} (h : DV w0 wr g P D K n A c bs A2 c2 ps v m cs V ds) : wr.cell? ⟨P, 0, none⟩ = some (.int .i64 n) ∧ wr.cell? ⟨P, 1, none⟩ = some (.slice A bs.length c) ∧ wr.cell? ⟨D, 2, none⟩ = some (.slice A2 ps.length c2) := h.d.cells
theorem DV.bz {V : Nat} {ds : List Value} {t : TypeId} (h : DV w0 wr g P D K n A c bs A2 c2 ps v m cs V ds) : BZ (wr.alloc (.cells #[.int .i64 0, .slice none 0 0, .slice none 0 0] t)) D v (.slice A2 ps.length c2) (.pointer (some ⟨wr.heap.size, 0, none⟩)) := h.d.bz
theorem CB.news {w : World} {V m : Nat} {ds : List Value} (h : CB w V ds) : NewsAt w (some ⟨V, 0, none⟩) m ds := fun _ => ⟨_, rfl, fun j u hu => by rw [add_zero_off, Nat.zero_add]; exact h.c j u hu⟩
theorem dv_new (h : DR w0 wr g P D K n A c bs A2 c2 ps v m cs) (ds : List Value) (t : TypeId) : DV w0 (wr.alloc (.cells ds.toArray t)) g P D K n A c bs A2 c2 ps v m cs wr.heap.size ds :=
  ⟨h.alloc _, cb_new wr ds t, fun e => by have := (h.own.lt _ e).2; omega⟩
end
/-- What a drawn promise's numbers are. -/
def SmP (x : Pr) : Prop := (0 ≤ x.l ∧ x.l ≤ 6) ∧ (0 ≤ x.h ∧ x.h ≤ 12)
/-- A drawn deal in a box X behind D. -/
structure XQ (w : World) (D X : Nat) (n : Int) (A : Option Addr) (c : Nat) (bs : List Bd) (A3 : Option Addr) (c3 : Nat) (ps3 : List Pr) : Prop where
  lo : D < X
  ex : X < w.heap.size
  x0 : w.cell? ⟨X, 0, none⟩ = some (.int .i64 n)
  x1 : w.cell? ⟨X, 1, none⟩ = some (.slice A bs.length c)
  x2 : w.cell? ⟨X, 2, none⟩ = some (.slice A3 ps3.length c3)
  own : w.ownsRow (D + 1) 40 4 (.slice A3 ps3.length c3) ps3.length (prCs ps3)
  ne : (Value.slice A3 ps3.length c3).ownBlock ≠ some X
theorem XQ.below {w w' : World} {D X : Nat} {n : Int} {A : Option Addr} {c : Nat} {bs : List Bd} {A3 : Option Addr} {c3 : Nat} {ps3 : List Pr} (h : XQ w D X n A c bs A3 c3 ps3) (hb : Below w.heap.size w w') : XQ w' D X n A c bs A3 c3 ps3 :=
  ⟨h.lo, Nat.lt_of_lt_of_le h.ex hb.size, ((bcell hb).1 _ _ h.ex).trans h.x0, ((bcell hb).1 _ _ h.ex).trans h.x1, ((bcell hb).1 _ _ h.ex).trans h.x2, own_below h.own hb, h.ne⟩
theorem DR.put {w0 wr : World} {g P D m X : Nat} {K n : Int} {A A2 A5 : Option Addr} {c c2 c5 : Nat} {bs : List Bd} {ps qs : List Pr} (h : DR w0 wr g P D K n A c bs A2 c2 ps (.slice A5 m c5) m (prCs qs)) (hq : qs.length = m) (hX : ZX wr D X) (hv : (Value.slice A5 m c5).ownBlock ≠ some X) (hu : (Value.slice A2 ps.length c2).ownBlock ≠ some X) :
    DQ w0 (((wr.setCell ⟨X, 0, none⟩ (.int .i64 n)).setCell ⟨X, 1, none⟩ (.slice A bs.length c)).setCell ⟨X, 2, none⟩ (.slice A5 m c5)) g P D K n A c bs A2 c2 ps ∧ XQ (((wr.setCell ⟨X, 0, none⟩ (.int .i64 n)).setCell ⟨X, 1, none⟩ (.slice A bs.length c)).setCell ⟨X, 2, none⟩ (.slice A5 m c5)) D X n A c bs A5 c5 qs := by
  subst hq
  obtain ⟨r0, r1, r2⟩ := three_cells (a := .int .i64 n) (b := .slice A bs.length c) (d := .slice A5 qs.length c5) hX.x0 hX.x1 hX.x2
  have hr : ∀ k, some X = some k → D < k ∧ (Value.slice A2 ps.length c2).ownBlock ≠ some k := fun k e => by injection e with e; subst e; exact ⟨hX.lo, hu⟩
  refine ⟨((h.q.other (grown_set wr ⟨X, 0, none⟩ _) hr).other (grown_set _ ⟨X, 1, none⟩ _) hr).other (grown_set _ ⟨X, 2, none⟩ _) hr, ⟨hX.lo, by simpa using hX.ex, r0, r1, r2, own_set (own_set (own_set h.own hv _) hv _) hv _, hv⟩⟩
theorem bds_off {w : World} {B b o : Nat} {A : Option Addr} {bs : List Bd} (h : BdsR w B b o A bs) (p : Addr) (v : Value) (hp : 0 < bs.length → b ≠ p.block) : BdsR (w.setCell p v) B b o A bs := by
  have hl : ∀ (j : Nat) (x : Bd), bs[j]? = some x → p.block ≠ b := fun j x hx => Ne.symm (hp (by have := (List.getElem?_eq_some_iff.1 hx).1; omega))
  exact ⟨h.addr, h.lt, fun j x hx => (set_other (hl j x hx)).trans (h.c0 j x hx), fun j x hx => (set_other (hl j x hx)).trans (h.c1 j x hx), fun j x hx => (set_other (hl j x hx)).trans (h.c2 j x hx)⟩
theorem cs_off {w : World} {B b o n : Nat} {A : Option Addr} {cs : List Value} (h : CsR w B b o A n cs) (p : Addr) (v : Value) (hp : 0 < n → b ≠ p.block) : CsR (w.setCell p v) B b o A n cs :=
  ⟨h.addr, h.lt, fun j u hu => (set_other (Ne.symm (hp (h.pos hu)))).trans (h.cell j u hu), h.none⟩
/-- A drawn deal's box, and the result's box, at the end. -/
structure FD (w0 wx : World) (g D : Nat) (K n : Int) (A : Option Addr) (c : Nat) (bs : List Bd) (A2 : Option Addr) (c2 : Nat) (ps : List Pr) : Prop where
  rd : RdO wx g K
  gr : w0.grownBy wx (some g)
  lt : g < w0.heap.size
  lo : w0.heap.size < D
  ex : D < wx.heap.size
  z0 : wx.cell? ⟨w0.heap.size, 0, none⟩ = some (.int .i64 0)
  z1 : wx.cell? ⟨w0.heap.size, 1, none⟩ = some (.slice none 0 0)
  z2 : wx.cell? ⟨w0.heap.size, 2, none⟩ = some (.slice none 0 0)
  zf : ∀ i, wx.frozen? ⟨w0.heap.size, i, none⟩ = false
  d0 : wx.cell? ⟨D, 0, none⟩ = some (.int .i64 n)
  d1 : wx.cell? ⟨D, 1, none⟩ = some (.slice A bs.length c)
  d2 : wx.cell? ⟨D, 2, none⟩ = some (.slice A2 ps.length c2)
  r1 : ∃ b, BdsR wx wx.heap.size b 0 A bs ∧ (0 < bs.length → w0.heap.size < b)
  r2 : ∃ b, CsR wx wx.heap.size b 0 A2 ps.length (prCs ps) ∧ (0 < ps.length → w0.heap.size < b)
  cp : ps.length ≤ c2
theorem own_cap {w : World} {base : Nat} {e : TypeId} {size : Nat} {A : Option Addr} {n c : Nat} {cs : List Value} (h : w.ownsRow base e size (.slice A n c) n cs) : n ≤ c := by
  obtain ⟨A2, g, c2, hv, h1, _, _⟩ := own_form h
  injection hv with e1 _ e3
  subst e1; subst e3
  rcases Nat.eq_zero_or_pos n with h0 | h0
  · omega
  · rw [h1 h0] at h
    obtain ⟨_, _, _, _, h5, _⟩ := own_row h
    exact h5
section
variable {w0 wr w' : World} {g P D : Nat} {K K' n : Int} {A A2 A3 : Option Addr} {c c2 c3 : Nat} {bs : List Bd} {ps ps3 : List Pr}
theorem DQ.rows (h : DQ w0 wr g P D K n A c bs A2 c2 ps) : (∃ b, BdsR wr wr.heap.size b 0 A bs ∧ (0 < bs.length → w0.heap.size < b ∧ b < D)) ∧ (∃ b, CsR wr wr.heap.size b 0 A2 ps.length (prCs ps) ∧ (0 < ps.length → D < b)) := by
  constructor
  · obtain ⟨b, hb⟩ := h.ds.js.reads
    refine ⟨b, hb, fun h0 => ?_⟩
    have e := hb.addr h0
    have e2 : (Value.slice A bs.length c).ownBlock = some b := by rw [e]; simp [Value.ownBlock]
    have h1 := (h.ds.js.own.lt b e2).1
    have h2 := h.ds.js.ne0
    have h3 := h.lo b e2
    rw [e2] at h2
    have : b ≠ w0.heap.size := fun e => h2 (by rw [e])
    omega
  · obtain ⟨b, hb⟩ := own_csR h.own
    refine ⟨b, hb, fun h0 => ?_⟩
    have e := hb.addr h0
    have e2 : (Value.slice A2 ps.length c2).ownBlock = some b := by rw [e]; simp [Value.ownBlock]
    have h1 := (h.own.lt b e2).1
    omega
theorem DQ.fd (h : DQ w0 wr g P D K n A c bs A2 c2 ps) : FD w0 wr g D K n A c bs A2 c2 ps := by
  obtain ⟨⟨b, hb, h1⟩, b2, hb2, h2⟩ := h.rows
  have hP := h.ds.js.P0; have hD := h.PD
  exact ⟨h.ds.js.rd, h.ds.js.gr, h.ds.js.lt, by omega, h.ex, h.ds.js.z0, h.ds.js.z1, h.ds.z2, h.ds.js.zf, h.d0, h.d1, h.d2, ⟨b, hb, fun h0 => (h1 h0).1⟩, ⟨b2, hb2, fun h0 => by have := h2 h0; omega⟩, own_cap h.own⟩
/-- The plan is taken away. -/
theorem DQ.bare (h : DQ w0 wr g P D K n A c bs A2 c2 ps) : FD w0 ((wr.setCell ⟨D, 0, none⟩ (.int .i64 0)).setCell ⟨D, 1, none⟩ (.slice none 0 0)) g D K 0 none 0 [] A2 c2 ps := by
  obtain ⟨⟨b, hb, h1⟩, b2, hb2, h2⟩ := h.rows
  have hP := h.ds.js.P0; have hD := h.PD; have hl := h.ds.js.lt
  obtain ⟨r0, r1⟩ := two_cells (a := .int .i64 0) (b := .slice none 0 0) h.d0 h.d1
  refine ⟨(h.ds.js.rd.set _ (by dsimp only; omega) _).set _ (by dsimp only; omega) _, gr_set (gr_set h.ds.js.gr _ (.inl (by dsimp only; omega)) _) _ (.inl (by dsimp only; omega)) _, hl, by omega, by simpa using h.ex, ?_, ?_, ?_, fun i => ?_, r0, r1, ?_, ⟨0, BdsR.nil _ _ _, by simp⟩, ⟨b2, ?_, fun h0 => by have := h2 h0; omega⟩, own_cap h.own⟩
  · rw [set_other (by dsimp only; omega), set_other (by dsimp only; omega)]; exact h.ds.js.z0
  · rw [set_other (by dsimp only; omega), set_other (by dsimp only; omega)]; exact h.ds.js.z1
  · rw [set_other (by dsimp only; omega), set_other (by dsimp only; omega)]; exact h.ds.z2
  · rw [← h.ds.js.zf i]; simp
  · rw [World.cell?_setCell_other _ _ _ _ (by simp), World.cell?_setCell_other _ _ _ _ (by simp)]; exact h.d2
  · have h3 := cs_off (cs_off hb2 ⟨D, 0, none⟩ (.int .i64 0) (fun h0 => by have := h2 h0; dsimp only; omega)) ⟨D, 1, none⟩ (.slice none 0 0) (fun h0 => by have := h2 h0; dsimp only; omega)
    simpa using h3
/-- A promise more. -/
theorem DQ.app (h : DQ w0 wr g P D K n A c bs A2 c2 ps) (hg : wr.grownBy w' (Value.slice A2 ps.length c2).ownBlock) (hown : w'.ownsRow (D + 1) 40 4 (.slice A3 ps3.length c3) ps3.length (prCs ps3)) :
    w'.cell? ⟨D, 2, none⟩ = some (.slice A2 ps.length c2) ∧ w'.frozen? ⟨D, 2, none⟩ = false ∧ DQ w0 (w'.setCell ⟨D, 2, none⟩ (.slice A3 ps3.length c3)) g P D K n A c bs A3 c3 ps3 := by
  have h2 := h.PD; have h3 := h.ex; have h0 := h.ds.js.P0
  have hq := own_hi h.own
  have k1 : some D ≠ (Value.slice A2 ps.length c2).ownBlock := fun e => by have := (hq _ e.symm).1; omega
  have nD : (Value.slice A bs.length c).ownBlock ≠ some D := fun e => by have := h.lo _ e; omega
  have nD3 : (Value.slice A3 ps3.length c3).ownBlock ≠ some D := fun e => by have := (hown.lt _ e).1; omega
  have e2 := hg.cell h.d2 k1
  have f2 : w'.frozen? ⟨D, 2, none⟩ = false := (hg.frozen_far ⟨D, 2, none⟩ h3 k1).trans (h.df 2)
  have hj := h.ds.js.other hg (fun k e => ⟨by have := (hq k e).1; omega, fun e2 => by have := h.lo _ e2; have := (hq k e).1; omega⟩)
  refine ⟨e2, f2, ⟨⟨hj.set ⟨D, 2, none⟩ h2 nD _, ?_⟩, h2, by simpa using Nat.lt_of_lt_of_le h3 hg.size, h.lo, ?_, ?_, World.cell?_setCell_same _ _ _ e2, fun i => ?_, own_set hown nD3 _⟩⟩
  · have k0 : some w0.heap.size ≠ (Value.slice A2 ps.length c2).ownBlock := fun e => by have := (hq _ e.symm).1; omega
    rw [set_other (by dsimp only; omega)]; exact hg.cell h.ds.z2 k0
  · rw [World.cell?_setCell_other _ _ _ _ (by simp)]; exact hg.cell h.d0 k1
  · rw [World.cell?_setCell_other _ _ _ _ (by simp)]; exact hg.cell h.d1 k1
  · have := (hg.frozen_far ⟨D, i, none⟩ h3 k1).trans (h.df i)
    rw [← this]; simp
theorem FD.fin (h : FD w0 wr g D K n A c bs A2 c2 ps) :
    (((wr.setCell ⟨w0.heap.size, 0, none⟩ (.int .i64 n)).setCell ⟨w0.heap.size, 1, none⟩ (.slice A bs.length c)).setCell ⟨w0.heap.size, 2, none⟩ (.slice A2 ps.length c2)).cell? ⟨w0.heap.size, 0, none⟩ = some (.int .i64 n) ∧
    (((wr.setCell ⟨w0.heap.size, 0, none⟩ (.int .i64 n)).setCell ⟨w0.heap.size, 1, none⟩ (.slice A bs.length c)).setCell ⟨w0.heap.size, 2, none⟩ (.slice A2 ps.length c2)).cell? ⟨w0.heap.size, 1, none⟩ = some (.slice A bs.length c) ∧
    (((wr.setCell ⟨w0.heap.size, 0, none⟩ (.int .i64 n)).setCell ⟨w0.heap.size, 1, none⟩ (.slice A bs.length c)).setCell ⟨w0.heap.size, 2, none⟩ (.slice A2 ps.length c2)).cell? ⟨w0.heap.size, 2, none⟩ = some (.slice A2 ps.length c2) ∧
    (∃ b, BdsR (((wr.setCell ⟨w0.heap.size, 0, none⟩ (.int .i64 n)).setCell ⟨w0.heap.size, 1, none⟩ (.slice A bs.length c)).setCell ⟨w0.heap.size, 2, none⟩ (.slice A2 ps.length c2)) (((wr.setCell ⟨w0.heap.size, 0, none⟩ (.int .i64 n)).setCell ⟨w0.heap.size, 1, none⟩ (.slice A bs.length c)).setCell ⟨w0.heap.size, 2, none⟩ (.slice A2 ps.length c2)).heap.size b 0 A bs ∧ (0 < bs.length → w0.heap.size < b)) ∧
    (∃ b, CsR (((wr.setCell ⟨w0.heap.size, 0, none⟩ (.int .i64 n)).setCell ⟨w0.heap.size, 1, none⟩ (.slice A bs.length c)).setCell ⟨w0.heap.size, 2, none⟩ (.slice A2 ps.length c2)) (((wr.setCell ⟨w0.heap.size, 0, none⟩ (.int .i64 n)).setCell ⟨w0.heap.size, 1, none⟩ (.slice A bs.length c)).setCell ⟨w0.heap.size, 2, none⟩ (.slice A2 ps.length c2)).heap.size b 0 A2 ps.length (prCs ps) ∧ (0 < ps.length → w0.heap.size < b)) ∧
    RdO (((wr.setCell ⟨w0.heap.size, 0, none⟩ (.int .i64 n)).setCell ⟨w0.heap.size, 1, none⟩ (.slice A bs.length c)).setCell ⟨w0.heap.size, 2, none⟩ (.slice A2 ps.length c2)) g K ∧
    w0.grownBy (((wr.setCell ⟨w0.heap.size, 0, none⟩ (.int .i64 n)).setCell ⟨w0.heap.size, 1, none⟩ (.slice A bs.length c)).setCell ⟨w0.heap.size, 2, none⟩ (.slice A2 ps.length c2)) (some g) := by
  have hl := h.lt
  obtain ⟨r0, r1, r2⟩ := three_cells (a := .int .i64 n) (b := .slice A bs.length c) (d := .slice A2 ps.length c2) h.z0 h.z1 h.z2
  obtain ⟨b, hb, h1⟩ := h.r1
  obtain ⟨b2, hb2, h2⟩ := h.r2
  have hs : (((wr.setCell ⟨w0.heap.size, 0, none⟩ (.int .i64 n)).setCell ⟨w0.heap.size, 1, none⟩ (.slice A bs.length c)).setCell ⟨w0.heap.size, 2, none⟩ (.slice A2 ps.length c2)).heap.size = wr.heap.size := by simp
  refine ⟨r0, r1, r2, ⟨b, ?_, h1⟩, ⟨b2, ?_, h2⟩, ((h.rd.set _ (by dsimp only; omega) _).set _ (by dsimp only; omega) _).set _ (by dsimp only; omega) _, gr_set (gr_set (gr_set h.gr _ (.inl (Nat.le_refl _)) _) _ (.inl (Nat.le_refl _)) _) _ (.inl (Nat.le_refl _)) _⟩
  · rw [hs]; exact bds_off (bds_off (bds_off hb _ _ (fun h0 => by have := h1 h0; dsimp only; omega)) _ _ (fun h0 => by have := h1 h0; dsimp only; omega)) _ _ (fun h0 => by have := h1 h0; dsimp only; omega)
  · rw [hs]; exact cs_off (cs_off (cs_off hb2 _ _ (fun h0 => by have := h2 h0; dsimp only; omega)) _ _ (fun h0 => by have := h2 h0; dsimp only; omega)) _ _ (fun h0 => by have := h2 h0; dsimp only; omega)
end
theorem smP_snoc {ps : List Pr} {y : Pr} (H : Hid (∀ x ∈ ps, SmP x)) (h : SmP y) : Hid (∀ x ∈ ps ++ [y], SmP x) := by
  intro x hx
  rcases List.mem_append.1 hx with h1 | h1
  · exact H.out x h1
  · rw [List.mem_singleton] at h1; subst h1; exact h
end Go.Proofs.Ytdijfkpccbkdfaa
