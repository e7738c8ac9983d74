/-
  A drawn deed in its box.
  A drawn desk in its box.
-/
import Derived.Test.YtmnajkhoacogjaaD2
import Derived.Test.YtmnajkhoacogjaaR75
namespace Go.Proofs.Ytmnajkhoacogjaa
set_option linter.unusedVariables false
set_option linter.unusedSimpArgs false
open Go Go.RowKit Pp

def Zd : List Value := [.int .i64 0, .int .i64 0, .int .i64 0, .int .i64 0, .string ⟨#[]⟩]
/-- The reader; a plan in its box; a box that is still zero. -/
structure DJ (w wx : World) (g : Nat) (K : Int) (P : Nat) (n : Int) (A : Option Addr) (L c Y : Nat) : Prop where
  rd : RdO wx g K
  gr : w.grownBy wx (some g)
  gl : g < w.heap.size
  pl : w.heap.size ≤ P
  pe : P < wx.heap.size
  p0 : wx.cell? ⟨P, 0, none⟩ = some (.int .i64 n)
  p1 : wx.cell? ⟨P, 1, none⟩ = some (.slice A L c)
  yl : w.heap.size ≤ Y
  ye : Y < wx.heap.size
  y : ∀ i v, Zd[i]? = some v → wx.cell? ⟨Y, i, none⟩ = some v
  yf : ∀ i, wx.frozen? ⟨Y, i, none⟩ = false
section
variable {w wx w' : World} {g P L c Y : Nat} {K K' n : Int} {A : Option Addr}
theorem DJ.more (h : DJ w wx g K P n A L c Y) (hK : K ≤ K') : DJ w wx g K' P n A L c Y := { h with rd := h.rd.more hK }
theorem DJ.grow {row : Option Nat} (h : DJ w wx g K P n A L c Y) (hR : RdO w' g K') (hg : wx.grownBy w' row) (hr : ∀ k, row = some k → k = g ∨ (w.heap.size ≤ k ∧ k ≠ P ∧ k ≠ Y)) : DJ w w' g K' P n A L c Y := by
  have hgl := h.gl
  have hpl := h.pl
  have hyl := h.yl
  have hP : some P ≠ row := fun e => by have := hr P e.symm; omega
  have hY : some Y ≠ row := fun e => by have := hr Y e.symm; omega
  exact ⟨hR, gr_then h.gr hg (fun k e => by have := hr k e; omega), h.gl, h.pl, Nat.lt_of_lt_of_le h.pe hg.size, (hg.cell_far ⟨P, 0, none⟩ h.pe hP).trans h.p0, (hg.cell_far ⟨P, 1, none⟩ h.pe hP).trans h.p1, h.yl, Nat.lt_of_lt_of_le h.ye hg.size,
    fun i v e => (hg.cell_far ⟨Y, i, none⟩ h.ye hY).trans (h.y i v e), fun i => (hg.frozen_far ⟨Y, i, none⟩ h.ye hY).trans (h.yf i)⟩
theorem DJ.pick (h : DJ w wx g K P n A L c Y) (hR : RdO w' g K') (hg : wx.grownBy w' (some g)) : DJ w w' g K' P n A L c Y := h.grow hR hg (fun k e => .inl (by injection e with e; exact e.symm))
theorem DJ.below (h : DJ w wx g K P n A L c Y) (hb : Below wx.heap.size wx w') : DJ w w' g K P n A L c Y := h.grow (h.rd.below hb) (bel_grown hb) (fun k e => by cases e)
theorem DJ.alloc (h : DJ w wx g K P n A L c Y) (o : Obj) : DJ w (wx.alloc o) g K P n A L c Y := h.below (by go_grown)
end
/-- And a deed in a box of one's own. -/
structure DX (w wx : World) (g : Nat) (K : Int) (P : Nat) (n : Int) (A : Option Addr) (L c Y X : Nat) (vs : List Value) : Prop where
  j : DJ w wx g K P n A L c Y
  xl : w.heap.size ≤ X
  xe : X < wx.heap.size
  xp : X ≠ P
  xy : X ≠ Y
  x : ∀ i v, vs[i]? = some v → wx.cell? ⟨X, i, none⟩ = some v
  xf : ∀ i, wx.frozen? ⟨X, i, none⟩ = false
section
variable {w wx w' : World} {g P L c Y X : Nat} {K K' n : Int} {A : Option Addr} {vs : List Value}
theorem DX.more (h : DX w wx g K P n A L c Y X vs) (hK : K ≤ K') : DX w wx g K' P n A L c Y X vs := { h with j := h.j.more hK }
theorem DX.pick (h : DX w wx g K P n A L c Y X vs) (hR : RdO w' g K') (hg : wx.grownBy w' (some g)) : DX w w' g K' P n A L c Y X vs := by
  have hxl := h.xl
  have hgl := h.j.gl
  have hX : some X ≠ some g := fun e => by injection e with e; omega
  exact ⟨h.j.pick hR hg, h.xl, Nat.lt_of_lt_of_le h.xe hg.size, h.xp, h.xy, fun i v e => (hg.cell_far ⟨X, i, none⟩ h.xe hX).trans (h.x i v e), fun i => (hg.frozen_far ⟨X, i, none⟩ h.xe hX).trans (h.xf i)⟩
theorem DX.below (h : DX w wx g K P n A L c Y X vs) (hb : Below wx.heap.size wx w') : DX w w' g K P n A L c Y X vs :=
  ⟨h.j.below hb, h.xl, Nat.lt_of_lt_of_le h.xe hb.size, h.xp, h.xy, fun i v e => ((bcell hb).1 _ _ h.xe).trans (h.x i v e), fun i => ((bcell hb).2 _ _ h.xe).trans (h.xf i)⟩
theorem DX.set (h : DX w wx g K P n A L c Y X vs) (i : Nat) (hi : i < vs.length) (v : Value) : DX w (wx.setCell ⟨X, i, none⟩ v) g K P n A L c Y X (vs.set i v) := by
  have hxl := h.xl
  have hgl := h.j.gl
  refine ⟨h.j.grow (h.j.rd.set ⟨X, i, none⟩ (by show g < X; omega) v) (grown_set wx ⟨X, i, none⟩ v) (fun k e => .inr (by injection e with e; exact ⟨by rw [← e]; exact h.xl, by rw [← e]; exact h.xp, by rw [← e]; exact h.xy⟩)), h.xl, by simpa using h.xe, h.xp, h.xy, fun j u e => ?_, fun j => by rw [← h.xf j]; simp⟩
  by_cases hj : j = i
  · subst hj
    rw [List.getElem?_set_self hi] at e
    injection e with e
    subst e
    exact World.cell?_setCell_same _ _ _ (h.x j _ (List.getElem?_eq_getElem hi))
  · rw [List.getElem?_set_ne (fun e => hj e.symm)] at e
    rw [World.cell?_setCell_other _ _ _ _ (by first | (simp; done) | (simp; exact fun e => hj e.symm))]
    exact h.x j u e
/-- A deed is put into the zero box, and handed back. -/
theorem DX.fin {k a1 a2 a3 : Int} {s : ByteArray} (h : DX w wx g K P n A L c Y X vs) :
    ∀ W, W = ((((wx.setCell ⟨Y, 0, none⟩ (.int .i64 k)).setCell ⟨Y, 1, none⟩ (.int .i64 a1)).setCell ⟨Y, 2, none⟩ (.int .i64 a2)).setCell ⟨Y, 3, none⟩ (.int .i64 a3)).setCell ⟨Y, 4, none⟩ (.string s) →
    W.cell? ⟨Y, 0, none⟩ = some (.int .i64 k) ∧ W.cell? ⟨Y, 1, none⟩ = some (.int .i64 a1) ∧ W.cell? ⟨Y, 2, none⟩ = some (.int .i64 a2) ∧ W.cell? ⟨Y, 3, none⟩ = some (.int .i64 a3) ∧ W.cell? ⟨Y, 4, none⟩ = some (.string s) ∧ RdO W g K ∧ w.grownBy W (some g) := by
  intro W hW
  have hyl := h.j.yl
  have hgl := h.j.gl
  have y0 := h.j.y 0 _ rfl
  have y1 := h.j.y 1 _ rfl
  have y2 := h.j.y 2 _ rfl
  have y3 := h.j.y 3 _ rfl
  have y4 := h.j.y 4 _ rfl
  have hg : g < (⟨Y, 0, none⟩ : Addr).block := by show g < Y; omega
  subst hW
  refine ⟨?_, ?_, ?_, ?_, ?_, ((((h.j.rd.set ⟨Y, 0, none⟩ hg _).set ⟨Y, 1, none⟩ hg _).set ⟨Y, 2, none⟩ hg _).set ⟨Y, 3, none⟩ hg _).set ⟨Y, 4, none⟩ hg _, gr_set (gr_set (gr_set (gr_set (gr_set h.j.gr _ (.inl hyl) _) _ (.inl hyl) _) _ (.inl hyl) _) _ (.inl hyl) _) _ (.inl hyl) _⟩
  · rw [World.cell?_setCell_other _ _ _ _ (by simp), World.cell?_setCell_other _ _ _ _ (by simp), World.cell?_setCell_other _ _ _ _ (by simp), World.cell?_setCell_other _ _ _ _ (by simp)]
    exact World.cell?_setCell_same _ _ _ y0
  · rw [World.cell?_setCell_other _ _ _ _ (by simp), World.cell?_setCell_other _ _ _ _ (by simp), World.cell?_setCell_other _ _ _ _ (by simp)]
    exact World.cell?_setCell_same _ _ _ (by rw [World.cell?_setCell_other _ _ _ _ (by simp)]; exact y1)
  · rw [World.cell?_setCell_other _ _ _ _ (by simp), World.cell?_setCell_other _ _ _ _ (by simp)]
    exact World.cell?_setCell_same _ _ _ (by rw [World.cell?_setCell_other _ _ _ _ (by simp), World.cell?_setCell_other _ _ _ _ (by simp)]; exact y2)
  · rw [World.cell?_setCell_other _ _ _ _ (by simp)]
    exact World.cell?_setCell_same _ _ _ (by rw [World.cell?_setCell_other _ _ _ _ (by simp), World.cell?_setCell_other _ _ _ _ (by simp), World.cell?_setCell_other _ _ _ _ (by simp)]; exact y3)
  · exact World.cell?_setCell_same _ _ _ (by rw [World.cell?_setCell_other _ _ _ _ (by simp), World.cell?_setCell_other _ _ _ _ (by simp), World.cell?_setCell_other _ _ _ _ (by simp), World.cell?_setCell_other _ _ _ _ (by simp)]; exact y4)
end
/-- The slots that hold something in the midst of the first draw. -/
def AR (w : World) (b : Nat) (wx : World) : Prop := w.heap.size ≤ b ∧ b < wx.heap.size ∧ ∀ j : Nat, j < 10 → ∃ v : Int, wx.cell? ⟨b, j, none⟩ = some (.int .i64 v)
def CX (w : World) (P Y : Nat) (y : Value) (wx : World) : Prop := ∃ X, y = .pointer (some ⟨X, 0, none⟩) ∧ w.heap.size ≤ X ∧ X < wx.heap.size ∧ X ≠ P ∧ X ≠ Y ∧ (∀ i v, Zd[i]? = some v → wx.cell? ⟨X, i, none⟩ = some v) ∧ ∀ i, wx.frozen? ⟨X, i, none⟩ = false
section
variable {w wx w' : World} {g P Y : Nat} {y : Value}
theorem AR.pick {b : Nat} (h : AR w b wx) (hgl : g < w.heap.size) (hg : wx.grownBy w' (some g)) : AR w b w' :=
  ⟨h.1, Nat.lt_of_lt_of_le h.2.1 hg.size, fun j hj => by obtain ⟨v, hv⟩ := h.2.2 j hj; have := h.1; exact ⟨v, far_cell hg hv (by omega)⟩⟩
theorem AR.below {b : Nat} (h : AR w b wx) (hb : Below wx.heap.size wx w') : AR w b w' :=
  ⟨h.1, Nat.lt_of_lt_of_le h.2.1 hb.size, fun j hj => by obtain ⟨v, hv⟩ := h.2.2 j hj; exact ⟨v, ((bcell hb).1 _ _ h.2.1).trans hv⟩⟩
theorem CX.pick (h : CX w P Y y wx) (hgl : g < w.heap.size) (hg : wx.grownBy w' (some g)) : CX w P Y y w' := by
  obtain ⟨X, h1, h2, h3, hp, hy, h4, h5⟩ := h
  have hX : some X ≠ some g := fun e => by injection e with e; omega
  exact ⟨X, h1, h2, Nat.lt_of_lt_of_le h3 hg.size, hp, hy, fun i v e => (hg.cell_far ⟨X, i, none⟩ h3 hX).trans (h4 i v e), fun i => (hg.frozen_far ⟨X, i, none⟩ h3 hX).trans (h5 i)⟩
theorem CX.below (h : CX w P Y y wx) (hb : Below wx.heap.size wx w') : CX w P Y y w' := by
  obtain ⟨X, h1, h2, h3, hp, hy, h4, h5⟩ := h
  exact ⟨X, h1, h2, Nat.lt_of_lt_of_le h3 hb.size, hp, hy, fun i v e => ((bcell hb).1 _ _ h3).trans (h4 i v e), fun i => ((bcell hb).2 _ _ h3).trans (h5 i)⟩
theorem cx_new {t : TypeId} (hw : w.heap.size ≤ wx.heap.size) (hP : P < wx.heap.size) (hY : Y < wx.heap.size) : CX w P Y (.pointer (some ⟨wx.heap.size, 0, none⟩)) (wx.alloc (.cells #[.int .i64 0, .int .i64 0, .int .i64 0, .int .i64 0, .string ⟨#[]⟩] t)) := by
  refine ⟨wx.heap.size, rfl, hw, by simp, by omega, by omega, fun i v e => ?_, fun i => by simp [go_sem]⟩
  match i, e with
  | 0, e => injection e with e; subst e; simp [go_sem]
  | 1, e => injection e with e; subst e; simp [go_sem]
  | 2, e => injection e with e; subst e; simp [go_sem]
  | 3, e => injection e with e; subst e; simp [go_sem]
  | 4, e => injection e with e; subst e; simp [go_sem]
  | i + 5, e => simp [Zd] at e
theorem ar_new {t : TypeId} (hw : w.heap.size ≤ wx.heap.size) : AR w wx.heap.size (wx.alloc (.cells #[.int .i64 0, .int .i64 1, .int .i64 1, .int .i64 1, .int .i64 2, .int .i64 2, .int .i64 3, .int .i64 4, .int .i64 5, .int .i64 6] t)) := by
  refine ⟨hw, by simp, fun j hj => ?_⟩
  match j, hj with
  | 0, _ => exact ⟨0, by simp [go_sem]⟩
  | 1, _ => exact ⟨1, by simp [go_sem]⟩
  | 2, _ => exact ⟨1, by simp [go_sem]⟩
  | 3, _ => exact ⟨1, by simp [go_sem]⟩
  | 4, _ => exact ⟨2, by simp [go_sem]⟩
  | 5, _ => exact ⟨2, by simp [go_sem]⟩
  | 6, _ => exact ⟨3, by simp [go_sem]⟩
  | 7, _ => exact ⟨4, by simp [go_sem]⟩
  | 8, _ => exact ⟨5, by simp [go_sem]⟩
  | 9, _ => exact ⟨6, by simp [go_sem]⟩
  | j + 10, h => omega
theorem dx_of {K n : Int} {A : Option Addr} {L c X : Nat} (h : DJ w wx g K P n A L c Y) (hC : CX w P Y (.pointer (some ⟨X, 0, none⟩)) wx) : DX w wx g K P n A L c Y X Zd := by
  obtain ⟨X', h1, h2, h3, hp, hy, h4, h5⟩ := hC
  injection h1 with h1
  injection h1 with h1
  injection h1 with h1
  subst h1
  exact ⟨h, h2, h3, hp, hy, h4, h5⟩
end
/-- One step of two chains. -/
theorem wpF_two {P : Program} {ops : Array Oper} {Q : Exit → Act → World → Prop} {S : World → Prop} {e f : Nat} {J : World → Prop} {B : Value → World → Prop} {m : Nat} {fl : Bool} {z : Value} {w : World} {L : Bool → Array Bool} {a : Value → Act} (i j : Nat) (hi : i < ops.size) (hj : j < ops.size) (hgi : ops[i].guard = none) (hgj : ops[j].guard = none)
    (hr0 : (Region.ready .any ops (L false)).all (fun k => k == i || k == j || k == f) = true) (he0 : (Region.ready .any ops (L false)).isEmpty = false) (hr1 : (Region.ready .any ops (L true)).all (fun k => k == i || k == j) = true) (he1 : (Region.ready .any ops (L true)).isEmpty = false) (hL : (L false).setIfInBounds f true = L true)
    (hF : Floats P ops Q S e f J B a) (hJ : J w) (hB : fl = true → B z w)
    (h1 : ∀ (fl : Bool) (z : Value) (w : World), J w → (fl = true → B z w) → ∀ K' : Act → World → Prop, Shut (∀ a' w', (i = e ∨ S w') → wpE P .any ops Q S e (fuelF m fl) ((L fl).setIfInBounds i true) a' w' → K' a' w') → Oper.wp P ops[i] (a z) w K' Q)
    (h2 : ∀ (fl : Bool) (z : Value) (w : World), J w → (fl = true → B z w) → ∀ K' : Act → World → Prop, Shut (∀ a' w', (j = e ∨ S w') → wpE P .any ops Q S e (fuelF m fl) ((L fl).setIfInBounds j true) a' w' → K' a' w') → Oper.wp P ops[j] (a z) w K' Q) :
    wpE P .any ops Q S e (fuelF (m + 1) fl) (L fl) (a z) w := by
  have c1 : ∀ (fl : Bool) (z : Value) (w : World), J w → (fl = true → B z w) → wpOp P ops Q i (fun a' w' => (i = e ∨ S w') ∧ wpE P .any ops Q S e (fuelF m fl) ((L fl).setIfInBounds i true) a' w') (a z) w := fun fl z w hJ hB => by
    refine wpOp_step (Array.getElem?_eq_getElem hi) (fun K' hK => ?_)
    rw [if_pos (by unfold Region.wanted; rw [hgi])]
    exact h1 fl z w hJ hB K' (fun a w hS hW => hK a w ⟨hS, hW⟩)
  have c2 : ∀ (fl : Bool) (z : Value) (w : World), J w → (fl = true → B z w) → wpOp P ops Q j (fun a' w' => (j = e ∨ S w') ∧ wpE P .any ops Q S e (fuelF m fl) ((L fl).setIfInBounds j true) a' w') (a z) w := fun fl z w hJ hB => by
    refine wpOp_step (Array.getElem?_eq_getElem hj) (fun K' hK => ?_)
    rw [if_pos (by unfold Region.wanted; rw [hgj])]
    exact h2 fl z w hJ hB K' (fun a w hS hW => hK a w ⟨hS, hW⟩)
  have ht : ∀ z w, J w → B z w → wpE P .any ops Q S e (m + 1) (L true) (a z) w := fun z w hJ hB => by
    refine ⟨fun h0 => (by rw [h0] at he1; cases he1), fun k hk => ?_⟩
    have h1 := List.all_eq_true.1 hr1 k hk
    simp only [Bool.or_eq_true, beq_iff_eq] at h1
    rcases h1 with rfl | rfl
    · exact c1 true z w hJ (fun _ => hB)
    · exact c2 true z w hJ (fun _ => hB)
  cases fl
  · show wpE P .any ops Q S e (m + 1 + 1) (L false) (a z) w
    refine ⟨fun h0 => (by rw [h0] at he0; cases he0), fun k hk => ?_⟩
    have h1 := List.all_eq_true.1 hr0 k hk
    simp only [Bool.or_eq_true, beq_iff_eq] at h1
    rcases h1 with (rfl | rfl) | rfl
    · exact c1 false z w hJ hB
    · exact c2 false z w hJ hB
    · refine hF.2 z w hJ _ (fun z' w' hS' hJ' hB' => ⟨.inr hS', ?_⟩)
      rw [hL]
      exact ht z' w' hJ' hB'
  · exact ht z w hJ (hB rfl)
/-- A stronger word on the world may stand instead. -/
theorem wpE_strong {P : Program} {ops : Array Oper} {Q : Exit → Act → World → Prop} {md : Region.Mode} {S S' : World → Prop} {e : Nat} (hS : ∀ w, S' w → S w) : ∀ (fuel : Nat) (listed : Array Bool) (a : Act) (w : World), wpE P md ops Q S' e fuel listed a w → wpE P md ops Q S e fuel listed a w
  | 0, _, _, _, h => h
  | fuel + 1, _, _, _, h => ⟨h.1, fun i hi => wpOp_mono (fun a' w' h' => ⟨h'.1.elim .inl (fun x => .inr (hS _ x)), wpE_strong hS fuel _ a' w' h'.2⟩) (h.2 i hi)⟩

theorem OwnPs.far {lo g : Nat} {w w' : World} {v : Value} {ps : List Pl} (h : OwnPs lo w v ps) (hg : w.grownBy w' (some g)) (hlt : g < lo) : OwnPs lo w' v ps := by
  obtain ⟨cs, h1, h2⟩ := h
  exact ⟨cs, own_far h1 hg hlt, h2.1, fun j p hp => by
    obtain ⟨h0, A, c, k1, k2⟩ := h2.2 j p hp
    exact ⟨h0, A, c, k1, own_far k2 hg hlt⟩⟩
/-- The reader, a desk in its box X, a box Y that is still zero. -/
structure LD (w wx : World) (g : Nat) (K : Int) (Y X : Nat) (n : Int) (A : Option Addr) (c : Nat) (bs : List Bd) (A2 : Option Addr) (c2 : Nat) (ps : List Pl) : Prop where
  rd : RdO wx g K
  gr : w.grownBy wx (some g)
  gl : g < w.heap.size
  zd : ZD w wx Y
  yl : Y = w.heap.size
  lo : w.heap.size < X
  ex : X < wx.heap.size
  p0 : wx.cell? ⟨X, 0, none⟩ = some (.int .i64 n)
  p1 : wx.cell? ⟨X, 1, none⟩ = some (.slice A bs.length c)
  p2 : wx.cell? ⟨X, 2, none⟩ = some (.slice A2 ps.length c2)
  cf : ∀ i, wx.frozen? ⟨X, i, none⟩ = false
  bx : BoxT wx X 28
  own : OwnB (w.heap.size + 1) wx (.slice A bs.length c) bs
  ops : OwnPs (w.heap.size + 1) wx (.slice A2 ps.length c2) ps
section
variable {w wx w' : World} {g Y X c c2 c2' : Nat} {K K' n : Int} {A A2 A2' : Option Addr} {bs : List Bd} {ps : List Pl}
theorem LD.more (h : LD w wx g K Y X n A c bs A2 c2 ps) (hK : K ≤ K') : LD w wx g K' Y X n A c bs A2 c2 ps := { h with rd := h.rd.more hK }
theorem LD.pick (h : LD w wx g K Y X n A c bs A2 c2 ps) (hR : RdO w' g K') (hg : wx.grownBy w' (some g)) : LD w w' g K' Y X n A c bs A2 c2 ps := by
  have hgl := h.gl
  have hlo := h.lo
  have hyl := h.yl
  have hX : some X ≠ some g := fun e => by injection e with e; omega
  exact ⟨hR, gr_pick h.gr hg, h.gl, h.zd.grown hg (fun k e => by injection e with e; omega), h.yl, h.lo, Nat.lt_of_lt_of_le h.ex hg.size, (hg.cell_far ⟨X, 0, none⟩ h.ex hX).trans h.p0, (hg.cell_far ⟨X, 1, none⟩ h.ex hX).trans h.p1, (hg.cell_far ⟨X, 2, none⟩ h.ex hX).trans h.p2,
    fun i => (hg.frozen_far ⟨X, i, none⟩ h.ex hX).trans (h.cf i), h.bx.grown h.ex hg (fun e => hX e.symm), own_far h.own hg (by omega), h.ops.far hg (by omega)⟩
theorem LD.below (h : LD w wx g K Y X n A c bs A2 c2 ps) (hb : Below wx.heap.size wx w') : LD w w' g K Y X n A c bs A2 c2 ps :=
  ⟨h.rd.below hb, gr_below h.gr hb, h.gl, h.zd.below hb, h.yl, h.lo, Nat.lt_of_lt_of_le h.ex hb.size, ((bcell hb).1 _ _ h.ex).trans h.p0, ((bcell hb).1 _ _ h.ex).trans h.p1, ((bcell hb).1 _ _ h.ex).trans h.p2, fun i => ((bcell hb).2 _ _ h.ex).trans (h.cf i), h.bx.below h.ex hb, own_below h.own hb, h.ops.below hb⟩
theorem LD.alloc (h : LD w wx g K Y X n A c bs A2 c2 ps) (o : Obj) : LD w (wx.alloc o) g K Y X n A c bs A2 c2 ps := h.below (by go_grown)
/-- Another desk is put into it. -/
theorem LD.put {n' : Int} {A' A2' : Option Addr} {c' c2' : Nat} {bs' : List Bd} {ps' : List Pl} (h : LD w wx g K Y X n A c bs A2 c2 ps) (own : OwnB (w.heap.size + 1) wx (.slice A' bs'.length c') bs') (ops : OwnPs (w.heap.size + 1) wx (.slice A2' ps'.length c2') ps') :
    LD w (((wx.setCell ⟨X, 0, none⟩ (.int .i64 n')).setCell ⟨X, 1, none⟩ (.slice A' bs'.length c')).setCell ⟨X, 2, none⟩ (.slice A2' ps'.length c2')) g K Y X n' A' c' bs' A2' c2' ps' := by
  have hgl := h.gl
  have hlo := h.lo
  have hyl := h.yl
  have hb0 := h.bx.set 0 (.int .i64 n')
  have hb1 := hb0.set 1 (.slice A' bs'.length c')
  obtain ⟨r0, r1, r2⟩ := three_cellsD (a := .int .i64 n') (b := .slice A' bs'.length c') (d := .slice A2' ps'.length c2') h.p0 h.p1 h.p2
  have hgX : g < (⟨X, 0, none⟩ : Addr).block := by show g < X; omega
  have hz : ∀ k, some X = some k → k ≠ Y := fun k e => by injection e with e; omega
  refine ⟨((h.rd.set ⟨X, 0, none⟩ hgX _).set ⟨X, 1, none⟩ hgX _).set ⟨X, 2, none⟩ hgX _, gr_set (gr_set (gr_set h.gr _ (.inl (Nat.le_of_lt hlo)) _) _ (.inl (Nat.le_of_lt hlo)) _) _ (.inl (Nat.le_of_lt hlo)) _, h.gl,
    ((h.zd.grown (grown_set wx ⟨X, 0, none⟩ _) hz).grown (grown_set _ ⟨X, 1, none⟩ _) hz).grown (grown_set _ ⟨X, 2, none⟩ _) hz, h.yl, h.lo, by simpa using h.ex, r0, r1, r2, fun i => by rw [← h.cf i]; simp, hb1.set _ _,
    ((own.setBox h.bx _ _).setBox hb0 _ _).setBox hb1 _ _, ((ops.setBox h.bx _ _).setBox hb0 _ _).setBox hb1 _ _⟩
theorem LD.set0 (h : LD w wx g K Y X n A c bs A2 c2 ps) (n' : Int) : LD w (wx.setCell ⟨X, 0, none⟩ (.int .i64 n')) g K Y X n' A c bs A2 c2 ps := by
  have hgl := h.gl
  have hlo := h.lo
  have hyl := h.yl
  refine ⟨h.rd.set ⟨X, 0, none⟩ (by show g < X; omega) _, gr_set h.gr _ (.inl (Nat.le_of_lt hlo)) _, h.gl, h.zd.grown (grown_set wx ⟨X, 0, none⟩ _) (fun k e => by injection e with e; dsimp only at e; omega), h.yl, h.lo, by simpa using h.ex, World.cell?_setCell_same _ _ _ h.p0, ?_, ?_, fun i => by rw [← h.cf i]; simp, h.bx.set _ _, h.own.setBox h.bx _ _, h.ops.setBox h.bx _ _⟩
  · rw [World.cell?_setCell_other _ _ _ _ (by simp)]; exact h.p1
  · rw [World.cell?_setCell_other _ _ _ _ (by simp)]; exact h.p2
/-- A store beside it. -/
theorem LD.setV {V : Nat} (h : LD w wx g K Y X n A c bs A2 c2 ps) (hV : w.heap.size < V) (hVX : V ≠ X) (hVY : V ≠ Y) (hbV : BoxT wx V 28) (i : Nat) (v : Value) : LD w (wx.setCell ⟨V, i, none⟩ v) g K Y X n A c bs A2 c2 ps := by
  have hgl := h.gl
  have hlo := h.lo
  have hg := grown_set wx ⟨V, i, none⟩ v
  have hX : some X ≠ some (⟨V, i, none⟩ : Addr).block := fun e => by injection e with e; exact hVX e.symm
  refine ⟨h.rd.set ⟨V, i, none⟩ (by show g < V; omega) _, gr_set h.gr _ (.inl (Nat.le_of_lt hV)) _, h.gl, h.zd.grown hg (fun k e => by injection e with e; rw [← e]; exact hVY), h.yl, h.lo, by simpa using h.ex, (hg.cell_far ⟨X, 0, none⟩ h.ex hX).trans h.p0, (hg.cell_far ⟨X, 1, none⟩ h.ex hX).trans h.p1, (hg.cell_far ⟨X, 2, none⟩ h.ex hX).trans h.p2,
    fun i => (hg.frozen_far ⟨X, i, none⟩ h.ex hX).trans (h.cf i), h.bx.grown h.ex hg (fun e => hX e.symm), h.own.setBox hbV _ _, h.ops.setBox hbV _ _⟩
/-- Behind an append onto its plans of before: they are stored. -/
theorem LD.app {p : Pl} {Ap : Option Addr} {cp : Nat} {cs : List Value} (h : LD w wx g K Y X n A c bs A2 c2 ps) (hrow : wx.ownsRow (w.heap.size + 1) 25 2 (.slice A2 ps.length c2) ps.length cs) (hplc : PlC (w.heap.size + 1) wx ps cs) (hp : OwnB (w.heap.size + 1) wx (.slice Ap p.bs.length cp) p.bs)
    (hg : wx.grownBy w' (Value.slice A2 ps.length c2).ownBlock) (hown : w'.ownsRow (w.heap.size + 1) 25 2 (.slice A2' (ps.length + 1) c2') (ps.length + 1) (cs ++ [.int .i64 p.n, .slice Ap p.bs.length cp])) :
    w'.cell? ⟨X, 2, none⟩ = some (.slice A2 ps.length c2) ∧ w'.frozen? ⟨X, 2, none⟩ = false ∧ LD w (w'.setCell ⟨X, 2, none⟩ (.slice A2' (ps.length + 1) c2')) g K Y X n A c bs A2' c2' (ps ++ [p]) := by
  have hgl := h.gl
  have hlo := h.lo
  have hyl := h.yl
  have hneX := own_box hrow h.bx (by decide)
  have hne : some X ≠ (Value.slice A2 ps.length c2).ownBlock := fun e => hneX e.symm
  have hge : ∀ k, (Value.slice A2 ps.length c2).ownBlock = some k → w.heap.size + 1 ≤ k := fun k e => (hrow.lt k e).1
  have e0 : w'.cell? ⟨X, 0, none⟩ = some (.int .i64 n) := (hg.cell_far ⟨X, 0, none⟩ h.ex hne).trans h.p0
  have e1 : w'.cell? ⟨X, 1, none⟩ = some (.slice A bs.length c) := (hg.cell_far ⟨X, 1, none⟩ h.ex hne).trans h.p1
  have e2 : w'.cell? ⟨X, 2, none⟩ = some (.slice A2 ps.length c2) := (hg.cell_far ⟨X, 2, none⟩ h.ex hne).trans h.p2
  have ef : ∀ i, w'.frozen? ⟨X, i, none⟩ = false := fun i => (hg.frozen_far ⟨X, i, none⟩ h.ex hne).trans (h.cf i)
  have hbx : BoxT w' X 28 := h.bx.grown h.ex hg hneX
  have hkeep : ∀ {A' : Option Addr} {c' : Nat} {bs' : List Bd}, OwnB (w.heap.size + 1) wx (.slice A' bs'.length c') bs' → OwnB (w.heap.size + 1) w' (.slice A' bs'.length c') bs' := fun {A' c' bs'} ho => World.ownsRow.kept ho hg (by
    cases hk : (Value.slice A' bs'.length c').ownBlock with
    | none => exact .inl rfl
    | some k => exact .inr (fun e => own_neT ho hrow (by decide) hk e.symm))
  have hplc' := (hplc.grown hrow hg).snoc (hkeep hp)
  have hl : (ps ++ [p]).length = ps.length + 1 := by simp
  refine ⟨e2, ef 2, ⟨(h.rd.other hg (fun k e => by have := hge k e; omega)).set ⟨X, 2, none⟩ (by show g < X; omega) _, gr_set (gr_then h.gr hg (fun k e => .inl (by have := hge k e; omega))) _ (.inl (Nat.le_of_lt hlo)) _, h.gl, (h.zd.grown hg (fun k e => by have := hge k e; omega)).grown (grown_set w' ⟨X, 2, none⟩ _) (fun k e => by injection e with e; dsimp only at e; omega), h.yl, h.lo, by have := hg.size; have := h.ex; simp; omega, ?_, ?_, ?_, fun i => by rw [← ef i]; simp, hbx.set _ _, (hkeep h.own).setBox hbx _ _, ?_⟩⟩
  · rw [World.cell?_setCell_other _ _ _ _ (by simp)]; exact e0
  · rw [World.cell?_setCell_other _ _ _ _ (by simp)]; exact e1
  · rw [hl]; exact World.cell?_setCell_same _ _ _ e2
  · rw [hl]
    refine ⟨_, ?_, hplc'.set hbx _ _⟩
    rw [hl]
    exact own_set hown (own_box hown hbx (by decide)) _
/-- It is put into the zero box, and handed back. -/
theorem LD.fin (h : LD w wx g K Y X n A c bs A2 c2 ps) (n' : Int) (A' : Option Addr) (c' : Nat) (bs' : List Bd) (A2' : Option Addr) (c2' : Nat) (ps' : List Pl) (own : OwnB (w.heap.size + 1) wx (.slice A' bs'.length c') bs') (ops : OwnPs (w.heap.size + 1) wx (.slice A2' ps'.length c2') ps') :
    ∀ W, W = ((wx.setCell ⟨Y, 0, none⟩ (.int .i64 n')).setCell ⟨Y, 1, none⟩ (.slice A' bs'.length c')).setCell ⟨Y, 2, none⟩ (.slice A2' ps'.length c2') →
    W.cell? ⟨Y, 0, none⟩ = some (.int .i64 n') ∧ W.cell? ⟨Y, 1, none⟩ = some (.slice A' bs'.length c') ∧ W.cell? ⟨Y, 2, none⟩ = some (.slice A2' ps'.length c2') ∧ OwnB w.heap.size W (.slice A' bs'.length c') bs' ∧ OwnPs w.heap.size W (.slice A2' ps'.length c2') ps' ∧ RdO W g K ∧ w.grownBy W (some g) := by
  intro W hW
  have hgl := h.gl
  have hyl := h.yl
  have hgY : g < (⟨Y, 0, none⟩ : Addr).block := by show g < Y; omega
  have hYl : Y < w.heap.size + 1 := by omega
  obtain ⟨r0, r1, r2⟩ := three_cellsD (a := .int .i64 n') (b := .slice A' bs'.length c') (d := .slice A2' ps'.length c2') h.zd.z0 h.zd.z1 h.zd.z2
  subst hW
  exact ⟨r0, r1, r2, own_less (((own.setLow hYl 0 _).setLow hYl 1 _).setLow hYl 2 _) (by omega), (((ops.setLow hYl 0 _).setLow hYl 1 _).setLow hYl 2 _).less (by omega), ((h.rd.set ⟨Y, 0, none⟩ hgY _).set ⟨Y, 1, none⟩ hgY _).set ⟨Y, 2, none⟩ hgY _, gr_set (gr_set (gr_set h.gr _ (.inl h.zd.lo) _) _ (.inl h.zd.lo) _) _ (.inl h.zd.lo) _⟩
end
/-- The floating box of a desk. -/
def CV (w : World) (X Y : Nat) (z : Value) (wx : World) : Prop := ∃ V, z = .pointer (some ⟨V, 0, none⟩) ∧ w.heap.size < V ∧ V < wx.heap.size ∧ V ≠ X ∧ V ≠ Y ∧ wx.cell? ⟨V, 0, none⟩ = some (.int .i64 0) ∧ wx.cell? ⟨V, 1, none⟩ = some (.slice none 0 0) ∧ wx.cell? ⟨V, 2, none⟩ = some (.slice none 0 0) ∧ (∀ i, wx.frozen? ⟨V, i, none⟩ = false) ∧ BoxT wx V 28
section
variable {w wx w' : World} {g X Y : Nat} {z : Value}
theorem CV.pick (h : CV w X Y z wx) (hgl : g < w.heap.size) (hg : wx.grownBy w' (some g)) : CV w X Y z w' := by
  obtain ⟨V, h1, h2, h3, h4, h5, c0, c1, c2, cf, hb⟩ := h
  have hV : some V ≠ some g := fun e => by injection e with e; omega
  exact ⟨V, h1, h2, Nat.lt_of_lt_of_le h3 hg.size, h4, h5, (hg.cell_far ⟨V, 0, none⟩ h3 hV).trans c0, (hg.cell_far ⟨V, 1, none⟩ h3 hV).trans c1, (hg.cell_far ⟨V, 2, none⟩ h3 hV).trans c2, fun i => (hg.frozen_far ⟨V, i, none⟩ h3 hV).trans (cf i), hb.grown h3 hg (fun e => hV e.symm)⟩
theorem CV.below (h : CV w X Y z wx) (hb : Below wx.heap.size wx w') : CV w X Y z w' := by
  obtain ⟨V, h1, h2, h3, h4, h5, c0, c1, c2, cf, hbx⟩ := h
  exact ⟨V, h1, h2, Nat.lt_of_lt_of_le h3 hb.size, h4, h5, ((bcell hb).1 _ _ h3).trans c0, ((bcell hb).1 _ _ h3).trans c1, ((bcell hb).1 _ _ h3).trans c2, fun i => ((bcell hb).2 _ _ h3).trans (cf i), hbx.below h3 hb⟩
theorem cv_new (hw : w.heap.size < wx.heap.size) (hX : X < wx.heap.size) (hY : Y < wx.heap.size) : CV w X Y (.pointer (some ⟨wx.heap.size, 0, none⟩)) (wx.alloc (.cells #[.int .i64 0, .slice none 0 0, .slice none 0 0] 28)) :=
  ⟨wx.heap.size, rfl, hw, by simp, by omega, by omega, by simp [go_sem], by simp [go_sem], by simp [go_sem], fun i => by simp [go_sem], ⟨_, at_new rfl⟩⟩
end
end Go.Proofs.Ytmnajkhoacogjaa
