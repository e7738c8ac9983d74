/-
 The draw of a desk and a deed.
 The law of DeskDo.
-/
import Derived.Test.YtmnajkhoacogjaaGreatDoorW80
import Derived.Test.YtmnajkhoacogjaaGreatDoorW81
import Derived.Test.YtmnajkhoacogjaaGreatDoorL9c
import Derived.Test.YtmnajkhoacogjaaGreatDoorS9h
import Derived.Test.YtmnajkhoacogjaaGreatDoorL2
import Derived.Test.YtmnajkhoacogjaaGreatDoorI1
namespace Go.Proofs.YtmnajkhoacogjaaGreatDoor
set_option linter.unusedVariables false
set_option linter.unusedSimpArgs false

open Go Go.RowKit Pp

/-- The zero deed in its box. -/
structure ZE (w0 W : World) (Y : Nat) : Prop where
 lo : w0.heap.size ≤ Y
 ex : Y < W.heap.size
 z : ∀ i v, Zd[i]? = some v → W.cell? ⟨Y, i, none⟩ = some v
 zf : ∀ i, W.frozen? ⟨Y, i, none⟩ = false
theorem ZE.grown {w0 W W' : World} {Y : Nat} {row : Option Nat} (h : ZE w0 W Y) (hg : W.grownBy W' row) (hr : some Y ≠ row) : ZE w0 W' Y :=
 ⟨h.lo, Nat.lt_of_lt_of_le h.ex hg.size, fun i v e => (hg.cell_far ⟨Y, i, none⟩ h.ex hr).trans (h.z i v e), fun i => (hg.frozen_far ⟨Y, i, none⟩ h.ex hr).trans (h.zf i)⟩
theorem ZE.below {w0 W W' : World} {Y : Nat} (h : ZE w0 W Y) (hb : Below W.heap.size W W') : ZE w0 W' Y := h.grown (bel_grown hb) (by simp)
theorem gr_tr {w w1 w2 : World} {row : Option Nat} (h : w.grownBy w1 row) (h2 : w1.grownBy w2 row) : w.grownBy w2 row :=
 ⟨h2.os.trans h.os, h2.tape.trans h.tape, h2.output.trans h.output, Nat.le_trans h.size h2.size, fun k hk hne => (h2.block k (Nat.lt_of_lt_of_le hk h.size) hne).trans (h.block k hk hne)⟩
theorem five_cells {wx : World} {Y : Nat} {k a1 a2 a3 : Int} {s : ByteArray} (h : ∀ i v, Zd[i]? = some v → wx.cell? ⟨Y, i, none⟩ = some v) :
  ∀ W, W = ((((wx.setCell ⟨Y, 0, none⟩ (.int .i64 k)).setCell ⟨Y, 1, none⟩ (.int .i64 a1)).setCell ⟨Y, 2, none⟩ (.int .i64 a2)).setCell ⟨Y, 3, none⟩ (.int .i64 a3)).setCell ⟨Y, 4, none⟩ (.string s) →
  W.cell? ⟨Y, 0, none⟩ = some (.int .i64 k) ∧ W.cell? ⟨Y, 1, none⟩ = some (.int .i64 a1) ∧ W.cell? ⟨Y, 2, none⟩ = some (.int .i64 a2) ∧ W.cell? ⟨Y, 3, none⟩ = some (.int .i64 a3) ∧ W.cell? ⟨Y, 4, none⟩ = some (.string s) ∧ wx.grownBy W (some Y) := by
 intro W hW
 have y0 := h 0 _ rfl
 have y1 := h 1 _ rfl
 have y2 := h 2 _ rfl
 have y3 := h 3 _ rfl
 have y4 := h 4 _ rfl
 subst hW
 refine ⟨?_, ?_, ?_, ?_, ?_, gr_tr (gr_tr (gr_tr (gr_tr (grown_set wx ⟨Y, 0, none⟩ _) (grown_set _ ⟨Y, 1, none⟩ _)) (grown_set _ ⟨Y, 2, none⟩ _)) (grown_set _ ⟨Y, 3, none⟩ _)) (grown_set _ ⟨Y, 4, none⟩ _)⟩
 ·rw [World.cell?_setCell_other _ _ _ _ (by simp), World.cell?_setCell_other _ _ _ _ (by simp), World.cell?_setCell_other _ _ _ _ (by simp), World.cell?_setCell_other _ _ _ _ (by simp)]
  exact World.cell?_setCell_same _ _ _ y0
 ·rw [World.cell?_setCell_other _ _ _ _ (by simp), World.cell?_setCell_other _ _ _ _ (by simp), World.cell?_setCell_other _ _ _ _ (by simp)]
  exact World.cell?_setCell_same _ _ _ (by rw [World.cell?_setCell_other _ _ _ _ (by simp)]; exact y1)
 ·rw [World.cell?_setCell_other _ _ _ _ (by simp), World.cell?_setCell_other _ _ _ _ (by simp)]
  exact World.cell?_setCell_same _ _ _ (by rw [World.cell?_setCell_other _ _ _ _ (by simp), World.cell?_setCell_other _ _ _ _ (by simp)]; exact y2)
 ·rw [World.cell?_setCell_other _ _ _ _ (by simp)]
  exact World.cell?_setCell_same _ _ _ (by rw [World.cell?_setCell_other _ _ _ _ (by simp), World.cell?_setCell_other _ _ _ _ (by simp), World.cell?_setCell_other _ _ _ _ (by simp)]; exact y3)
 ·exact World.cell?_setCell_same _ _ _ (by rw [World.cell?_setCell_other _ _ _ _ (by simp), World.cell?_setCell_other _ _ _ _ (by simp), World.cell?_setCell_other _ _ _ _ (by simp), World.cell?_setCell_other _ _ _ _ (by simp)]; exact y4)
namespace Pp
/-- A drawn desk and a drawn deed. -/
def DeskE (w w' : World) (v : Value) : Prop := ∃ A c A2 c2, ∃ d : Dk, ∃ k a1 a2 a3 s, v = .tuple #[.agg #[.int .i64 d.now.n, .slice A d.now.bs.length c, .slice A2 d.past.length c2], .agg #[.int .i64 k, .int .i64 a1, .int .i64 a2, .int .i64 a3, .string s]] ∧ DkS d ∧ d.past.length ≤ 8 ∧ OwnB w.heap.size w' (.slice A d.now.bs.length c) d.now.bs ∧ OwnPs w.heap.size w' (.slice A2 d.past.length c2) d.past
end Pp
set_option maxHeartbeats 4000000 in
set_option maxRecDepth 100000 in
theorem drawDeskDo_c (A0 : Option Addr) (n0 c0 : Nat) (zs : List Int) (w : World) (hn0 : n0 ≤ 1048576) (hc0 : n0 ≤ c0) (hA0 : n0 = 0 ∨ A0.isSome = true) (hb0 : BytesAt w w.heap.size A0 n0 zs) :
  Calls Tryz.prog 28 #[.slice A0 n0 c0] w fun e w' => ∃ v, e = .returned v ∧ DeskE w w' v ∧ Below w.heap.size w w' := by
 have hZ : ZD w (w.alloc (.cells #[.int .i64 0, .slice none 0 0, .slice none 0 0] 37)) w.heap.size := zd_at rfl (Nat.le_refl _)
 have hZ2 := hZ.below (show Below _ _ ((w.alloc (.cells #[.int .i64 0, .slice none 0 0, .slice none 0 0] 37)).alloc (.cells #[.int .i64 0, .int .i64 0, .int .i64 0, .int .i64 0, .string ⟨#[]⟩] 41)) by go_grown)
 have hE : ZE w ((w.alloc (.cells #[.int .i64 0, .slice none 0 0, .slice none 0 0] 37)).alloc (.cells #[.int .i64 0, .int .i64 0, .int .i64 0, .int .i64 0, .string ⟨#[]⟩] 41)) (w.heap.size + 1) := by
  refine ⟨by omega, by simp, fun i v e => ?_, fun i => by simp [go_sem]⟩
  match i, e with
  | 0, e => cases e; simp [go_sem]
  | 1, e => cases e; simp [go_sem]
  | 2, e => cases e; simp [go_sem]
  | 3, e => cases e; simp [go_sem]
  | 4, e => cases e; simp [go_sem]
 have hal : Below w.heap.size w ((w.alloc (.cells #[.int .i64 0, .slice none 0 0, .slice none 0 0] 37)).alloc (.cells #[.int .i64 0, .int .i64 0, .int .i64 0, .int .i64 0, .string ⟨#[]⟩] 41)) := by go_grown
 have hs : ((w.alloc (.cells #[.int .i64 0, .slice none 0 0, .slice none 0 0] 37)).alloc (.cells #[.int .i64 0, .int .i64 0, .int .i64 0, .int .i64 0, .string ⟨#[]⟩] 41)).heap.size = w.heap.size + 2 := by simp
 have hb : BytesAt _ ((w.alloc (.cells #[.int .i64 0, .slice none 0 0, .slice none 0 0] 37)).alloc (.cells #[.int .i64 0, .int .i64 0, .int .i64 0, .int .i64 0, .string ⟨#[]⟩] 41)).heap.size A0 n0 zs := hb0.below hal (by rw [hs]; omega)
 clear hb0 hZ
 go_enter Tryz.func28, Tryz.ntmps28
 go_upto_region 1 with fail
 generalize (w.alloc (.cells #[.int .i64 0, .slice none 0 0, .slice none 0 0] 37)).alloc (.cells #[.int .i64 0, .int .i64 0, .int .i64 0, .int .i64 0, .string ⟨#[]⟩] 41) = W at hZ2 hE hal hs hb ⊢
 have Hs := hide hs
 clear hs
 go_upto_region 3 with (first
  | (go_at_call 51; go_fit (open_c A0 n0 c0 zs _ hn0 hc0 hA0 hb); rintro e w1 ⟨rfl, hR1, hb1, hs1⟩; have Hs1 := hide hs1; clear hs1)
  | (go_at_call 52; refine (desk_c W.heap.size 0 12 _ (by omega) (by omega) hR1).mono ?_; rintro e w2 ⟨v, rfl, ⟨A, c, A2, c2, d, rfl, hDS, h8, own2, ops2, hR2, hG2⟩⟩))
 obtain ⟨⟨n, bs⟩, ps⟩ := d
 dsimp only at own2 ops2 hDS h8 ⊢
 have hn := hDS.1
 have hbl := hDS.2.1
 dsimp only at hn hbl
 have hgw := Hs.out
 have hw1 := Hs1.out
 have hw2 := hG2.size
 replace hZ2 := ((hZ2.below hb1).grown hG2 (fun k e => by injection e with e; omega)).below (show Below w2.heap.size w2 (w2.alloc (.cells #[.int .i64 n, .slice A bs.length c, .slice A2 ps.length c2] 37)) by go_grown)
 replace hE := ((hE.below hb1).grown hG2 (fun e => by injection e with e; omega)).below (show Below w2.heap.size w2 (w2.alloc (.cells #[.int .i64 n, .slice A bs.length c, .slice A2 ps.length c2] 37)) by go_grown)
 have hal2 : Below w2.heap.size w2 (w2.alloc (.cells #[.int .i64 n, .slice A bs.length c, .slice A2 ps.length c2] 37)) := by go_grown
 have hbw := (bthen hal hb1).grown hG2 (bthen hal hb1).size (fun k hk => by injection hk with hk; omega)
 replace hbw := bthen hbw hal2
 have hR3 := hR2.alloc (.cells #[.int .i64 n, .slice A bs.length c, .slice A2 ps.length c2] 37)
 have own3 := own_below own2 hal2
 have ops3 := ops2.below hal2
 obtain ⟨x0, x1, x2⟩ : (w2.alloc (.cells #[.int .i64 n, .slice A bs.length c, .slice A2 ps.length c2] 37)).cell? ⟨w2.heap.size, 0, none⟩ = some (.int .i64 n) ∧ (w2.alloc (.cells #[.int .i64 n, .slice A bs.length c, .slice A2 ps.length c2] 37)).cell? ⟨w2.heap.size, 1, none⟩ = some (.slice A bs.length c) ∧ (w2.alloc (.cells #[.int .i64 n, .slice A bs.length c, .slice A2 ps.length c2] 37)).cell? ⟨w2.heap.size, 2, none⟩ = some (.slice A2 ps.length c2) := by simp [go_sem]
 have hxl : w2.heap.size < (w2.alloc (.cells #[.int .i64 n, .slice A bs.length c, .slice A2 ps.length c2] 37)).heap.size := by simp
 have hX1 : ¬ w2.heap.size = w.heap.size ∧ ¬ w2.heap.size = w.heap.size + 1 ∧ ¬ w2.heap.size = W.heap.size ∧ W.heap.size < w1.heap.size ∧ w.heap.size + 1 < w1.heap.size := by omega
 generalize w2.alloc (.cells #[.int .i64 n, .slice A bs.length c, .slice A2 ps.length c2] 37) = W3 at hZ2 hE hbw hR3 own3 ops3 x0 x1 x2 hxl ⊢
 clear hR2 hG2 own2 ops2 hal2 hb1 hR1 hb hal hw2 hw1 hgw
 generalize w2.heap.size = X at x0 x1 x2 hxl hX1 ⊢
 obtain ⟨hX1, hX2, hX3, hX4, hX5⟩ := hX1
 refine wp_regionE (fun w' => w'.cell? ⟨X, 0, none⟩ = some (.int .i64 n) ∧ w'.cell? ⟨X, 1, none⟩ = some (.slice A bs.length c) ∧ w'.cell? ⟨X, 2, none⟩ = some (.slice A2 ps.length c2)) 6 (by kernel_rfl) ?_
 change wpE _ _ _ _ _ _ 7 #[false, false, false, false, false, false, false] _ _
 have hdr : Below W3.heap.size W3 W3.drew := by go_grown
 have hS0 : W3.drew.cell? ⟨X, 0, none⟩ = some (.int .i64 n) ∧ W3.drew.cell? ⟨X, 1, none⟩ = some (.slice A bs.length c) ∧ W3.drew.cell? ⟨X, 2, none⟩ = some (.slice A2 ps.length c2) := ⟨x0, x1, x2⟩
 replace hZ2 := hZ2.below hdr
 replace hE := hE.below hdr
 replace hbw := bthen hbw hdr
 replace hR3 := hR3.below hdr
 replace own3 := own_below own3 hdr
 replace ops3 := ops3.below hdr
 replace hxl : X < W3.drew.heap.size := Nat.lt_of_lt_of_le hxl hdr.size
 clear x0 x1 x2 hdr
 generalize W3.drew = wd at hS0 hZ2 hE hbw hR3 own3 ops3 hxl ⊢
 refine wpE_tk (v := ?_) 0 [5, 6] (hy := ?_) (hS := hS0) (h := ?_)
 rotate_left
 ·intro w' hSw
  simp only [xg0, xg1, xg2]
  go_simp
  all_goals with_reducible rfl
 simp only [xg0, xg1, xg2, Act.put, xs0, xs1, xs2]
 refine wpE_tk (v := ?_) 1 [4, 6] (hy := ?_) (hS := hS0) (h := ?_)
 rotate_left
 ·intro w' hSw
  simp only [xg0, xg1, xg2]
  go_simp
  all_goals with_reducible rfl
 simp only [xg0, xg1, xg2, Act.put, xs0, xs1, xs2]
 refine wpE_tk (v := ?_) 2 [3, 4, 6] (hy := ?_) (hS := hS0) (h := ?_)
 rotate_left
 ·intro w' hSw
  simp only [xg0, xg1, xg2]
  go_simp
  all_goals with_reducible rfl
 simp only [xg0, xg1, xg2, Act.put, xs0, xs1, xs2]
 refine wpE_tk (v := ?_) 3 [4, 6] (hy := ?_) (hS := hS0) (h := ?_)
 rotate_left
 ·intro w' hSw
  simp only [xg0, xg1, xg2]
  go_simp
  all_goals with_reducible rfl
 simp only [xg0, xg1, xg2, Act.put, xs0, xs1, xs2]
 refine wpE_step' 4 (of_decide_eq_true (by kernel_rfl)) (by kernel_rfl) (by kernel_rfl) (fun K hK => ?_)
 simp only [xg0, xg1, xg2]
 go_simp
 go_at_call 61
 refine (deed_c W.heap.size (0 + 2000) n A bs.length c _ (by omega) (by omega) (by omega) hR3).mono ?_
 rintro e w6 ⟨k, a1, a2, a3, s, rfl, hR6, hG6⟩
 have hS6 : w6.cell? ⟨X, 0, none⟩ = some (.int .i64 n) ∧ w6.cell? ⟨X, 1, none⟩ = some (.slice A bs.length c) ∧ w6.cell? ⟨X, 2, none⟩ = some (.slice A2 ps.length c2) := ⟨far_cell hG6 hS0.1 hX3, far_cell hG6 hS0.2.1 hX3, far_cell hG6 hS0.2.2 hX3⟩
 replace hZ2 := hZ2.grown hG6 (fun k e => by injection e with e; have := Hs.out; omega)
 replace hE := hE.grown hG6 (fun e => by injection e with e; have := Hs.out; omega)
 replace own3 := own_far own3 hG6 hX4
 replace ops3 := ops3.far hG6 hX4
 replace hbw := hbw.grown hG6 hbw.size (fun k hk => by injection hk with hk; have := Hs.out; omega)
 refine hK.out _ _ (.inr hS6) ?_
 clear hK K hS0 hG6 hR3 hR6
 simp only [Act.put, xs0, xs1, xs2]
 have z0 := hZ2.z0
 have z1 := hZ2.z1
 have z2 := hZ2.z2
 have zf0 := hZ2.zf 0
 have zf1 := hZ2.zf 1
 have zf2 := hZ2.zf 2
 refine wpE_step' 5 (of_decide_eq_true (by kernel_rfl)) (by kernel_rfl) (by kernel_rfl) (fun K hK => ?_)
 simp only [xg0, xg1, xg2]
 go_simp
 obtain ⟨r0, r1, r2⟩ := three_cellsD (a := .int .i64 n) (b := .slice A bs.length c) (d := .slice A2 ps.length c2) z0 z1 z2
 have hg7 : w6.grownBy (((w6.setCell ⟨w.heap.size, 0, none⟩ (.int .i64 n)).setCell ⟨w.heap.size, 1, none⟩ (.slice A bs.length c)).setCell ⟨w.heap.size, 2, none⟩ (.slice A2 ps.length c2)) (some w.heap.size) := gr_tr (gr_tr (grown_set w6 ⟨w.heap.size, 0, none⟩ _) (grown_set _ ⟨w.heap.size, 1, none⟩ _)) (grown_set _ ⟨w.heap.size, 2, none⟩ _)
 have hS7 := And.intro (far_cell hg7 hS6.1 hX1) (And.intro (far_cell hg7 hS6.2.1 hX1) (far_cell hg7 hS6.2.2 hX1))
 replace hE := hE.grown hg7 (fun e => by injection e with e; omega)
 have hlow : w.heap.size < w1.heap.size := by omega
 have hlo : w.heap.size ≤ w.heap.size := Nat.le_refl _
 have own7 := (((show OwnB w1.heap.size w6 (.slice A bs.length c) bs from own3).setLow hlow 0 (.int .i64 n)).setLow hlow 1 (.slice A bs.length c)).setLow hlow 2 (.slice A2 ps.length c2)
 have ops7 := ((ops3.setLow hlow 0 (.int .i64 n)).setLow hlow 1 (.slice A bs.length c)).setLow hlow 2 (.slice A2 ps.length c2)
 have hb7 := ((hbw.setCell (p := ⟨w.heap.size, 0, none⟩) hlo (.int .i64 n)).setCell (p := ⟨w.heap.size, 1, none⟩) hlo (.slice A bs.length c)).setCell (p := ⟨w.heap.size, 2, none⟩) hlo (.slice A2 ps.length c2)
 refine hK.out _ _ (.inr hS7) ?_
 clear hK K hS7 hS6 z0 z1 z2 zf0 zf1 zf2 own3 ops3 hbw hZ2 hg7
 simp only [Act.put, xs0, xs1, xs2]
 generalize ((w6.setCell ⟨w.heap.size, 0, none⟩ (.int .i64 n)).setCell ⟨w.heap.size, 1, none⟩ (.slice A bs.length c)).setCell ⟨w.heap.size, 2, none⟩ (.slice A2 ps.length c2) = W7 at r0 r1 r2 hE own7 ops7 hb7 ⊢
 have z0 := hE.z 0 _ rfl
 have z1 := hE.z 1 _ rfl
 have z2 := hE.z 2 _ rfl
 have z3 := hE.z 3 _ rfl
 have z4 := hE.z 4 _ rfl
 have zf0 := hE.zf 0
 have zf1 := hE.zf 1
 have zf2 := hE.zf 2
 have zf3 := hE.zf 3
 have zf4 := hE.zf 4
 refine wpE_step' 6 (of_decide_eq_true (by kernel_rfl)) (by kernel_rfl) (by kernel_rfl) (fun K hK => ?_)
 simp only [xg0, xg1, xg2]
 go_simp
 refine hK.out _ _ (.inl rfl) ?_
 clear hK K
 simp only [Act.put, xs0, xs1, xs2]
 refine wpE_done (by kernel_rfl) ?_ _
 obtain ⟨q0, q1, q2, q3, q4, hg8⟩ := five_cells (k := k) (a1 := a1) (a2 := a2) (a3 := a3) (s := s) hE.z _ rfl
 have hne : w.heap.size ≠ w.heap.size + 1 := by omega
 replace r0 := far_cell hg8 r0 hne
 replace r1 := far_cell hg8 r1 hne
 replace r2 := far_cell hg8 r2 hne
 have own9 := ((((own7.setLow hX5 0 (.int .i64 k)).setLow hX5 1 (.int .i64 a1)).setLow hX5 2 (.int .i64 a2)).setLow hX5 3 (.int .i64 a3)).setLow hX5 4 (.string s)
 have ops9 := ((((ops7.setLow hX5 0 (.int .i64 k)).setLow hX5 1 (.int .i64 a1)).setLow hX5 2 (.int .i64 a2)).setLow hX5 3 (.int .i64 a3)).setLow hX5 4 (.string s)
 have hlo1 : w.heap.size ≤ w.heap.size + 1 := by omega
 have hb9 := ((((hb7.setCell (p := ⟨w.heap.size + 1, 0, none⟩) hlo1 (.int .i64 k)).setCell (p := ⟨w.heap.size + 1, 1, none⟩) hlo1 (.int .i64 a1)).setCell (p := ⟨w.heap.size + 1, 2, none⟩) hlo1 (.int .i64 a2)).setCell (p := ⟨w.heap.size + 1, 3, none⟩) hlo1 (.int .i64 a3)).setCell (p := ⟨w.heap.size + 1, 4, none⟩) hlo1 (.string s)
 clear z0 z1 z2 z3 z4 zf0 zf1 zf2 zf3 zf4 hE own7 ops7 hb7 hg8
 generalize (((((W7.setCell ⟨w.heap.size + 1, 0, none⟩ (.int .i64 k)).setCell ⟨w.heap.size + 1, 1, none⟩ (.int .i64 a1)).setCell ⟨w.heap.size + 1, 2, none⟩ (.int .i64 a2)).setCell ⟨w.heap.size + 1, 3, none⟩ (.int .i64 a3)).setCell ⟨w.heap.size + 1, 4, none⟩ (.string s)) = W9 at *
 go_wp2_with fail
 refine bodyPost_ret (v := .tuple #[.agg #[.int .i64 n, .slice A bs.length c, .slice A2 ps.length c2], .agg #[.int .i64 k, .int .i64 a1, .int .i64 a2, .int .i64 a3, .string s]]) (by simp [results, Tryz.results28, go_sem, r0, r1, r2, q0, q1, q2, q3, q4]) rfl ?_
 exact ⟨_, rfl, ⟨A, c, A2, c2, ⟨⟨n, bs⟩, ps⟩, k, a1, a2, a3, s, rfl, hDS, h8, own_less own9 (by omega), ops9.less (by omega)⟩, hb9⟩

open Go Go.RowKit Pp

namespace Pp
theorem do_small {rt : List UInt8 → Option (List Mk)} {d : Dk} {a : Dd} : DkS (deskDo rt d a).1 ∧ (deskDo rt d a).1.past.length ≤ 8 := by
 cases hd : deskOk d
 ·rw [do_bad hd]
  exact ⟨dkS_zero, by simp⟩
 ·have h := deskDo_ok rt a hd
  exact ⟨dkS_ok h, (deskOk_iff.1 h).2.2⟩
theorem do_yes_ok {rt : List UInt8 → Option (List Mk)} {d : Dk} {a : Dd} (h : (deskDo rt d a).2 = true) : deskOk d = true := by
 cases hd : deskOk d
 ·rw [do_bad hd] at h; cases h
 ·rfl
end Pp
set_option maxHeartbeats 4000000 in
set_option maxRecDepth 100000 in
theorem lawDeskDo_c (a0 : Option Addr) (len0 cap0 : Nat) (z0 : List Int) (w : World) (hv : VR w) (w0 : RowU w a0 len0 cap0 z0) :
  Calls Tryz.prog 6 #[.slice a0 len0 cap0] w fun e w' => e = .returned (.bool true) ∧ Below w.heap.size w w' := by
 obtain ⟨hlc, hAs, hby⟩ := w0.bytes
 clear w0
 by_cases hlen : (1048576 : Int) < (len0 : Int)
 ·go_enter Tryz.func6, Tryz.ntmps6
  go_wp2_with fail
  go_ret
  exact ⟨rfl, Below.refl _ _⟩
 ·obtain ⟨rt, hrt⟩ := isRead_ex
  go_enter Tryz.func6, Tryz.ntmps6
  go_upto_region 4 with (go_at_call 28; refine (drawDeskDo_c a0 len0 cap0 z0 _ (by omega) hlc hAs hby).mono ?_; rintro e w1 ⟨v, rfl, ⟨A, c, A2, c2, d, k, a1, a2, a3, s, rfl, hDS, h8, own1, ops1⟩, hW⟩)
  clear hlen hby hAs hlc
  obtain ⟨⟨n, bs⟩, ps⟩ := d
  dsimp only at own1 ops1 h8 hDS ⊢
  obtain ⟨-, d2, d3⟩ := hDS
  dsimp only at d2 d3
  have Hpl : Hid (∀ p ∈ ps, p.bs.length ≤ 2000000) := fun p hp => by have := d3 p hp; omega
  clear d3
  obtain ⟨hc1, hc2⟩ := own_cap (show w1.ownsRow _ _ _ _ _ _ from own1)
  obtain ⟨g1, hr1⟩ := OwnB.readsA own1
  obtain ⟨g2, hr2⟩ := ops1.reads
  have hD := (dkb_new (t := 37) (n := n) (c := c) (c2 := c2) hW hr1 hr2).alloc (.cells #[.int .i64 k, .int .i64 a1, .int .i64 a2, .int .i64 a3, .string s] 41)
  have hE : DeB w ((w1.alloc (.cells #[.int .i64 n, .slice A bs.length c, .slice A2 ps.length c2] 37)).alloc (.cells #[.int .i64 k, .int .i64 a1, .int .i64 a2, .int .i64 a3, .string s] 41)) (w1.heap.size + 1) k a1 a2 a3 s := by
   have := hW.size
   refine ⟨by omega, by simp, ?_, ?_, ?_, ?_, ?_⟩ <;> simp [go_sem]
  clear own1 ops1 hr1 hr2 hW
  generalize (w1.alloc (.cells #[.int .i64 n, .slice A bs.length c, .slice A2 ps.length c2] 37)).alloc (.cells #[.int .i64 k, .int .i64 a1, .int .i64 a2, .int .i64 a3, .string s] 41) = W at hD hE ⊢
  generalize w1.heap.size = X at hD hE ⊢
  obtain ⟨L, hL⟩ : ∃ L, s.data.toList = L := ⟨_, rfl⟩
  obtain ⟨D, hDD⟩ : ∃ D, deskDo rt ⟨⟨n, bs⟩, ps⟩ ⟨k, a1, a2, a3, L⟩ = D := ⟨_, rfl⟩
  have hsm := do_small (rt := rt) (d := ⟨⟨n, bs⟩, ps⟩) (a := ⟨k, a1, a2, a3, L⟩)
  have hi4 := fun (wq : World) (hv : VR wq) (hR : BdsR wq wq.heap.size g1 0 A bs) (hP : PlsR wq wq.heap.size g2 0 A2 ps) => deskDo_q rt hrt n bs ps k a1 a2 a3 s L hL A A2 g1 0 c g2 0 c2 _ wq hv (show bs.length ≤ 2000000 by omega) (show ps.length ≤ 2000000 by omega) Hpl.out (Nat.le_refl _) hR hP
  have hi5 := fun (wq : World) (hR : BdsR wq wq.heap.size g1 0 A bs) (hP : PlsR wq wq.heap.size g2 0 A2 ps) => sDeskDo_q rt hrt n bs ps k a1 a2 a3 s L hL A A2 g1 0 c g2 0 c2 _ wq (show bs.length ≤ 2000000 by omega) (show ps.length ≤ 2000000 by omega) Hpl.out hc1 hc2 (Nat.le_refl _) hR hP
  have hyes := do_yes_ok (rt := rt) (d := ⟨⟨n, bs⟩, ps⟩) (a := ⟨k, a1, a2, a3, L⟩)
  rw [hDD] at hsm hyes
  simp only [hDD] at hi4 hi5
  obtain ⟨⟨⟨qn, qb⟩, qp⟩, r⟩ := D
  dsimp only at hi4 hi5 hyes
  obtain ⟨⟨-, q2, q3⟩, q4⟩ := hsm
  dsimp only at q2 q3 q4
  have Hql : Hid (∀ p ∈ qp, p.bs.length ≤ 2000000) := fun p hp => by have := q3 p hp; omega
  have Hi4 := hide hi4
  have Hi5 := hide hi5
  have HDD := hide hDD
  have Hyes := hide hyes
  clear hi4 hi5 q3 hDD hyes
  have x0 := hD.c0
  have x1 := hD.c1
  have x2 := hD.c2
  have e0 := hE.c0
  have e1 := hE.c1
  have e2 := hE.c2
  have e3 := hE.c3
  have e4 := hE.c4
  go_upto_region 5 with (go_at_call 12; refine (Hi4.out _ (hv.below hD.bel) hD.rd hD.rp).mono ?_; rintro e w2 ⟨v, rfl, ⟨A3, c3, A4, c4, rfl, own2, ops2⟩, hb2⟩; try dsimp only at own2 ops2)
  try dsimp only at own2 ops2 ⊢
  obtain ⟨g3, hr3⟩ := OwnB.readsA own2
  obtain ⟨g4, hr4⟩ := ops2.reads
  have hQ := dkb_new (t := 37) (n := qn) (c := c3) (c2 := c4) (bthen hD.bel hb2) hr3 hr4
  have hal : Below W.heap.size W (w2.alloc (.cells #[.int .i64 qn, .slice A3 qb.length c3, .slice A4 qp.length c4] 37)) := bthen hb2 (by go_grown)
  replace hD := hD.below hal
  replace hE := hE.below hal
  clear x0 x1 x2 e0 e1 e2 e3 e4 own2 ops2 hr3 hr4 hal hb2
  generalize w2.alloc (.cells #[.int .i64 qn, .slice A3 qb.length c3, .slice A4 qp.length c4] 37) = W2 at hD hE hQ ⊢
  generalize w2.heap.size = Y at hQ ⊢
  have x0 := hD.c0
  have x1 := hD.c1
  have x2 := hD.c2
  have e0 := hE.c0
  have e1 := hE.c1
  have e2 := hE.c2
  have e3 := hE.c3
  have e4 := hE.c4
  go_upto_region 6 with (go_at_call 9; refine (Hi5.out _ hD.rd hD.rp).mono ?_; rintro e w3 ⟨v, rfl, ⟨A5, c5, A6, c6, g6, o6, rfl, own3, hr6, -⟩, hb3⟩; try dsimp only at own3 hr6)
  try dsimp only at own3 hr6 ⊢
  obtain ⟨g5, hr5⟩ := OwnB.readsA own3
  have hU := dkb_new (t := 37) (n := qn) (c := c5) (c2 := c6) (bthen hD.bel hb3) hr5 hr6
  have hal : Below W2.heap.size W2 (w3.alloc (.cells #[.int .i64 qn, .slice A5 qb.length c5, .slice A6 qp.length c6] 37)) := bthen hb3 (by go_grown)
  replace hD := hD.below hal
  replace hE := hE.below hal
  replace hQ := hQ.below hal
  clear x0 x1 x2 e0 e1 e2 e3 e4 own3 hr5 hr6 hal hb3
  generalize w3.alloc (.cells #[.int .i64 qn, .slice A5 qb.length c5, .slice A6 qp.length c6] 37) = W3 at hD hE hQ hU ⊢
  generalize w3.heap.size = Z at hU ⊢
  have y0 := hQ.c0
  have y1 := hQ.c1
  have y2 := hQ.c2
  have z0 := hU.c0
  have z1 := hU.c1
  have z2 := hU.c2
  have hqq : sameD ⟨⟨qn, qb⟩, qp⟩ ⟨⟨qn, qb⟩, qp⟩ = true := sameD_yes.2 rfl
  have Hqq := hide hqq
  clear hqq
  cases r
  ·go_upto_region 8 with (go_at_call 19; refine (sameDesk_any qn qn qb qb qp qp A3 A4 A5 A6 g3 0 c3 g4 0 c4 g5 0 c5 g6 o6 c6 _ _ (show qb.length ≤ 2000000 by omega) (show qp.length ≤ 2000000 by omega) Hql.out (Nat.le_refl _) hQ.rd hQ.rp hU.rd hU.rp).mono ?_; rintro e w4 ⟨rfl, hb4⟩; rw [Hqq.out]; replace hD := hD.below hb4; replace hE := hE.below hb4; replace hQ := hQ.below hb4)
   clear hU y0 y1 y2 z0 z1 z2 hb4 hE
   have x0 := hD.c0
   have x1 := hD.c1
   have x2 := hD.c2
   have y0 := hQ.c0
   have y1 := hQ.c1
   have y2 := hQ.c2
   cases hok : deskOk ⟨⟨n, bs⟩, ps⟩
   ·have Hok := hide hok
    clear hok
    obtain ⟨t, ht⟩ : ∃ t, sameD ⟨⟨qn, qb⟩, qp⟩ ⟨⟨n, bs⟩, ps⟩ = t := ⟨_, rfl⟩
    have Ht := hide ht
    clear ht
    cases t
    ·go_wp2_with (first
      | (go_at_call 19; refine (sameDesk_any qn n qb bs qp ps A3 A4 A A2 g3 0 c3 g4 0 c4 g1 0 c g2 0 c2 _ _ (show qb.length ≤ 2000000 by omega) (show qp.length ≤ 2000000 by omega) Hql.out (Nat.le_refl _) hQ.rd hQ.rp hD.rd hD.rp).mono ?_; rintro e w5 ⟨rfl, hb5⟩; rw [Ht.out]; replace hD := hD.below hb5; have x0 := hD.c0; have x1 := hD.c1; have x2 := hD.c2)
      | (go_at_call 23; go_fit (deskOk_c n bs ps A A2 g1 0 c g2 0 c2 _ _ (show bs.length ≤ 2000000 by omega) (show ps.length ≤ 2000000 by omega) Hpl.out (Nat.le_refl _) hD.rd hD.rp); rintro e w6 ⟨rfl, hb6⟩; rw [Hok.out]; replace hD := hD.below hb6)
      | (go_at_call 22; refine (alive_c _).mono ?_; rintro e w7 ⟨rfl, hb7⟩; replace hD := hD.below hb7))
     go_ret
     exact ⟨rfl, hD.bel⟩
    ·go_wp2_with (first
      | (go_at_call 19; refine (sameDesk_any qn n qb bs qp ps A3 A4 A A2 g3 0 c3 g4 0 c4 g1 0 c g2 0 c2 _ _ (show qb.length ≤ 2000000 by omega) (show qp.length ≤ 2000000 by omega) Hql.out (Nat.le_refl _) hQ.rd hQ.rp hD.rd hD.rp).mono ?_; rintro e w5 ⟨rfl, hb5⟩; rw [Ht.out]; replace hD := hD.below hb5; have x0 := hD.c0; have x1 := hD.c1; have x2 := hD.c2)
      | (go_at_call 22; refine (alive_c _).mono ?_; rintro e w7 ⟨rfl, hb7⟩; replace hD := hD.below hb7))
     go_ret
     exact ⟨rfl, hD.bel⟩
   ·have hno := do_no (rt := rt) (a := ⟨k, a1, a2, a3, L⟩) (by rw [HDD.out]) hok
    rw [HDD.out] at hno
    have ht : sameD ⟨⟨qn, qb⟩, qp⟩ ⟨⟨n, bs⟩, ps⟩ = true := sameD_yes.2 (by injection hno)
    have Ht := hide ht
    clear ht hno hok
    go_wp2_with (first
     | (go_at_call 19; refine (sameDesk_any qn n qb bs qp ps A3 A4 A A2 g3 0 c3 g4 0 c4 g1 0 c g2 0 c2 _ _ (show qb.length ≤ 2000000 by omega) (show qp.length ≤ 2000000 by omega) Hql.out (Nat.le_refl _) hQ.rd hQ.rp hD.rd hD.rp).mono ?_; rintro e w5 ⟨rfl, hb5⟩; rw [Ht.out]; replace hD := hD.below hb5; have x0 := hD.c0; have x1 := hD.c1; have x2 := hD.c2)
     | (go_at_call 22; refine (alive_c _).mono ?_; rintro e w7 ⟨rfl, hb7⟩; replace hD := hD.below hb7))
    go_ret
    exact ⟨rfl, hD.bel⟩
  ·have hok := Hyes.out rfl
   have Hok := hide hok
   clear hok
   go_upto_region 8 with (go_at_call 19; refine (sameDesk_any qn qn qb qb qp qp A3 A4 A5 A6 g3 0 c3 g4 0 c4 g5 0 c5 g6 o6 c6 _ _ (show qb.length ≤ 2000000 by omega) (show qp.length ≤ 2000000 by omega) Hql.out (Nat.le_refl _) hQ.rd hQ.rp hU.rd hU.rp).mono ?_; rintro e w4 ⟨rfl, hb4⟩; rw [Hqq.out]; replace hD := hD.below hb4; replace hE := hE.below hb4; replace hQ := hQ.below hb4)
   clear hU y0 y1 y2 z0 z1 z2 hb4
   have hi6 := fun (wq : World) (hv : VR wq) (hR : BdsR wq wq.heap.size g3 0 A3 qb) (hP : PlsR wq wq.heap.size g4 0 A4 qp) => deskDo_q rt hrt qn qb qp 6 0 0 0 ⟨#[]⟩ [] rfl A3 A4 g3 0 c3 g4 0 c4 _ wq hv (show qb.length ≤ 2000000 by omega) (show qp.length ≤ 2000000 by omega) Hql.out (Nat.le_refl _) hR hP
   have hbk : k ≠ 6 → ps.length < 8 → deskDo rt ⟨⟨qn, qb⟩, qp⟩ ⟨6, 0, 0, 0, []⟩ = (⟨⟨n, bs⟩, ps⟩, true) := fun h6 h8 => by
    have := do_back (rt := rt) (d := ⟨⟨n, bs⟩, ps⟩) (a := ⟨k, a1, a2, a3, L⟩) (by rw [HDD.out]) h6 h8
    rw [HDD.out] at this
    exact this
   obtain ⟨⟨⟨⟨tn, tb⟩, tp⟩, r6⟩, hE6⟩ : ∃ E6, deskDo rt ⟨⟨qn, qb⟩, qp⟩ ⟨6, 0, 0, 0, []⟩ = E6 := ⟨_, rfl⟩
   have hs6 := do_small (rt := rt) (d := ⟨⟨qn, qb⟩, qp⟩) (a := ⟨6, 0, 0, 0, []⟩)
   rw [hE6] at hs6 hbk
   simp only [hE6] at hi6
   obtain ⟨⟨-, t2, t3⟩, t4⟩ := hs6
   dsimp only at t2 t3 t4
   have Htl : Hid (∀ p ∈ tp, p.bs.length ≤ 2000000) := fun p hp => by have := t3 p hp; omega
   have Hi6 := hide hi6
   have Hbk := hide hbk
   clear hi6 hbk hE6 t3
   have y0 := hQ.c0
   have y1 := hQ.c1
   have y2 := hQ.c2
   go_upto_region 11 with (go_at_call 12; refine (Hi6.out _ (hv.below hQ.bel) hQ.rd hQ.rp).mono ?_; rintro e w5 ⟨v, rfl, ⟨A7, c7, A8, c8, rfl, own5, ops5⟩, hb5⟩; try dsimp only at own5 ops5)
   try dsimp only at own5 ops5 ⊢
   obtain ⟨g7, hr7⟩ := OwnB.readsA own5
   obtain ⟨g8, hr8⟩ := ops5.reads
   have hV := dkb_new (t := 37) (n := tn) (c := c7) (c2 := c8) (bthen hQ.bel hb5) hr7 hr8
   have hal : Below w4.heap.size w4 (w5.alloc (.cells #[.int .i64 tn, .slice A7 tb.length c7, .slice A8 tp.length c8] 37)) := bthen hb5 (by go_grown)
   replace hD := hD.below hal
   replace hE := hE.below hal
   replace hQ := hQ.below hal
   clear y0 y1 y2 own5 ops5 hr7 hr8 hal hb5
   generalize w5.alloc (.cells #[.int .i64 tn, .slice A7 tb.length c7, .slice A8 tp.length c8] 37) = W5 at hD hE hQ hV ⊢
   generalize w5.heap.size = V at hV ⊢
   have x0 := hD.c0
   have x1 := hD.c1
   have y0 := hQ.c0
   have y1 := hQ.c1
   have e0 := hE.c0
   have hk1 : k = 1 → implies ⟨qn, qb⟩ ⟨n, bs⟩ = true := fun h => by
    have := kept_bound (rt := rt) (d := ⟨⟨n, bs⟩, ps⟩) (a := ⟨k, a1, a2, a3, L⟩) (by rw [HDD.out]) h
    rw [HDD.out] at this
    exact this
   have hk2 : k = 2 → implies ⟨n, bs⟩ ⟨qn, qb⟩ = true := fun h => by
    have := kept_loose (rt := rt) (d := ⟨⟨n, bs⟩, ps⟩) (a := ⟨k, a1, a2, a3, L⟩) (by rw [HDD.out]) h
    rw [HDD.out] at this
    exact this
   have hk3 : k = 3 → alike ⟨qn, qb⟩ ⟨n, bs⟩ = true := fun h => by
    have := kept_trim (rt := rt) (d := ⟨⟨n, bs⟩, ps⟩) (a := ⟨k, a1, a2, a3, L⟩) (by rw [HDD.out]) h
    rw [HDD.out] at this
    exact this
   have hk4 : k = 4 → fits ⟨qn, qb⟩ = fits ⟨n, bs⟩ := fun h => by
    have := kept_turn (rt := rt) (d := ⟨⟨n, bs⟩, ps⟩) (a := ⟨k, a1, a2, a3, L⟩) (by rw [HDD.out]) h
    rw [HDD.out] at this
    exact this
   have Hk1 := hide hk1
   have Hk2 := hide hk2
   have Hk3 := hide hk3
   have Hk4 := hide hk4
   clear hk1 hk2 hk3 hk4
   go_upto_block 0 with fail
   go_cut [11, 60, 61, 62, 63, 64, 65, 66, 67, 68, 69, 70, 71, 72, 73, 74, 75, 76, 77, 78, 79, 80, 81, 82, 83, 84, 85, 86, 87, 88, 89, 90, 91] (fun s11 u60 u61 u62 u63 u64 u65 u66 u67 u68 u69 u70 u71 u72 u73 u74 u75 u76 u77 u78 u79 u80 u81 u82 u83 u84 u85 u86 u87 u88 u89 u90 u91 wx => s11 = .bool true ∧ Below W5.heap.size W5 wx)
   case first =>
    by_cases k3 : k = 3
    ·subst k3
     have Hal := hide (Hk3.out rfl)
     go_wp2_with (go_at_call 29; go_fit (alikeOk_c ⟨qn, qb⟩ ⟨n, bs⟩ A3 A g3 0 c3 g1 0 c _ _ (show qb.length ≤ 100000 by omega) (show bs.length ≤ 100000 by omega) (Nat.le_refl _) hQ.rd hD.rd); rintro e w6 ⟨rfl, hb6⟩; rw [Hal.out])
     go_meet
     case rel => exact ⟨rfl, hb6⟩
    by_cases k4 : k = 4
    ·subst k4
     obtain ⟨f, hf⟩ : ∃ f, fits ⟨n, bs⟩ = f := ⟨_, rfl⟩
     have hf2 := Hk4.out rfl
     rw [hf] at hf2
     have Hf := hide hf
     have Hf2 := hide hf2
     clear hf hf2
     go_upto_region 16 with fail
     cases f
     case false =>
      refine wp_regionE (fun w' => w'.cell? ⟨X, 0, none⟩ = some (.int .i64 n) ∧ w'.cell? ⟨X, 1, none⟩ = some (.slice A bs.length c) ∧ w'.cell? ⟨Y, 0, none⟩ = some (.int .i64 qn) ∧ w'.cell? ⟨Y, 1, none⟩ = some (.slice A3 qb.length c3)) 7 (by kernel_rfl) ?_
      change wpE _ _ _ _ _ _ 8 #[false, false, false, false, false, false, false, false] _ _
      have hdr : Below W5.heap.size W5 W5.drew := by go_grown
      have hb := hdr
      have hQ6 := hQ.below hdr
      have hD6 := hD.below hdr
      have hS0 : W5.drew.cell? ⟨X, 0, none⟩ = some (.int .i64 n) ∧ W5.drew.cell? ⟨X, 1, none⟩ = some (.slice A bs.length c) ∧ W5.drew.cell? ⟨Y, 0, none⟩ = some (.int .i64 qn) ∧ W5.drew.cell? ⟨Y, 1, none⟩ = some (.slice A3 qb.length c3) := ⟨hD6.c0, hD6.c1, hQ6.c0, hQ6.c1⟩
      clear hdr
      generalize W5.drew = wd at hS0 hQ6 hD6 hb ⊢
      refine wpE_tk (v := ?_) 0 [1, 2, 5, 7] (hy := ?_) (hS := hS0) (h := ?_)
      rotate_left
      ·intro w' hSw
       simp only [xg0, xg1, xg2]
       go_simp
       all_goals with_reducible rfl
      simp only [xg0, xg1, xg2, Act.put, xs0, xs1, xs2]
      refine wpE_tk (v := ?_) 1 [2, 5, 7] (hy := ?_) (hS := hS0) (h := ?_)
      rotate_left
      ·intro w' hSw
       simp only [xg0, xg1, xg2]
       go_simp
       all_goals with_reducible rfl
      simp only [xg0, xg1, xg2, Act.put, xs0, xs1, xs2]
      refine wpE_tk (v := ?_) 3 [4, 5, 7] (hy := ?_) (hS := hS0) (h := ?_)
      rotate_left
      ·intro w' hSw
       simp only [xg0, xg1, xg2]
       go_simp
       all_goals with_reducible rfl
      simp only [xg0, xg1, xg2, Act.put, xs0, xs1, xs2]
      refine wpE_tk (v := ?_) 4 [5, 7] (hy := ?_) (hS := hS0) (h := ?_)
      rotate_left
      ·intro w' hSw
       simp only [xg0, xg1, xg2]
       go_simp
       all_goals with_reducible rfl
      simp only [xg0, xg1, xg2, Act.put, xs0, xs1, xs2]
      refine wpE_step' 2 (of_decide_eq_true (by kernel_rfl)) (by kernel_rfl) (by kernel_rfl) (fun K hK => ?_)
      simp only [xg0, xg1, xg2]
      go_simp
      go_at_call 30
      refine (fitsOk_c ⟨qn, qb⟩ A3 g3 0 c3 _ _ (show qb.length ≤ 2000000 by omega) (Nat.le_refl _) hQ6.rd).mono ?_
      rintro e w6 ⟨rfl, hb6⟩
      rw [Hf2.out]
      replace hQ6 := hQ6.below hb6
      replace hD6 := hD6.below hb6
      replace hb := bthen hb hb6
      refine hK.out _ _ (.inr ⟨hD6.c0, hD6.c1, hQ6.c0, hQ6.c1⟩) ?_
      clear hK K hS0
      simp only [Act.put, xs0, xs1, xs2]
      refine wpE_step' 5 (of_decide_eq_true (by kernel_rfl)) (by kernel_rfl) (by kernel_rfl) (fun K hK => ?_)
      simp only [xg0, xg1, xg2]
      go_simp
      go_at_call 30
      refine (fitsOk_c ⟨n, bs⟩ A g1 0 c _ _ (show bs.length ≤ 2000000 by omega) (Nat.le_refl _) hD6.rd).mono ?_
      rintro e w7 ⟨rfl, hb7⟩
      rw [Hf.out]
      replace hQ6 := hQ6.below hb7
      replace hD6 := hD6.below hb7
      replace hb := bthen hb hb7
      refine hK.out _ _ (.inr ⟨hD6.c0, hD6.c1, hQ6.c0, hQ6.c1⟩) ?_
      clear hK K
      simp only [Act.put, xs0, xs1, xs2]
      have hS0 : w7.cell? ⟨X, 0, none⟩ = some (.int .i64 n) ∧ w7.cell? ⟨X, 1, none⟩ = some (.slice A bs.length c) ∧ w7.cell? ⟨Y, 0, none⟩ = some (.int .i64 qn) ∧ w7.cell? ⟨Y, 1, none⟩ = some (.slice A3 qb.length c3) := ⟨hD6.c0, hD6.c1, hQ6.c0, hQ6.c1⟩
      refine wpE_tk (v := ?_) 6 [7] (hy := ?_) (hS := hS0) (h := ?_)
      rotate_left
      ·intro w' hSw
       simp only [xg0, xg1, xg2]
       go_simp
       all_goals with_reducible rfl
      simp only [xg0, xg1, xg2, Act.put, xs0, xs1, xs2]
      refine wpE_step' 7 (of_decide_eq_true (by kernel_rfl)) (by kernel_rfl) (by kernel_rfl) (fun K hK => ?_)
      simp only [xg0, xg1, xg2]
      go_simp
      refine hK.out _ _ (.inl rfl) ?_
      clear hK K
      simp only [Act.put, xs0, xs1, xs2]
      refine wpE_done (by kernel_rfl) ?_ _
      clear hS0
      go_wp2_with fail
      go_meet
      case rel => exact ⟨rfl, hb⟩
     case true =>
      refine wp_regionE (fun w' => w'.cell? ⟨X, 0, none⟩ = some (.int .i64 n) ∧ w'.cell? ⟨X, 1, none⟩ = some (.slice A bs.length c) ∧ w'.cell? ⟨Y, 0, none⟩ = some (.int .i64 qn) ∧ w'.cell? ⟨Y, 1, none⟩ = some (.slice A3 qb.length c3)) 7 (by kernel_rfl) ?_
      change wpE _ _ _ _ _ _ 8 #[false, false, false, false, false, false, false, false] _ _
      have hdr : Below W5.heap.size W5 W5.drew := by go_grown
      have hb := hdr
      have hQ6 := hQ.below hdr
      have hD6 := hD.below hdr
      have hS0 : W5.drew.cell? ⟨X, 0, none⟩ = some (.int .i64 n) ∧ W5.drew.cell? ⟨X, 1, none⟩ = some (.slice A bs.length c) ∧ W5.drew.cell? ⟨Y, 0, none⟩ = some (.int .i64 qn) ∧ W5.drew.cell? ⟨Y, 1, none⟩ = some (.slice A3 qb.length c3) := ⟨hD6.c0, hD6.c1, hQ6.c0, hQ6.c1⟩
      clear hdr
      generalize W5.drew = wd at hS0 hQ6 hD6 hb ⊢
      refine wpE_tk (v := ?_) 0 [1, 2, 5, 7] (hy := ?_) (hS := hS0) (h := ?_)
      rotate_left
      ·intro w' hSw
       simp only [xg0, xg1, xg2]
       go_simp
       all_goals with_reducible rfl
      simp only [xg0, xg1, xg2, Act.put, xs0, xs1, xs2]
      refine wpE_tk (v := ?_) 1 [2, 5, 7] (hy := ?_) (hS := hS0) (h := ?_)
      rotate_left
      ·intro w' hSw
       simp only [xg0, xg1, xg2]
       go_simp
       all_goals with_reducible rfl
      simp only [xg0, xg1, xg2, Act.put, xs0, xs1, xs2]
      refine wpE_tk (v := ?_) 3 [4, 5, 7] (hy := ?_) (hS := hS0) (h := ?_)
      rotate_left
      ·intro w' hSw
       simp only [xg0, xg1, xg2]
       go_simp
       all_goals with_reducible rfl
      simp only [xg0, xg1, xg2, Act.put, xs0, xs1, xs2]
      refine wpE_tk (v := ?_) 4 [5, 7] (hy := ?_) (hS := hS0) (h := ?_)
      rotate_left
      ·intro w' hSw
       simp only [xg0, xg1, xg2]
       go_simp
       all_goals with_reducible rfl
      simp only [xg0, xg1, xg2, Act.put, xs0, xs1, xs2]
      refine wpE_step' 2 (of_decide_eq_true (by kernel_rfl)) (by kernel_rfl) (by kernel_rfl) (fun K hK => ?_)
      simp only [xg0, xg1, xg2]
      go_simp
      go_at_call 30
      refine (fitsOk_c ⟨qn, qb⟩ A3 g3 0 c3 _ _ (show qb.length ≤ 2000000 by omega) (Nat.le_refl _) hQ6.rd).mono ?_
      rintro e w6 ⟨rfl, hb6⟩
      rw [Hf2.out]
      replace hQ6 := hQ6.below hb6
      replace hD6 := hD6.below hb6
      replace hb := bthen hb hb6
      refine hK.out _ _ (.inr ⟨hD6.c0, hD6.c1, hQ6.c0, hQ6.c1⟩) ?_
      clear hK K hS0
      simp only [Act.put, xs0, xs1, xs2]
      refine wpE_step' 5 (of_decide_eq_true (by kernel_rfl)) (by kernel_rfl) (by kernel_rfl) (fun K hK => ?_)
      simp only [xg0, xg1, xg2]
      go_simp
      go_at_call 30
      refine (fitsOk_c ⟨n, bs⟩ A g1 0 c _ _ (show bs.length ≤ 2000000 by omega) (Nat.le_refl _) hD6.rd).mono ?_
      rintro e w7 ⟨rfl, hb7⟩
      rw [Hf.out]
      replace hQ6 := hQ6.below hb7
      replace hD6 := hD6.below hb7
      replace hb := bthen hb hb7
      refine hK.out _ _ (.inr ⟨hD6.c0, hD6.c1, hQ6.c0, hQ6.c1⟩) ?_
      clear hK K
      simp only [Act.put, xs0, xs1, xs2]
      have hS0 : w7.cell? ⟨X, 0, none⟩ = some (.int .i64 n) ∧ w7.cell? ⟨X, 1, none⟩ = some (.slice A bs.length c) ∧ w7.cell? ⟨Y, 0, none⟩ = some (.int .i64 qn) ∧ w7.cell? ⟨Y, 1, none⟩ = some (.slice A3 qb.length c3) := ⟨hD6.c0, hD6.c1, hQ6.c0, hQ6.c1⟩
      refine wpE_tk (v := ?_) 6 [7] (hy := ?_) (hS := hS0) (h := ?_)
      rotate_left
      ·intro w' hSw
       simp only [xg0, xg1, xg2]
       go_simp
       all_goals with_reducible rfl
      simp only [xg0, xg1, xg2, Act.put, xs0, xs1, xs2]
      refine wpE_step' 7 (of_decide_eq_true (by kernel_rfl)) (by kernel_rfl) (by kernel_rfl) (fun K hK => ?_)
      simp only [xg0, xg1, xg2]
      go_simp
      refine hK.out _ _ (.inl rfl) ?_
      clear hK K
      simp only [Act.put, xs0, xs1, xs2]
      refine wpE_done (by kernel_rfl) ?_ _
      clear hS0
      go_wp2_with fail
      go_meet
      case rel => exact ⟨rfl, hb⟩
    by_cases k1 : k = 1
    ·subst k1
     have Hal := hide (Hk1.out rfl)
     go_wp2_with (go_at_call 31; go_fit (impliesOk_c ⟨qn, qb⟩ ⟨n, bs⟩ A3 A g3 0 c3 g1 0 c _ _ (show qb.length ≤ 100000 by omega) (show bs.length ≤ 100000 by omega) (Nat.le_refl _) hQ.rd hD.rd); rintro e w6 ⟨rfl, hb6⟩; rw [Hal.out])
     go_meet
     case rel => exact ⟨rfl, hb6⟩
    by_cases k2 : k = 2
    ·subst k2
     have Hal := hide (Hk2.out rfl)
     go_wp2_with (go_at_call 31; go_fit (impliesOk_c ⟨n, bs⟩ ⟨qn, qb⟩ A A3 g1 0 c g3 0 c3 _ _ (show bs.length ≤ 100000 by omega) (show qb.length ≤ 100000 by omega) (Nat.le_refl _) hD.rd hQ.rd); rintro e w6 ⟨rfl, hb6⟩; rw [Hal.out])
     go_meet
     case rel => exact ⟨rfl, hb6⟩
    go_wp2_with fail
    go_meet
    case rel => exact ⟨rfl, Below.refl _ _⟩
   case rest =>
    obtain ⟨rfl, hbc⟩ := hcut
    clear x0 x1 y0 y1 e0 Hk1 Hk2 Hk3 Hk4
    replace hD := hD.below hbc
    replace hE := hE.below hbc
    replace hQ := hQ.below hbc
    replace hV := hV.below hbc
    have hqok : deskOk ⟨⟨qn, qb⟩, qp⟩ = true := by
     have := deskDo_ok rt ⟨k, a1, a2, a3, L⟩ Hok.out
     rw [HDD.out] at this
     exact this
    have Hqok := hide hqok
    clear hqok HDD Hyes Hi4 Hi5 Hi6
    have y0 := hQ.c0
    have y1 := hQ.c1
    have y2 := hQ.c2
    by_cases k6 : k = 6
    ·subst k6
     go_wp2_with (go_at_call 23; go_fit (deskOk_c qn qb qp A3 A4 g3 0 c3 g4 0 c4 _ _ (show qb.length ≤ 2000000 by omega) (show qp.length ≤ 2000000 by omega) Hql.out (Nat.le_refl _) hQ.rd hQ.rp); rintro e w6 ⟨rfl, hb6⟩; rw [Hqok.out]; replace hD := hD.below hb6; replace hE := hE.below hb6; have e0 := hE.c0)
     go_ret
     exact ⟨rfl, hD.bel⟩
    by_cases hp8 : (8 : Int) ≤ (ps.length : Int)
    ·go_wp2_with (go_at_call 23; go_fit (deskOk_c qn qb qp A3 A4 g3 0 c3 g4 0 c4 _ _ (show qb.length ≤ 2000000 by omega) (show qp.length ≤ 2000000 by omega) Hql.out (Nat.le_refl _) hQ.rd hQ.rp); rintro e w6 ⟨rfl, hb6⟩; rw [Hqok.out]; replace hD := hD.below hb6; replace hE := hE.below hb6; have e0 := hE.c0; have x2 := hD.c2)
     go_ret
     exact ⟨rfl, hD.bel⟩
    ·have hb := Hbk.out k6 (by omega)
     injection hb with h1 h2
     injection h1 with h3 h4
     injection h3 with h5 h6
     subst h2 h4 h5 h6
     go_wp2_with (first
      | (go_at_call 23; go_fit (deskOk_c qn qb qp A3 A4 g3 0 c3 g4 0 c4 _ _ (show qb.length ≤ 2000000 by omega) (show qp.length ≤ 2000000 by omega) Hql.out (Nat.le_refl _) hQ.rd hQ.rp); rintro e w6 ⟨rfl, hb6⟩; rw [Hqok.out]; replace hD := hD.below hb6; replace hE := hE.below hb6; replace hV := hV.below hb6; have e0 := hE.c0; have x0 := hD.c0; have x1 := hD.c1; have x2 := hD.c2; have v0 := hV.c0; have v1 := hV.c1; have v2 := hV.c2)
      | (go_at_call 19; refine (sameDesk_any _ _ _ _ _ _ A7 A8 A A2 g7 0 c7 g8 0 c8 g1 0 c g2 0 c2 _ _ (by omega) (by omega) Htl.out (Nat.le_refl _) hV.rd hV.rp hD.rd hD.rp).mono ?_; rintro e w7 ⟨rfl, hb7⟩; rw [sameD_yes.2 rfl]; replace hD := hD.below hb7))
     go_ret
     exact ⟨rfl, hD.bel⟩
end Go.Proofs.YtmnajkhoacogjaaGreatDoor
