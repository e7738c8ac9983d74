/-
 The draw of a desk and deeds.
-/
import Derived.Test.YtmnajkhoacogjaaGreatDoorD81
import Derived.Test.YtmnajkhoacogjaaGreatDoorR80
import Derived.Test.YtmnajkhoacogjaaGreatDoorW2
namespace Go.Proofs.YtmnajkhoacogjaaGreatDoor
set_option linter.unusedVariables false
set_option linter.unusedSimpArgs false
open Go Go.RowKit Pp

section
variable {P : Program} {ops : Array Oper} {Q : Exit → Act → World → Prop} {S : World → Prop} {e f : Nat} {J : World → Prop} {B : Value → World → Prop}
/-- One step of the chain, where the float stands ahead. -/
theorem wpF_stepB {m : Nat} {fl : Bool} {z : Value} {w : World} {L : Bool → Array Bool} {a : Value → Act} (i : Nat) (hi : i < ops.size) (hg : ops[i].guard = none)
  (hr0 : Region.ready .any ops (L false) = [f, i]) (hr1 : Region.ready .any ops (L true) = [i]) (hL : (L false).setIfInBounds f true = L true)
  (hF : Floats P ops Q S e f J B a) (hJ : J w) (hB : fl = true → B z w)
  (h : ∀ (fl : Bool) (z : Value) (w : World), J w → (fl = true → B z w) → ∀ K' : Act → World → Prop, Shut (∀ a' w', (i = e ∨ S w') → wpE P .any ops Q S e (fuelF m fl) ((L fl).setIfInBounds i true) a' w' → K' a' w') → Oper.wp P ops[i] (a z) w K' Q) :
  wpE P .any ops Q S e (fuelF (m + 1) fl) (L fl) (a z) w := by
 have ht : ∀ z w, J w → B z w → wpE P .any ops Q S e (m + 1) (L true) (a z) w := fun z w hJ hB => by
  refine wpE_step' i hi hg hr1 (fun K hK => h true z w hJ (fun _ => hB) K ?_)
  exact hK
 cases fl
 ·show wpE P .any ops Q S e (m + 1 + 1) (L false) (a z) w
  refine ⟨fun h0 => (by rw [hr0] at h0; cases h0), fun k hk => ?_⟩
  rw [hr0] at hk
  rcases List.mem_cons.1 hk with rfl | hk
  ·refine hF.2 z w hJ _ (fun z' w' hS' hJ' hB' => ⟨.inr hS', ?_⟩)
   rw [hL]
   exact ht z' w' hJ' hB'
  ·obtain rfl := List.mem_singleton.1 hk
   refine wpOp_step (Array.getElem?_eq_getElem hi) (fun K' hK => ?_)
   rw [if_pos (by unfold Region.wanted; rw [hg])]
   exact h false z w hJ hB K' (fun a w hS hW => hK a w ⟨hS, hW⟩)
 ·exact ht z w hJ (hB rfl)
end
/-- Deeds that are being drawn. -/
structure LZ (w wx : World) (g : Nat) (K : Int) (v : Value) (ds : List Dd) : Prop where
 rd : RdO wx g K
 gr : w.grownBy wx (some g)
 gl : g < w.heap.size
 own : OwnDd w.heap.size wx v ds
theorem LZ.more {w wx : World} {g : Nat} {K K' : Int} {v : Value} {ds : List Dd} (h : LZ w wx g K v ds) (hK : K ≤ K') : LZ w wx g K' v ds := { h with rd := h.rd.more hK }
theorem LZ.pick {w wx w' : World} {g : Nat} {K K' : Int} {v : Value} {ds : List Dd} (h : LZ w wx g K v ds) (hR : RdO w' g K') (hg : wx.grownBy w' (some g)) : LZ w w' g K' v ds :=
 ⟨hR, gr_pick h.gr hg, h.gl, own_far h.own hg h.gl⟩
theorem LZ.below {w wx w' : World} {g : Nat} {K : Int} {v : Value} {ds : List Dd} (h : LZ w wx g K v ds) (hb : Below wx.heap.size wx w') : LZ w w' g K v ds :=
 ⟨h.rd.below hb, gr_below h.gr hb, h.gl, OwnDd.below h.own hb⟩
theorem LZ.app {w wx w' : World} {g : Nat} {K : Int} {v v' : Value} {ds ds' : List Dd} (h : LZ w wx g K v ds) (hg : wx.grownBy w' v.ownBlock) (hown : OwnDd w.heap.size w' v' ds') : LZ w w' g K v' ds' := by
 have hq : ∀ k, v.ownBlock = some k → w.heap.size ≤ k := fun k hk => (World.ownsRow.lt h.own k hk).1
 exact ⟨h.rd.other hg (fun k e => by have := hq k e; have := h.gl; omega), gr_then h.gr hg (fun k e => .inl (hq k e)), h.gl, hown⟩
namespace Pp
def DeedsD (g : Nat) (K : Int) (w w' : World) (v : Value) : Prop := ∃ b c ds, v = .slice (some ⟨b, 0, none⟩) ds.length c ∧ ds.length ≤ 5 ∧ OwnDd w.heap.size w' (.slice (some ⟨b, 0, none⟩) ds.length c) ds ∧ RdO w' g K ∧ w.grownBy w' (some g)
end Pp
set_option maxHeartbeats 4000000 in
set_option maxRecDepth 100000 in
theorem deeds_c (g : Nat) (K0 n : Int) (A : Option Addr) (L c : Nat) (w : World) (hK : 0 ≤ K0 ∧ K0 ≤ 50000) (hn : -1000000 ≤ n ∧ n ≤ 1000000) (hL : L ≤ 1000000) (hR : RdO w g K0) :
  Calls Tryz.prog 54 #[.pointer (some ⟨g, 0, none⟩), .agg #[.int .i64 n, .slice A L c]] w fun e w' => ∃ v, e = .returned v ∧ DeedsD g (K0 + 2000) w w' v := by
 obtain ⟨i0, hi0, hz0, hz1, hz2⟩ := info_parts infoDd
 have hgl := hR.lt
 have p0 : (w.alloc (.cells #[.int .i64 n, .slice A L c] 34)).cell? ⟨w.heap.size, 0, none⟩ = some (.int .i64 n) := by simp [go_sem]
 have p1 : (w.alloc (.cells #[.int .i64 n, .slice A L c] 34)).cell? ⟨w.heap.size, 1, none⟩ = some (.slice A L c) := by simp [go_sem]
 have hal : w.grownBy (w.alloc (.cells #[.int .i64 n, .slice A L c] 34)) (some g) := gr_new w _ _
 have hs : w.heap.size < (w.alloc (.cells #[.int .i64 n, .slice A L c] 34)).heap.size := by simp
 have hR1 := hR.alloc (.cells #[.int .i64 n, .slice A L c] 34)
 clear hR
 go_enter Tryz.func54, Tryz.ntmps54
 go_upto_region 1 with fail
 generalize w.alloc (.cells #[.int .i64 n, .slice A L c] 34) = W at p0 p1 hal hs hR1 ⊢
 have hPg : w.heap.size ≠ g := by omega
 have hL0 : LZ W (W.alloc (.cells #[] 41)) g K0 (.slice (some ⟨W.heap.size, 0, none⟩) 0 0) [] := ⟨hR1.alloc _, gr_new W _ _, by omega, own_empty (at_new rfl) (Nat.le_refl _)⟩
 go_upto_region 2 with fail
 generalize W.alloc (.cells #[] 41) = W1 at hL0 ⊢
 go_wp2_with (go_at_call 88; refine (pick_c g K0 6 _ (by omega) (by omega) hL0.rd).mono ?_; rintro e w2 ⟨v7, rfl, b1, b2, -, hR2, G2, -⟩; replace b2 := b2 (by omega); have hL1 := hL0.pick hR2 G2)
 clear hL0 hR2 G2
 obtain ⟨k7, rfl⟩ := Int.eq_ofNat_of_zero_le b1
 go_loopg [5, 6] (k7 + 1) (fun gh s5 s6 wr => ∃ (j b3 c3 : Nat) (ds : List Dd), j ≤ 5 ∧ gh = j + 1 ∧ s5 = .slice (some ⟨b3, 0, none⟩) ds.length c3 ∧ s6 = .int .i64 j ∧ ds.length + j ≤ 5 ∧ LZ W wr g (K0 + 1 + (5 - j) * 250) (.slice (some ⟨b3, 0, none⟩) ds.length c3) ds)
 case atStart => exact ⟨k7, _, _, [], by omega, rfl, rfl, rfl, by simp; omega, hL1.more (by omega)⟩
 case round =>
  clear hL1 b1 b2
  obtain ⟨j, b3, c3, ds, hj, rfl, rfl, rfl, hdj, hL1⟩ := hrel
  by_cases hjz : j = 0
  ·subst hjz
   go_wp2_with fail
   go_ret
   exact ⟨_, rfl, b3, c3, ds, rfl, by omega, own_less hL1.own (Nat.le_of_lt hs), hL1.rd.more (by omega), gr_then hal hL1.gr (fun k e => .inr (by injection e with e; exact e.symm))⟩
  ·have hjp : (0 : Int) < (j : Int) := by omega
   obtain ⟨i, rfl⟩ : ∃ i, j = i + 1 := ⟨j - 1, by omega⟩
   obtain ⟨K1, hK1d⟩ : ∃ K1 : Int, K0 + 1 + (5 - ((i + 1 : Nat) : Int)) * 250 = K1 := ⟨_, rfl⟩
   rw [hK1d] at hL1
   have hK1b : 0 ≤ K1 ∧ K1 + 250 ≤ K0 + 1 + (5 - (i : Int)) * 250 ∧ K1 ≤ 100000 := by omega
   clear hK1d
   have x0 := far_cell hL1.gr p0 hPg
   have x1 := far_cell hL1.gr p1 hPg
   go_upto_region 4 with (first
    | (go_at_call 61; refine (deed_c g K1 n A L c _ (by omega) hn hL hL1.rd).mono ?_; rintro e w4 ⟨k, a1, a2, a3, s, rfl, hR4, G4⟩; have hL4 := hL1.pick hR4 G4)
    | (at_builtin; refine app_list _ rfl (.tmp 14) (.tmp 18) _ rfl W.heap.size 41 i0 _ 5 48 Tryz.underlying47 hi0 hz0 hz1 hz2 rfl (by omega) (.slice (some ⟨b3, 0, none⟩) ds.length c3) ds.length (ddCs ds) rfl (World.ownsRow.alloc hL4.own _) _ 1 _ [.int .i64 k, .int .i64 a1, .int .i64 a2, .int .i64 a3, .string s] rfl rfl (NewsAt.block (cs := #[.int .i64 k, .int .i64 a1, .int .i64 a2, .int .i64 a3, .string s]) (at_new rfl)) (by simp [Value.oneCell']) (by omega) (by omega) (by have := hL4.gr.size; simp only [World.size_alloc]; omega) ?_; intro A5 c5 w5 hown5 hg5 hat5))
   obtain ⟨b5, rfl⟩ : ∃ b5, A5 = some ⟨b5, 0, none⟩ := by
    obtain ⟨A', g', c', hv, h1, -, -⟩ := own_form hown5
    injection hv with hv1 _ _
    exact ⟨g', hv1.trans (h1 (by omega))⟩
   have hlx : (ds ++ [(⟨k, a1, a2, a3, s.data.toList⟩ : Dd)]).length = ds.length + 1 := by simp
   have hL5 := (hL4.below (show Below w4.heap.size w4 (w4.alloc (.cells #[.int .i64 k, .int .i64 a1, .int .i64 a2, .int .i64 a3, .string s] 41)) by go_grown)).app hg5 (v' := .slice (some ⟨b5, 0, none⟩) (ds.length + 1) c5) (ds' := ds ++ [(⟨k, a1, a2, a3, s.data.toList⟩ : Dd)]) (by
    unfold OwnDd
    rw [hlx, ddCs_append]
    have e : ddCs [(⟨k, a1, a2, a3, s.data.toList⟩ : Dd)] = [.int .i64 k, .int .i64 a1, .int .i64 a2, .int .i64 a3, .string s] := by simp [ddCs, ← byts_of (s := s) rfl]
    rw [e]
    exact hown5)
   have Hlx := hide hlx
   clear hlx hL4 hL1 hR4 G4 hown5 hg5 hat5 x0 x1
   generalize ds ++ [(⟨k, a1, a2, a3, s.data.toList⟩ : Dd)] = ds5 at hL5 Hlx
   go_wp2_with fail
   go_roundg (i + 1)
   case measure => go_light; omega
   case rel => go_light; exact ⟨i, b5, c5, ds5, by omega, rfl, by rw [Hlx.out], by go_num, by rw [Hlx.out]; omega, by rw [Hlx.out]; exact hL5.more (by omega)⟩

theorem cell_ltZ {w : World} {b o : Nat} {v : Value} (h : w.cell? ⟨b, o, none⟩ = some v) : b < w.heap.size := by
 unfold World.cell? at h
 split at h
 ·rename_i c _ _ hc
  exact (Array.getElem?_eq_some_iff.1 hc).1
 ·cases h
namespace Pp
/-- A drawn desk and drawn deeds. -/
def RunE (w w' : World) (v : Value) : Prop := ∃ A c A2 c2, ∃ d : Dk, ∃ bl cl ds, v = .tuple #[.agg #[.int .i64 d.now.n, .slice A d.now.bs.length c, .slice A2 d.past.length c2], .slice (some ⟨bl, 0, none⟩) ds.length cl] ∧ DkS d ∧ d.past.length ≤ 8 ∧ ds.length ≤ 41 ∧ OwnB w.heap.size w' (.slice A d.now.bs.length c) d.now.bs ∧ OwnPs w.heap.size w' (.slice A2 d.past.length c2) d.past ∧ OwnDd w.heap.size w' (.slice (some ⟨bl, 0, none⟩) ds.length cl) ds
end Pp
theorem ZD.td {w0 W : World} {Y : Nat} (h : ZD w0 W Y) {a : Value} {b : Value} {d : Value} {W9 : World} (e : W9 = ((W.setCell ⟨Y, 0, none⟩ a).setCell ⟨Y, 1, none⟩ b).setCell ⟨Y, 2, none⟩ d) : W9.cell? ⟨Y, 0, none⟩ = some a ∧ W9.cell? ⟨Y, 1, none⟩ = some b ∧ W9.cell? ⟨Y, 2, none⟩ = some d := by
 subst e
 exact three_cellsD (a := a) (b := b) (d := d) h.z0 h.z1 h.z2
def zdd : Dd := ⟨0, 0, 0, 0, []⟩
theorem own_zdd (W : World) (n : Nat) (hn : n ≤ 1000) : OwnDd W.heap.size (W.alloc (.cells (madeCells #[.int .i64 0, .int .i64 0, .int .i64 0, .int .i64 0, .string ⟨#[]⟩] (n * 5)) 41)) (.slice (some ⟨W.heap.size, 0, none⟩) (List.replicate n zdd).length n) (List.replicate n zdd) := by
 have hrow : (W.alloc (.cells (madeCells #[.int .i64 0, .int .i64 0, .int .i64 0, .int .i64 0, .string ⟨#[]⟩] (n * 5)) 41)).rowIs W.heap.size 41 (n * 5) (fun j => if j % 5 = 4 then .string ⟨#[]⟩ else .int .i64 0) := by
  have h := World.rowIs_alloc W (madeCells #[.int .i64 0, .int .i64 0, .int .i64 0, .int .i64 0, .string ⟨#[]⟩] (n * 5)) 41 (fun j => if j % 5 = 4 then .string ⟨#[]⟩ else .int .i64 0) (fun i hi => by
   rw [size_madeCells] at hi
   have h3 : i % 5 = 0 ∨ i % 5 = 1 ∨ i % 5 = 2 ∨ i % 5 = 3 ∨ i % 5 = 4 := by omega
   simp only [madeCells, Array.getElem?_map]
   rw [Array.getElem?_eq_getElem (by simpa using hi)]
   simp
   rcases h3 with h | h | h | h | h <;> rw [h] <;> rfl)
  rwa [size_madeCells] at h
 unfold OwnDd
 rw [List.length_replicate]
 refine row_own hrow (fun j hj => ?_) (by rw [ddCs_length, List.length_replicate]) (Nat.le_refl _) (Nat.le_refl _) (by unfold maxLen; omega)
 have hx : (List.replicate n zdd)[j / 5]? = some zdd := by rw [List.getElem?_replicate, if_pos (by omega)]
 obtain ⟨g0, g1, g2, g3, g4⟩ := ddCs_get _ _ _ hx
 have h3 : j % 5 = 0 ∨ j % 5 = 1 ∨ j % 5 = 2 ∨ j % 5 = 3 ∨ j % 5 = 4 := by omega
 have hjj : j = j / 5 * 5 + j % 5 := by omega
 rcases h3 with h | h | h | h | h <;> rw [h] at hjj ⊢ <;> rw [hjj]
 ·exact g0
 ·exact g1
 ·exact g2
 ·exact g3
 ·exact g4
set_option maxHeartbeats 4000000 in
set_option maxRecDepth 100000 in
theorem drawDeskRun_c (A0 : Option Addr) (n0 c0 : Nat) (zs : List Int) (w : World) (hn0 : n0 ≤ 1048576) (hc0 : n0 ≤ c0) (hA0 : n0 = 0 ∨ A0.isSome = true) (hb0 : BytesAt w w.heap.size A0 n0 zs) :
  Calls Tryz.prog 16 #[.slice A0 n0 c0] w fun e w' => ∃ v, e = .returned v ∧ RunE w w' v ∧ Below w.heap.size w w' := by
 have hZ2 : ZD w (w.alloc (.cells #[.int .i64 0, .slice none 0 0, .slice none 0 0] 37)) w.heap.size := zd_at rfl (Nat.le_refl _)
 have hal : Below w.heap.size w (w.alloc (.cells #[.int .i64 0, .slice none 0 0, .slice none 0 0] 37)) := by go_grown
 have hs : (w.alloc (.cells #[.int .i64 0, .slice none 0 0, .slice none 0 0] 37)).heap.size = w.heap.size + 1 := by simp
 have hb : BytesAt _ (w.alloc (.cells #[.int .i64 0, .slice none 0 0, .slice none 0 0] 37)).heap.size A0 n0 zs := hb0.below hal (by rw [hs]; omega)
 obtain ⟨i0, hi0, hz0, hz1, hz2⟩ := info_parts infoDd
 have hmk := fun W => run_make (P := Tryz.prog) W 47 41 i0 (.agg #[.int .i64 0, .int .i64 0, .int .i64 0, .int .i64 0, .string ⟨#[]⟩]) Tryz.underlying47 hi0 hz0 .i64 .i64 41 41 (by omega) (Int.le_refl _) (by rw [hz2]; omega) (by omega)
 simp only [Int.toNat_natCast, hz1] at hmk
 have Hmk := hide hmk
 clear hb0 hmk
 go_enter Tryz.func16, Tryz.ntmps16
 go_upto_region 1 with fail
 generalize w.alloc (.cells #[.int .i64 0, .slice none 0 0, .slice none 0 0] 37) = W at hZ2 hal hs hb ⊢
 have Hs := hide hs
 clear hs
 go_upto_region 3 with (first
  | (go_at_call 51; go_fit (open_c A0 n0 c0 zs _ hn0 hc0 hA0 hb); rintro e w1 ⟨rfl, hR1, hb1, hs1⟩; have Hs1 := hide hs1; clear hs1)
  | (go_at_call 52; refine (desk_c W.heap.size 0 12 _ (by omega) (by omega) hR1).mono ?_; rintro e w2 ⟨v, rfl, ⟨A, c, A2, c2, d, rfl, hDS, h8, own2, ops2, hR2, hG2⟩⟩))
 obtain ⟨⟨n, bs⟩, ps⟩ := d
 dsimp only at own2 ops2 hDS h8 ⊢
 have hn := hDS.1
 have hbl := hDS.2.1
 dsimp only at hn hbl
 have hgw := Hs.out
 have hw1 := Hs1.out
 have hw2 := hG2.size
 replace hZ2 := ((hZ2.below hb1).grown hG2 (fun k e => by injection e with e; omega)).below (show Below w2.heap.size w2 (w2.alloc (.cells #[.int .i64 n, .slice A bs.length c, .slice A2 ps.length c2] 37)) by go_grown)
 have hal2 : Below w2.heap.size w2 (w2.alloc (.cells #[.int .i64 n, .slice A bs.length c, .slice A2 ps.length c2] 37)) := by go_grown
 have hbw := (bthen hal hb1).grown hG2 (bthen hal hb1).size (fun k hk => by injection hk with hk; omega)
 replace hbw := bthen hbw hal2
 have hR3 := hR2.alloc (.cells #[.int .i64 n, .slice A bs.length c, .slice A2 ps.length c2] 37)
 have own3 := own_below own2 hal2
 have ops3 := ops2.below hal2
 obtain ⟨x0, x1, x2⟩ : (w2.alloc (.cells #[.int .i64 n, .slice A bs.length c, .slice A2 ps.length c2] 37)).cell? ⟨w2.heap.size, 0, none⟩ = some (.int .i64 n) ∧ (w2.alloc (.cells #[.int .i64 n, .slice A bs.length c, .slice A2 ps.length c2] 37)).cell? ⟨w2.heap.size, 1, none⟩ = some (.slice A bs.length c) ∧ (w2.alloc (.cells #[.int .i64 n, .slice A bs.length c, .slice A2 ps.length c2] 37)).cell? ⟨w2.heap.size, 2, none⟩ = some (.slice A2 ps.length c2) := ⟨by simp [go_sem], by simp [go_sem], by simp [go_sem]⟩
 have hxl : w2.heap.size < (w2.alloc (.cells #[.int .i64 n, .slice A bs.length c, .slice A2 ps.length c2] 37)).heap.size := by simp
 have hX1 : ¬ w2.heap.size = w.heap.size ∧ ¬ w2.heap.size = W.heap.size ∧ W.heap.size < w1.heap.size ∧ w.heap.size < w1.heap.size := by omega
 generalize w2.alloc (.cells #[.int .i64 n, .slice A bs.length c, .slice A2 ps.length c2] 37) = W3 at hZ2 hbw hR3 own3 ops3 x0 x1 x2 hxl ⊢
 clear hR2 hG2 own2 ops2 hal2 hb1 hR1 hb hal hw2 hw1 hgw
 generalize w2.heap.size = X at x0 x1 x2 hxl hX1 ⊢
 obtain ⟨hX1, hX3, hX4, hX5⟩ := hX1
 go_upto_if 11 with (go_at_call 53; go_fit (odd_c W.heap.size _ 30 _ (by omega) (by omega) hR3); rintro e w4 ⟨ob, rfl, hR4, G4, hs4⟩)
 have hZ4 := hZ2.grown G4 (fun k e => by injection e with e; have := Hs.out; omega)
 have own4 := own_far own3 G4 hX4
 have ops4 := ops3.far G4 hX4
 have y0 := far_cell G4 x0 hX3
 have y1 := far_cell G4 x1 hX3
 have y2 := far_cell G4 x2 hX3
 have hb4 := hbw.grown G4 hbw.size (fun k hk => by injection hk with hk; have := Hs.out; omega)
 have hxl4 : X < w4.heap.size := by omega
 clear hZ2 own3 ops3 x0 x1 x2 hbw hR3 G4 hs4 hxl
 cases ob
 ·go_upto_region 5 with fail
  refine wp_regionE (fun w' => w'.cell? ⟨X, 0, none⟩ = some (.int .i64 n) ∧ w'.cell? ⟨X, 1, none⟩ = some (.slice A bs.length c) ∧ w'.cell? ⟨X, 2, none⟩ = some (.slice A2 ps.length c2)) 6 (by kernel_rfl) ?_
  change wpE _ _ _ _ _ _ 7 #[false, false, false, false, false, false, false] _ _
  have hdr : Below w4.heap.size w4 w4.drew := by go_grown
  have hS0 : w4.drew.cell? ⟨X, 0, none⟩ = some (.int .i64 n) ∧ w4.drew.cell? ⟨X, 1, none⟩ = some (.slice A bs.length c) ∧ w4.drew.cell? ⟨X, 2, none⟩ = some (.slice A2 ps.length c2) := ⟨y0, y1, y2⟩
  replace hZ4 := hZ4.below hdr
  replace hb4 := bthen hb4 hdr
  replace hR4 := hR4.below hdr
  replace own4 := own_below own4 hdr
  replace ops4 := ops4.below hdr
  have hwd : w1.heap.size ≤ w4.drew.heap.size := Nat.le_trans (by
   have := hb4.size
   obtain ⟨cs, hrow, -⟩ := ops4
   have h1 := Hs1.out
   have h2 := hR4.lt
   omega) (Nat.le_refl _)
  clear y0 y1 y2 hdr hxl4
  generalize w4.drew = wd at hS0 hZ4 hb4 hR4 own4 ops4 hwd ⊢
  refine wpE_tk (v := ?_) 0 [5, 6] (hy := ?_) (hS := hS0) (h := ?_)
  rotate_left
  ·intro w' hSw
   simp only [xg0, xg1, xg2]
   go_simp
   all_goals with_reducible rfl
  simp only [xg0, xg1, xg2, Act.put, xs0, xs1, xs2]
  refine wpE_tk (v := ?_) 1 [4, 6] (hy := ?_) (hS := hS0) (h := ?_)
  rotate_left
  ·intro w' hSw
   simp only [xg0, xg1, xg2]
   go_simp
   all_goals with_reducible rfl
  simp only [xg0, xg1, xg2, Act.put, xs0, xs1, xs2]
  refine wpE_tk (v := ?_) 2 [3, 4, 6] (hy := ?_) (hS := hS0) (h := ?_)
  rotate_left
  ·intro w' hSw
   simp only [xg0, xg1, xg2]
   go_simp
   all_goals with_reducible rfl
  simp only [xg0, xg1, xg2, Act.put, xs0, xs1, xs2]
  refine wpE_tk (v := ?_) 3 [4, 6] (hy := ?_) (hS := hS0) (h := ?_)
  rotate_left
  ·intro w' hSw
   simp only [xg0, xg1, xg2]
   go_simp
   all_goals with_reducible rfl
  simp only [xg0, xg1, xg2, Act.put, xs0, xs1, xs2]
  refine wpE_step' 4 (of_decide_eq_true (by kernel_rfl)) (by kernel_rfl) (by kernel_rfl) (fun K hK => ?_)
  simp only [xg0, xg1, xg2]
  go_simp
  go_at_call 54
  refine (deeds_c W.heap.size (0 + 2000 + 1) n A bs.length c _ (by omega) (by omega) (by omega) hR4).mono ?_
  rintro e w6 ⟨v, rfl, ⟨bl, cl, ds, rfl, h5, ownL, -, hG6⟩⟩
  have hS6 : w6.cell? ⟨X, 0, none⟩ = some (.int .i64 n) ∧ w6.cell? ⟨X, 1, none⟩ = some (.slice A bs.length c) ∧ w6.cell? ⟨X, 2, none⟩ = some (.slice A2 ps.length c2) := ⟨far_cell hG6 hS0.1 hX3, far_cell hG6 hS0.2.1 hX3, far_cell hG6 hS0.2.2 hX3⟩
  replace hZ4 := hZ4.grown hG6 (fun k e => by injection e with e; have := Hs.out; omega)
  replace own4 := own_far own4 hG6 hX4
  replace ops4 := ops4.far hG6 hX4
  replace hb4 := hb4.grown hG6 hb4.size (fun k hk => by injection hk with hk; have := Hs.out; omega)
  replace ownL := own_less ownL hwd
  refine hK.out _ _ (.inr hS6) ?_
  clear hK K hS0 hG6 hR4 hwd
  simp only [Act.put, xs0, xs1, xs2]
  have z0 := hZ4.z0
  have z1 := hZ4.z1
  have z2 := hZ4.z2
  have zf0 := hZ4.zf 0
  have zf1 := hZ4.zf 1
  have zf2 := hZ4.zf 2
  obtain ⟨r0, r1, r2⟩ := three_cellsD (a := .int .i64 n) (b := .slice A bs.length c) (d := .slice A2 ps.length c2) z0 z1 z2
  have hg7 : w6.grownBy (((w6.setCell ⟨w.heap.size, 0, none⟩ (.int .i64 n)).setCell ⟨w.heap.size, 1, none⟩ (.slice A bs.length c)).setCell ⟨w.heap.size, 2, none⟩ (.slice A2 ps.length c2)) (some w.heap.size) := grown_cells [.int .i64 n, .slice A bs.length c, .slice A2 ps.length c2] 0 w6 (World.grownBy.refl _ _)
  have hS7 := And.intro (far_cell hg7 hS6.1 hX1) (And.intro (far_cell hg7 hS6.2.1 hX1) (far_cell hg7 hS6.2.2 hX1))
  have own7 := own_far own4 hg7 hX5
  have ops7 := ops4.far hg7 hX5
  have ownL7 := own_far ownL hg7 hX5
  have hlo : w.heap.size ≤ w.heap.size := Nat.le_refl _
  have hb7 := ((hb4.setCell (p := ⟨w.heap.size, 0, none⟩) hlo (.int .i64 n)).setCell (p := ⟨w.heap.size, 1, none⟩) hlo (.slice A bs.length c)).setCell (p := ⟨w.heap.size, 2, none⟩) hlo (.slice A2 ps.length c2)
  refine wpE_step' 5 (of_decide_eq_true (by kernel_rfl)) (by kernel_rfl) (by kernel_rfl) (fun K hK => ?_)
  simp only [xg0, xg1, xg2]
  go_simp
  refine hK.out _ _ (.inr hS7) ?_
  clear hK K hS7 hS6 z0 z1 z2 zf0 zf1 zf2 own4 ops4 ownL hb4 hZ4 hg7
  simp only [Act.put, xs0, xs1, xs2]
  generalize ((w6.setCell ⟨w.heap.size, 0, none⟩ (.int .i64 n)).setCell ⟨w.heap.size, 1, none⟩ (.slice A bs.length c)).setCell ⟨w.heap.size, 2, none⟩ (.slice A2 ps.length c2) = W7 at r0 r1 r2 own7 ops7 ownL7 hb7 ⊢
  refine wpE_step' 6 (of_decide_eq_true (by kernel_rfl)) (by kernel_rfl) (by kernel_rfl) (fun K hK => ?_)
  simp only [xg0, xg1, xg2]
  go_simp
  refine hK.out _ _ (.inl rfl) ?_
  clear hK K
  simp only [Act.put, xs0, xs1, xs2]
  refine wpE_done (by kernel_rfl) ?_ _
  go_wp2_with fail
  refine bodyPost_ret (v := .tuple #[.agg #[.int .i64 n, .slice A bs.length c, .slice A2 ps.length c2], .slice (some ⟨bl, 0, none⟩) ds.length cl]) (by simp [results, Tryz.results16, go_sem, r0, r1, r2]) rfl ?_
  exact ⟨_, rfl, ⟨A, c, A2, c2, ⟨⟨n, bs⟩, ps⟩, bl, cl, ds, rfl, hDS, h8, by omega, own_less own7 (by omega), ops7.less (by omega), own_less ownL7 (by omega)⟩, hb7⟩
 ·go_upto_region 4 with fail
  refine wp_regionE (fun w' => w'.cell? ⟨X, 0, none⟩ = some (.int .i64 n) ∧ w'.cell? ⟨X, 1, none⟩ = some (.slice A bs.length c) ∧ w'.cell? ⟨X, 2, none⟩ = some (.slice A2 ps.length c2)) 3 (by kernel_rfl) ?_
  change wpE _ _ _ _ _ _ 4 #[false, false, false, false] _ _
  have hdr : Below w4.heap.size w4 w4.drew := by go_grown
  have hwd : w1.heap.size ≤ w4.heap.size := by
   have h1 := Hs1.out
   have h2 := hR4.lt
   omega
  have hJ : (ZD w w4.drew w.heap.size ∧ OwnB w1.heap.size w4.drew (.slice A bs.length c) bs ∧ OwnPs w1.heap.size w4.drew (.slice A2 ps.length c2) ps ∧ (w4.drew.cell? ⟨X, 0, none⟩ = some (.int .i64 n) ∧ w4.drew.cell? ⟨X, 1, none⟩ = some (.slice A bs.length c) ∧ w4.drew.cell? ⟨X, 2, none⟩ = some (.slice A2 ps.length c2)) ∧ Below w.heap.size w w4.drew ∧ w1.heap.size ≤ w4.drew.heap.size) := ⟨hZ4.below hdr, own_below own4 hdr, ops4.below hdr, ⟨y0, y1, y2⟩, bthen hb4 hdr, hwd⟩
  have hS0 := hJ.2.2.2.1
  clear hZ4 own4 ops4 y0 y1 y2 hb4 hdr hwd hR4 hxl4
  generalize w4.drew = wd at hJ hS0 ⊢
  refine wpE_tk (v := ?_) 0 [2, 3] (hy := ?_) (hS := hS0) (h := ?_)
  rotate_left
  ·intro w' hSw
   simp only [xg0, xg1, xg2]
   go_simp
   all_goals with_reducible rfl
  simp only [xg0, xg1, xg2, Act.put, xs0, xs1, xs2]
  refine wpF_start 1 13 (fun wx => (ZD w wx w.heap.size ∧ OwnB w1.heap.size wx (.slice A bs.length c) bs ∧ OwnPs w1.heap.size wx (.slice A2 ps.length c2) ps ∧ (wx.cell? ⟨X, 0, none⟩ = some (.int .i64 n) ∧ wx.cell? ⟨X, 1, none⟩ = some (.slice A bs.length c) ∧ wx.cell? ⟨X, 2, none⟩ = some (.slice A2 ps.length c2)) ∧ Below w.heap.size w wx ∧ w1.heap.size ≤ wx.heap.size)) (fun z wx => (∃ G, z = Value.slice (some ⟨G, 0, none⟩) 41 41 ∧ OwnDd w1.heap.size wx (.slice (some ⟨G, 0, none⟩) (List.replicate 41 zdd).length 41) (List.replicate 41 zdd))) (of_decide_eq_true (by kernel_rfl)) rfl hJ (fun fl z hB => ?_)
  simp only [Act.put, xs0, xs1, xs2]
  apply wpF_stepB (f := 1) (fl := fl) (z := z) (J := fun wx => (ZD w wx w.heap.size ∧ OwnB w1.heap.size wx (.slice A bs.length c) bs ∧ OwnPs w1.heap.size wx (.slice A2 ps.length c2) ps ∧ (wx.cell? ⟨X, 0, none⟩ = some (.int .i64 n) ∧ wx.cell? ⟨X, 1, none⟩ = some (.slice A bs.length c) ∧ wx.cell? ⟨X, 2, none⟩ = some (.slice A2 ps.length c2)) ∧ Below w.heap.size w wx ∧ w1.heap.size ≤ wx.heap.size)) (B := fun z wx => (∃ G, z = Value.slice (some ⟨G, 0, none⟩) 41 41 ∧ OwnDd w1.heap.size wx (.slice (some ⟨G, 0, none⟩) (List.replicate 41 zdd).length 41) (List.replicate 41 zdd))) 2
  case hi => exact of_decide_eq_true (by kernel_rfl)
  case hg => kernel_rfl
  case hr0 => kernel_rfl
  case hr1 => kernel_rfl
  case hL => kernel_rfl
  case hJ => exact hJ
  case hB => exact hB
  case hF =>
   refine floats_of (of_decide_eq_true (by kernel_rfl)) (by kernel_rfl) (by kernel_rfl) (fun _ h => h.2.2.2.1) ?_
   clear hS0 hJ hB
   intro z wx hJ K hK
   have hmk := Hmk.out
   simp only [xg0, xg1, xg2]
   go_simp
   have hq : Below wx.heap.size wx (wx.alloc (.cells (madeCells #[.int .i64 0, .int .i64 0, .int .i64 0, .int .i64 0, .string ⟨#[]⟩] (41 * 5)) 41)) := by go_grown
   exact hK.out _ _ ⟨hJ.1.below hq, own_below hJ.2.1 hq, hJ.2.2.1.below hq, ⟨((bcell hq).1 _ _ (cell_ltZ hJ.2.2.2.1.1)).trans hJ.2.2.2.1.1, ((bcell hq).1 _ _ (cell_ltZ hJ.2.2.2.1.1)).trans hJ.2.2.2.1.2.1, ((bcell hq).1 _ _ (cell_ltZ hJ.2.2.2.1.1)).trans hJ.2.2.2.1.2.2⟩, bthen hJ.2.2.2.2.1 hq, Nat.le_trans hJ.2.2.2.2.2 hq.size⟩ ⟨_, rfl, own_less (own_zdd wx 41 (by omega)) hJ.2.2.2.2.2⟩
  clear hS0 hJ hB
  intro fl z wx hJ hB K hK
  simp only [xg0, xg1, xg2]
  obtain ⟨hZ4, own4, ops4, hS0, hb4, hwd⟩ := hJ
  have z0 := hZ4.z0
  have z1 := hZ4.z1
  have z2 := hZ4.z2
  have zf0 := hZ4.zf 0
  have zf1 := hZ4.zf 1
  have zf2 := hZ4.zf 2
  obtain ⟨r0, r1, r2⟩ := three_cellsD (a := .int .i64 n) (b := .slice A bs.length c) (d := .slice A2 ps.length c2) z0 z1 z2
  have hg7 : wx.grownBy (((wx.setCell ⟨w.heap.size, 0, none⟩ (.int .i64 n)).setCell ⟨w.heap.size, 1, none⟩ (.slice A bs.length c)).setCell ⟨w.heap.size, 2, none⟩ (.slice A2 ps.length c2)) (some w.heap.size) := grown_cells [.int .i64 n, .slice A bs.length c, .slice A2 ps.length c2] 0 wx (World.grownBy.refl _ _)
  have hS7 := And.intro (far_cell hg7 hS0.1 hX1) (And.intro (far_cell hg7 hS0.2.1 hX1) (far_cell hg7 hS0.2.2 hX1))
  have own7 := own_far own4 hg7 hX5
  have ops7 := ops4.far hg7 hX5
  have hlo : w.heap.size ≤ w.heap.size := Nat.le_refl _
  have hb7 := ((hb4.setCell (p := ⟨w.heap.size, 0, none⟩) hlo (.int .i64 n)).setCell (p := ⟨w.heap.size, 1, none⟩) hlo (.slice A bs.length c)).setCell (p := ⟨w.heap.size, 2, none⟩) hlo (.slice A2 ps.length c2)
  have hB7 : fl = true → (∃ G, z = Value.slice (some ⟨G, 0, none⟩) 41 41 ∧ OwnDd w1.heap.size (((wx.setCell ⟨w.heap.size, 0, none⟩ (.int .i64 n)).setCell ⟨w.heap.size, 1, none⟩ (.slice A bs.length c)).setCell ⟨w.heap.size, 2, none⟩ (.slice A2 ps.length c2)) (.slice (some ⟨G, 0, none⟩) (List.replicate 41 zdd).length 41) (List.replicate 41 zdd)) := fun h => by
   obtain ⟨G, e, h2⟩ := hB h
   exact ⟨G, e, own_far h2 hg7 hX5⟩
  have hwd7 : w1.heap.size ≤ (((wx.setCell ⟨w.heap.size, 0, none⟩ (.int .i64 n)).setCell ⟨w.heap.size, 1, none⟩ (.slice A bs.length c)).setCell ⟨w.heap.size, 2, none⟩ (.slice A2 ps.length c2)).heap.size := by simpa using hwd
  go_simp
  refine hK.out _ _ (.inr hS7) ?_
  clear hK K hB z0 z1 z2 zf0 zf1 zf2 own4 ops4 hb4 hZ4 hg7 hS0 hwd
  simp only [Act.put, xs0, xs1, xs2]
  generalize ((wx.setCell ⟨w.heap.size, 0, none⟩ (.int .i64 n)).setCell ⟨w.heap.size, 1, none⟩ (.slice A bs.length c)).setCell ⟨w.heap.size, 2, none⟩ (.slice A2 ps.length c2) = W7 at r0 r1 r2 own7 ops7 hb7 hS7 hB7 hwd7 ⊢
  apply wpF_end (f := 1) (fl := fl) (z := z) (J := fun wx => ((wx.cell? ⟨w.heap.size, 0, none⟩ = some (.int .i64 n) ∧ wx.cell? ⟨w.heap.size, 1, none⟩ = some (.slice A bs.length c) ∧ wx.cell? ⟨w.heap.size, 2, none⟩ = some (.slice A2 ps.length c2)) ∧ OwnB w1.heap.size wx (.slice A bs.length c) bs ∧ OwnPs w1.heap.size wx (.slice A2 ps.length c2) ps ∧ (wx.cell? ⟨X, 0, none⟩ = some (.int .i64 n) ∧ wx.cell? ⟨X, 1, none⟩ = some (.slice A bs.length c) ∧ wx.cell? ⟨X, 2, none⟩ = some (.slice A2 ps.length c2)) ∧ Below w.heap.size w wx ∧ w1.heap.size ≤ wx.heap.size)) (B := fun z wx => (∃ G, z = Value.slice (some ⟨G, 0, none⟩) 41 41 ∧ OwnDd w1.heap.size wx (.slice (some ⟨G, 0, none⟩) (List.replicate 41 zdd).length 41) (List.replicate 41 zdd)))
  case hr0 => kernel_rfl
  case hL => kernel_rfl
  case hJ => exact ⟨⟨r0, r1, r2⟩, own7, ops7, hS7, hb7, hwd7⟩
  case hB => exact hB7
  case hF =>
   refine floats_of (of_decide_eq_true (by kernel_rfl)) (by kernel_rfl) (by kernel_rfl) (fun _ h => h.2.2.2.1) ?_
   clear r0 r1 r2 own7 ops7 hS7 hb7 hwd7 hB7
   intro z wx hJ K hK
   have hmk := Hmk.out
   simp only [xg0, xg1, xg2]
   go_simp
   have hq : Below wx.heap.size wx (wx.alloc (.cells (madeCells #[.int .i64 0, .int .i64 0, .int .i64 0, .int .i64 0, .string ⟨#[]⟩] (41 * 5)) 41)) := by go_grown
   exact hK.out _ _ ⟨⟨((bcell hq).1 _ _ (cell_ltZ hJ.1.1)).trans hJ.1.1, ((bcell hq).1 _ _ (cell_ltZ hJ.1.1)).trans hJ.1.2.1, ((bcell hq).1 _ _ (cell_ltZ hJ.1.1)).trans hJ.1.2.2⟩, own_below hJ.2.1 hq, hJ.2.2.1.below hq, ⟨((bcell hq).1 _ _ (cell_ltZ hJ.2.2.2.1.1)).trans hJ.2.2.2.1.1, ((bcell hq).1 _ _ (cell_ltZ hJ.2.2.2.1.1)).trans hJ.2.2.2.1.2.1, ((bcell hq).1 _ _ (cell_ltZ hJ.2.2.2.1.1)).trans hJ.2.2.2.1.2.2⟩, bthen hJ.2.2.2.2.1 hq, Nat.le_trans hJ.2.2.2.2.2 hq.size⟩ ⟨_, rfl, own_less (own_zdd wx 41 (by omega)) hJ.2.2.2.2.2⟩
  clear r0 r1 r2 own7 ops7 hS7 hb7 hwd7 hB7
  intro z wx hJ hB
  obtain ⟨G, rfl, ownL⟩ := hB
  obtain ⟨⟨r0, r1, r2⟩, own7, ops7, -, hb7, -⟩ := hJ
  rw [List.length_replicate] at ownL
  refine wpE_step' 3 (of_decide_eq_true (by kernel_rfl)) (by kernel_rfl) (by kernel_rfl) (fun K hK => ?_)
  simp only [xg0, xg1, xg2]
  go_simp
  refine hK.out _ _ (.inl rfl) ?_
  clear hK K
  simp only [Act.put, xs0, xs1, xs2]
  refine wpE_done (by kernel_rfl) ?_ _
  go_wp2_with fail
  refine bodyPost_ret (v := .tuple #[.agg #[.int .i64 n, .slice A bs.length c, .slice A2 ps.length c2], .slice (some ⟨G, 0, none⟩) 41 41]) (by simp [results, Tryz.results16, go_sem, r0, r1, r2]) rfl ?_
  exact ⟨_, rfl, ⟨A, c, A2, c2, ⟨⟨n, bs⟩, ps⟩, G, 41, List.replicate 41 zdd, by rw [List.length_replicate], hDS, h8, by rw [List.length_replicate]; omega, own_less own7 (by omega), ops7.less (by omega), by rw [List.length_replicate]; exact own_less ownL (by omega)⟩, hb7⟩
end Go.Proofs.YtmnajkhoacogjaaGreatDoor
