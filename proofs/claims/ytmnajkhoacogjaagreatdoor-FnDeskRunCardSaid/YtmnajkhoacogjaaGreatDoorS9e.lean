/-
 spec: l15Made.
 spec: l15Made, where a plan is made.
 spec: l15Made, of any deed.
-/
import Derived.Test.YtmnajkhoacogjaaGreatDoorR73
import Derived.Test.YtmnajkhoacogjaaGreatDoorS91
import Derived.Test.YtmnajkhoacogjaaGreatDoorS99
import Derived.Test.YtmnajkhoacogjaaGreatDoorS6
import Derived.Test.YtmnajkhoacogjaaGreatDoorS84
namespace Go.Proofs.YtmnajkhoacogjaaGreatDoor
set_option linter.unusedVariables false
set_option linter.unusedSimpArgs false
open Go Go.RowKit Pp

open Go Go.RowKit Pp

/-- A deed in a box. -/
structure DeB (w0 W : World) (X : Nat) (k a1 a2 a3 : Int) (s : ByteArray) : Prop where
 lo : w0.heap.size ≤ X
 ex : X < W.heap.size
 c0 : W.cell? ⟨X, 0, none⟩ = some (.int .i64 k)
 c1 : W.cell? ⟨X, 1, none⟩ = some (.int .i64 a1)
 c2 : W.cell? ⟨X, 2, none⟩ = some (.int .i64 a2)
 c3 : W.cell? ⟨X, 3, none⟩ = some (.int .i64 a3)
 c4 : W.cell? ⟨X, 4, none⟩ = some (.string s)
theorem DeB.below {w0 W W' : World} {X : Nat} {k a1 a2 a3 : Int} {s : ByteArray} (h : DeB w0 W X k a1 a2 a3 s) (hb : Below W.heap.size W W') : DeB w0 W' X k a1 a2 a3 s :=
 ⟨h.lo, Nat.lt_of_lt_of_le h.ex hb.size, ((bcell hb).1 _ _ h.ex).trans h.c0, ((bcell hb).1 _ _ h.ex).trans h.c1, ((bcell hb).1 _ _ h.ex).trans h.c2, ((bcell hb).1 _ _ h.ex).trans h.c3, ((bcell hb).1 _ _ h.ex).trans h.c4⟩
theorem DeB.alloc {w0 W : World} {X : Nat} {k a1 a2 a3 : Int} {s : ByteArray} (h : DeB w0 W X k a1 a2 a3 s) (x : Obj) : DeB w0 (W.alloc x) X k a1 a2 a3 s := h.below (by go_grown)
theorem deb_new {w0 W : World} {k a1 a2 a3 : Int} {s : ByteArray} {t : TypeId} {X : Nat} (hX : X = W.heap.size) (h : w0.heap.size ≤ W.heap.size) : DeB w0 (W.alloc (.cells #[.int .i64 k, .int .i64 a1, .int .i64 a2, .int .i64 a3, .string s] t)) X k a1 a2 a3 s := by
 subst hX
 exact ⟨h, by simp, by simp [go_sem], by simp [go_sem], by simp [go_sem], by simp [go_sem], by simp [go_sem]⟩
namespace Pp
/-- A plan that is made. -/
def MadeV (B : Nat) (w w' : World) (q : Pl) (v : Value) : Prop := ∃ A1 c1 g1 o1, v = .agg #[.int .i64 q.n, .slice A1 q.bs.length c1] ∧ BdsR w' w'.heap.size g1 o1 A1 q.bs ∧ (0 < q.bs.length → g1 < B ∨ w.heap.size ≤ g1)
end Pp
theorem mfin_ne {w : World} {lo Y c : Nat} {A : Option Addr} {bs : List Bd} (h : OwnB lo w (.slice A bs.length c) bs) (hY : Y < lo) : (Value.slice A bs.length c).ownBlock ≠ some Y := fun e => by
 have := (h.lt _ e).1
 omega
set_option maxHeartbeats 2000000 in
set_option maxRecDepth 100000 in
theorem l15Made_0n (n : Int) (bs : List Bd) (a1 a2 a3 : Int) (s : ByteArray) (hT : ((a1 == 0) && ((a2 == 0) && ((a3 == 0) && s.toList.isEmpty))) = false) (A : Option Addr) (b o c B : Nat) (w : World) (hB : B ≤ w.heap.size) (hR : BdsR w B b o A bs) :
  Calls Tryz.prog 35 #[.agg #[.int .i64 n, .slice A bs.length c], .agg #[.int .i64 0, .int .i64 a1, .int .i64 a2, .int .i64 a3, .string s]] w fun e w' => ∃ v, e = .returned v ∧ MadeV B w w' ⟨0, []⟩ v ∧ Below w.heap.size w w' := by
 have hD := ((po_new (t := 34) (n := n) (c := c) (Below.refl w.heap.size w) (hR.more hB)).alloc (.cells #[.int .i64 0, .int .i64 a1, .int .i64 a2, .int .i64 a3, .string s] 41)).alloc (.cells #[.int .i64 0, .slice none 0 0] 34)
 have hE : DeB w (((w.alloc (.cells #[.int .i64 n, .slice A bs.length c] 34)).alloc (.cells #[.int .i64 0, .int .i64 a1, .int .i64 a2, .int .i64 a3, .string s] 41)).alloc (.cells #[.int .i64 0, .slice none 0 0] 34)) (w.heap.size + 1) 0 a1 a2 a3 s := DeB.alloc (deb_new (by simp) (by simp)) _
 have hY : ZB w (((w.alloc (.cells #[.int .i64 n, .slice A bs.length c] 34)).alloc (.cells #[.int .i64 0, .int .i64 a1, .int .i64 a2, .int .i64 a3, .string s] 41)).alloc (.cells #[.int .i64 0, .slice none 0 0] 34)) (w.heap.size + 1 + 1) := zb_at (by simp) (by simp; omega)
 have hRb := hR.below (Below.refl B w)
 clear hR
 go_enter Tryz.func35, Tryz.ntmps35
 go_upto_region 1 with fail
 generalize ((w.alloc (.cells #[.int .i64 n, .slice A bs.length c] 34)).alloc (.cells #[.int .i64 0, .int .i64 a1, .int .i64 a2, .int .i64 a3, .string s] 41)).alloc (.cells #[.int .i64 0, .slice none 0 0] 34) = W at hD hE hY ⊢
 have p0 := hD.c0
 have p1 := hD.c1
 have d0 := hE.c0
 have d1 := hE.c1
 have d2 := hE.c2
 have d3 := hE.c3
 have d4 := hE.c4
 have z0 := hY.z0
 have z1 := hY.z1
 have zf0 := hY.zf 0
 have zf1 := hY.zf 1
 go_upto_region 1 with fail
 go_cut [1, 13, 14, 15, 16] (fun u1 s u14 u15 u16 wx => s = .bool false ∧ wx = W)
 case first =>
  go_wp2_with fail
  all_goals
   go_meet
   case rel => first | exact ⟨rfl, rfl⟩ | (exfalso; simp_all; done)
 case rest =>
  obtain ⟨rfl, rfl⟩ := hcut
  go_upto_region 17 with fail
  go_wp2_with fail
  obtain ⟨r0, r1⟩ := two_cells (a := .int .i64 0) (b := .slice none 0 0) z0 z1
  have hb9 := (hD.bel.setCell (p := ⟨w.heap.size + 1 + 1, 0, none⟩) (by show w.heap.size ≤ w.heap.size + 1 + 1; omega) (.int .i64 0)).setCell (p := ⟨w.heap.size + 1 + 1, 1, none⟩) (by show w.heap.size ≤ w.heap.size + 1 + 1; omega) (.slice none 0 0)
  refine bodyPost_ret (v := .agg #[.int .i64 0, .slice none 0 0]) (by simp [results, Tryz.results35, go_sem, r0, r1]) rfl ?_
  exact ⟨_, rfl, ⟨none, 0, 0, 0, rfl, BdsR.nil _ _ _, fun h => by simp at h⟩, hb9⟩
set_option maxHeartbeats 2000000 in
set_option maxRecDepth 100000 in
theorem l15Made_2n (n : Int) (bs : List Bd) (a1 a2 a3 : Int) (s : ByteArray) (hT : ((a2 == 0) && ((a3 == 0) && s.toList.isEmpty)) = false) (A : Option Addr) (b o c B : Nat) (w : World) (hB : B ≤ w.heap.size) (hR : BdsR w B b o A bs) :
  Calls Tryz.prog 35 #[.agg #[.int .i64 n, .slice A bs.length c], .agg #[.int .i64 2, .int .i64 a1, .int .i64 a2, .int .i64 a3, .string s]] w fun e w' => ∃ v, e = .returned v ∧ MadeV B w w' ⟨0, []⟩ v ∧ Below w.heap.size w w' := by
 have hD := ((po_new (t := 34) (n := n) (c := c) (Below.refl w.heap.size w) (hR.more hB)).alloc (.cells #[.int .i64 2, .int .i64 a1, .int .i64 a2, .int .i64 a3, .string s] 41)).alloc (.cells #[.int .i64 0, .slice none 0 0] 34)
 have hE : DeB w (((w.alloc (.cells #[.int .i64 n, .slice A bs.length c] 34)).alloc (.cells #[.int .i64 2, .int .i64 a1, .int .i64 a2, .int .i64 a3, .string s] 41)).alloc (.cells #[.int .i64 0, .slice none 0 0] 34)) (w.heap.size + 1) 2 a1 a2 a3 s := DeB.alloc (deb_new (by simp) (by simp)) _
 have hY : ZB w (((w.alloc (.cells #[.int .i64 n, .slice A bs.length c] 34)).alloc (.cells #[.int .i64 2, .int .i64 a1, .int .i64 a2, .int .i64 a3, .string s] 41)).alloc (.cells #[.int .i64 0, .slice none 0 0] 34)) (w.heap.size + 1 + 1) := zb_at (by simp) (by simp; omega)
 have hRb := hR.below (Below.refl B w)
 clear hR
 go_enter Tryz.func35, Tryz.ntmps35
 go_upto_region 1 with fail
 generalize ((w.alloc (.cells #[.int .i64 n, .slice A bs.length c] 34)).alloc (.cells #[.int .i64 2, .int .i64 a1, .int .i64 a2, .int .i64 a3, .string s] 41)).alloc (.cells #[.int .i64 0, .slice none 0 0] 34) = W at hD hE hY ⊢
 have p0 := hD.c0
 have p1 := hD.c1
 have d0 := hE.c0
 have d1 := hE.c1
 have d2 := hE.c2
 have d3 := hE.c3
 have d4 := hE.c4
 have z0 := hY.z0
 have z1 := hY.z1
 have zf0 := hY.zf 0
 have zf1 := hY.zf 1
 go_upto_region 6 with fail
 go_cut [1, 45, 46, 47, 48, 49, 50] (fun u1 s u46 u47 u48 u49 u50 wx => s = .bool false ∧ wx = W)
 case first =>
  go_wp2_with fail
  all_goals
   go_meet
   case rel => first | exact ⟨rfl, rfl⟩ | (exfalso; simp_all; done)
 case rest =>
  obtain ⟨rfl, rfl⟩ := hcut
  go_upto_region 17 with fail
  go_wp2_with fail
  obtain ⟨r0, r1⟩ := two_cells (a := .int .i64 0) (b := .slice none 0 0) z0 z1
  have hb9 := (hD.bel.setCell (p := ⟨w.heap.size + 1 + 1, 0, none⟩) (by show w.heap.size ≤ w.heap.size + 1 + 1; omega) (.int .i64 0)).setCell (p := ⟨w.heap.size + 1 + 1, 1, none⟩) (by show w.heap.size ≤ w.heap.size + 1 + 1; omega) (.slice none 0 0)
  refine bodyPost_ret (v := .agg #[.int .i64 0, .slice none 0 0]) (by simp [results, Tryz.results35, go_sem, r0, r1]) rfl ?_
  exact ⟨_, rfl, ⟨none, 0, 0, 0, rfl, BdsR.nil _ _ _, fun h => by simp at h⟩, hb9⟩
set_option maxHeartbeats 2000000 in
set_option maxRecDepth 100000 in
theorem l15Made_3n (n : Int) (bs : List Bd) (a1 a2 a3 : Int) (s : ByteArray) (hT : ((a1 == 0) && ((a2 == 0) && ((a3 == 0) && s.toList.isEmpty))) = false) (A : Option Addr) (b o c B : Nat) (w : World) (hB : B ≤ w.heap.size) (hR : BdsR w B b o A bs) :
  Calls Tryz.prog 35 #[.agg #[.int .i64 n, .slice A bs.length c], .agg #[.int .i64 3, .int .i64 a1, .int .i64 a2, .int .i64 a3, .string s]] w fun e w' => ∃ v, e = .returned v ∧ MadeV B w w' ⟨0, []⟩ v ∧ Below w.heap.size w w' := by
 have hD := ((po_new (t := 34) (n := n) (c := c) (Below.refl w.heap.size w) (hR.more hB)).alloc (.cells #[.int .i64 3, .int .i64 a1, .int .i64 a2, .int .i64 a3, .string s] 41)).alloc (.cells #[.int .i64 0, .slice none 0 0] 34)
 have hE : DeB w (((w.alloc (.cells #[.int .i64 n, .slice A bs.length c] 34)).alloc (.cells #[.int .i64 3, .int .i64 a1, .int .i64 a2, .int .i64 a3, .string s] 41)).alloc (.cells #[.int .i64 0, .slice none 0 0] 34)) (w.heap.size + 1) 3 a1 a2 a3 s := DeB.alloc (deb_new (by simp) (by simp)) _
 have hY : ZB w (((w.alloc (.cells #[.int .i64 n, .slice A bs.length c] 34)).alloc (.cells #[.int .i64 3, .int .i64 a1, .int .i64 a2, .int .i64 a3, .string s] 41)).alloc (.cells #[.int .i64 0, .slice none 0 0] 34)) (w.heap.size + 1 + 1) := zb_at (by simp) (by simp; omega)
 have hRb := hR.below (Below.refl B w)
 clear hR
 go_enter Tryz.func35, Tryz.ntmps35
 go_upto_region 1 with fail
 generalize ((w.alloc (.cells #[.int .i64 n, .slice A bs.length c] 34)).alloc (.cells #[.int .i64 3, .int .i64 a1, .int .i64 a2, .int .i64 a3, .string s] 41)).alloc (.cells #[.int .i64 0, .slice none 0 0] 34) = W at hD hE hY ⊢
 have p0 := hD.c0
 have p1 := hD.c1
 have d0 := hE.c0
 have d1 := hE.c1
 have d2 := hE.c2
 have d3 := hE.c3
 have d4 := hE.c4
 have z0 := hY.z0
 have z1 := hY.z1
 have zf0 := hY.zf 0
 have zf1 := hY.zf 1
 go_upto_region 9 with fail
 go_cut [1, 59, 60, 61, 62] (fun u1 s u14 u15 u16 wx => s = .bool false ∧ wx = W)
 case first =>
  go_wp2_with fail
  all_goals
   go_meet
   case rel => first | exact ⟨rfl, rfl⟩ | (exfalso; simp_all; done)
 case rest =>
  obtain ⟨rfl, rfl⟩ := hcut
  go_upto_region 17 with fail
  go_wp2_with fail
  obtain ⟨r0, r1⟩ := two_cells (a := .int .i64 0) (b := .slice none 0 0) z0 z1
  have hb9 := (hD.bel.setCell (p := ⟨w.heap.size + 1 + 1, 0, none⟩) (by show w.heap.size ≤ w.heap.size + 1 + 1; omega) (.int .i64 0)).setCell (p := ⟨w.heap.size + 1 + 1, 1, none⟩) (by show w.heap.size ≤ w.heap.size + 1 + 1; omega) (.slice none 0 0)
  refine bodyPost_ret (v := .agg #[.int .i64 0, .slice none 0 0]) (by simp [results, Tryz.results35, go_sem, r0, r1]) rfl ?_
  exact ⟨_, rfl, ⟨none, 0, 0, 0, rfl, BdsR.nil _ _ _, fun h => by simp at h⟩, hb9⟩
set_option maxHeartbeats 2000000 in
set_option maxRecDepth 100000 in
theorem l15Made_4n (n : Int) (bs : List Bd) (a1 a2 a3 : Int) (s : ByteArray) (hT : ((a1 == 0) && ((a2 == 0) && ((a3 == 0) && s.toList.isEmpty))) = false) (A : Option Addr) (b o c B : Nat) (w : World) (hB : B ≤ w.heap.size) (hR : BdsR w B b o A bs) :
  Calls Tryz.prog 35 #[.agg #[.int .i64 n, .slice A bs.length c], .agg #[.int .i64 4, .int .i64 a1, .int .i64 a2, .int .i64 a3, .string s]] w fun e w' => ∃ v, e = .returned v ∧ MadeV B w w' ⟨0, []⟩ v ∧ Below w.heap.size w w' := by
 have hD := ((po_new (t := 34) (n := n) (c := c) (Below.refl w.heap.size w) (hR.more hB)).alloc (.cells #[.int .i64 4, .int .i64 a1, .int .i64 a2, .int .i64 a3, .string s] 41)).alloc (.cells #[.int .i64 0, .slice none 0 0] 34)
 have hE : DeB w (((w.alloc (.cells #[.int .i64 n, .slice A bs.length c] 34)).alloc (.cells #[.int .i64 4, .int .i64 a1, .int .i64 a2, .int .i64 a3, .string s] 41)).alloc (.cells #[.int .i64 0, .slice none 0 0] 34)) (w.heap.size + 1) 4 a1 a2 a3 s := DeB.alloc (deb_new (by simp) (by simp)) _
 have hY : ZB w (((w.alloc (.cells #[.int .i64 n, .slice A bs.length c] 34)).alloc (.cells #[.int .i64 4, .int .i64 a1, .int .i64 a2, .int .i64 a3, .string s] 41)).alloc (.cells #[.int .i64 0, .slice none 0 0] 34)) (w.heap.size + 1 + 1) := zb_at (by simp) (by simp; omega)
 have hRb := hR.below (Below.refl B w)
 clear hR
 go_enter Tryz.func35, Tryz.ntmps35
 go_upto_region 1 with fail
 generalize ((w.alloc (.cells #[.int .i64 n, .slice A bs.length c] 34)).alloc (.cells #[.int .i64 4, .int .i64 a1, .int .i64 a2, .int .i64 a3, .string s] 41)).alloc (.cells #[.int .i64 0, .slice none 0 0] 34) = W at hD hE hY ⊢
 have p0 := hD.c0
 have p1 := hD.c1
 have d0 := hE.c0
 have d1 := hE.c1
 have d2 := hE.c2
 have d3 := hE.c3
 have d4 := hE.c4
 have z0 := hY.z0
 have z1 := hY.z1
 have zf0 := hY.zf 0
 have zf1 := hY.zf 1
 go_upto_region 11 with fail
 go_cut [1, 65, 66, 67, 68] (fun u1 s u14 u15 u16 wx => s = .bool false ∧ wx = W)
 case first =>
  go_wp2_with fail
  all_goals
   go_meet
   case rel => first | exact ⟨rfl, rfl⟩ | (exfalso; simp_all; done)
 case rest =>
  obtain ⟨rfl, rfl⟩ := hcut
  go_upto_region 17 with fail
  go_wp2_with fail
  obtain ⟨r0, r1⟩ := two_cells (a := .int .i64 0) (b := .slice none 0 0) z0 z1
  have hb9 := (hD.bel.setCell (p := ⟨w.heap.size + 1 + 1, 0, none⟩) (by show w.heap.size ≤ w.heap.size + 1 + 1; omega) (.int .i64 0)).setCell (p := ⟨w.heap.size + 1 + 1, 1, none⟩) (by show w.heap.size ≤ w.heap.size + 1 + 1; omega) (.slice none 0 0)
  refine bodyPost_ret (v := .agg #[.int .i64 0, .slice none 0 0]) (by simp [results, Tryz.results35, go_sem, r0, r1]) rfl ?_
  exact ⟨_, rfl, ⟨none, 0, 0, 0, rfl, BdsR.nil _ _ _, fun h => by simp at h⟩, hb9⟩
set_option maxHeartbeats 2000000 in
set_option maxRecDepth 100000 in
theorem l15Made_5n (n : Int) (bs : List Bd) (a1 a2 a3 : Int) (s : ByteArray) (hT : ((a1 == 0) && ((a2 == 0) && (a3 == 0))) = false) (A : Option Addr) (b o c B : Nat) (w : World) (hB : B ≤ w.heap.size) (hR : BdsR w B b o A bs) :
  Calls Tryz.prog 35 #[.agg #[.int .i64 n, .slice A bs.length c], .agg #[.int .i64 5, .int .i64 a1, .int .i64 a2, .int .i64 a3, .string s]] w fun e w' => ∃ v, e = .returned v ∧ MadeV B w w' ⟨0, []⟩ v ∧ Below w.heap.size w w' := by
 have hD := ((po_new (t := 34) (n := n) (c := c) (Below.refl w.heap.size w) (hR.more hB)).alloc (.cells #[.int .i64 5, .int .i64 a1, .int .i64 a2, .int .i64 a3, .string s] 41)).alloc (.cells #[.int .i64 0, .slice none 0 0] 34)
 have hE : DeB w (((w.alloc (.cells #[.int .i64 n, .slice A bs.length c] 34)).alloc (.cells #[.int .i64 5, .int .i64 a1, .int .i64 a2, .int .i64 a3, .string s] 41)).alloc (.cells #[.int .i64 0, .slice none 0 0] 34)) (w.heap.size + 1) 5 a1 a2 a3 s := DeB.alloc (deb_new (by simp) (by simp)) _
 have hY : ZB w (((w.alloc (.cells #[.int .i64 n, .slice A bs.length c] 34)).alloc (.cells #[.int .i64 5, .int .i64 a1, .int .i64 a2, .int .i64 a3, .string s] 41)).alloc (.cells #[.int .i64 0, .slice none 0 0] 34)) (w.heap.size + 1 + 1) := zb_at (by simp) (by simp; omega)
 have hRb := hR.below (Below.refl B w)
 clear hR
 go_enter Tryz.func35, Tryz.ntmps35
 go_upto_region 1 with fail
 generalize ((w.alloc (.cells #[.int .i64 n, .slice A bs.length c] 34)).alloc (.cells #[.int .i64 5, .int .i64 a1, .int .i64 a2, .int .i64 a3, .string s] 41)).alloc (.cells #[.int .i64 0, .slice none 0 0] 34) = W at hD hE hY ⊢
 have p0 := hD.c0
 have p1 := hD.c1
 have d0 := hE.c0
 have d1 := hE.c1
 have d2 := hE.c2
 have d3 := hE.c3
 have d4 := hE.c4
 have z0 := hY.z0
 have z1 := hY.z1
 have zf0 := hY.zf 0
 have zf1 := hY.zf 1
 go_upto_region 13 with fail
 go_cut [1, 71, 72, 73, 74, 75, 76] (fun u1 s u72 u73 u74 u75 u76 wx => s = .bool false ∧ wx = W)
 case first =>
  go_wp2_with fail
  all_goals
   go_meet
   case rel => first | exact ⟨rfl, rfl⟩ | (exfalso; simp_all; done)
 case rest =>
  obtain ⟨rfl, rfl⟩ := hcut
  go_upto_region 17 with fail
  go_wp2_with fail
  obtain ⟨r0, r1⟩ := two_cells (a := .int .i64 0) (b := .slice none 0 0) z0 z1
  have hb9 := (hD.bel.setCell (p := ⟨w.heap.size + 1 + 1, 0, none⟩) (by show w.heap.size ≤ w.heap.size + 1 + 1; omega) (.int .i64 0)).setCell (p := ⟨w.heap.size + 1 + 1, 1, none⟩) (by show w.heap.size ≤ w.heap.size + 1 + 1; omega) (.slice none 0 0)
  refine bodyPost_ret (v := .agg #[.int .i64 0, .slice none 0 0]) (by simp [results, Tryz.results35, go_sem, r0, r1]) rfl ?_
  exact ⟨_, rfl, ⟨none, 0, 0, 0, rfl, BdsR.nil _ _ _, fun h => by simp at h⟩, hb9⟩
set_option maxHeartbeats 2000000 in
set_option maxRecDepth 100000 in
theorem l15Made_1n (n : Int) (bs : List Bd) (a1 a2 a3 : Int) (s : ByteArray) (hT : s.toList.isEmpty = false) (A : Option Addr) (b o c B : Nat) (w : World) (hB : B ≤ w.heap.size) (hR : BdsR w B b o A bs) :
  Calls Tryz.prog 35 #[.agg #[.int .i64 n, .slice A bs.length c], .agg #[.int .i64 1, .int .i64 a1, .int .i64 a2, .int .i64 a3, .string s]] w fun e w' => ∃ v, e = .returned v ∧ MadeV B w w' ⟨0, []⟩ v ∧ Below w.heap.size w w' := by
 have hD := ((po_new (t := 34) (n := n) (c := c) (Below.refl w.heap.size w) (hR.more hB)).alloc (.cells #[.int .i64 1, .int .i64 a1, .int .i64 a2, .int .i64 a3, .string s] 41)).alloc (.cells #[.int .i64 0, .slice none 0 0] 34)
 have hE : DeB w (((w.alloc (.cells #[.int .i64 n, .slice A bs.length c] 34)).alloc (.cells #[.int .i64 1, .int .i64 a1, .int .i64 a2, .int .i64 a3, .string s] 41)).alloc (.cells #[.int .i64 0, .slice none 0 0] 34)) (w.heap.size + 1) 1 a1 a2 a3 s := DeB.alloc (deb_new (by simp) (by simp)) _
 have hY : ZB w (((w.alloc (.cells #[.int .i64 n, .slice A bs.length c] 34)).alloc (.cells #[.int .i64 1, .int .i64 a1, .int .i64 a2, .int .i64 a3, .string s] 41)).alloc (.cells #[.int .i64 0, .slice none 0 0] 34)) (w.heap.size + 1 + 1) := zb_at (by simp) (by simp; omega)
 have hRb := hR.below (Below.refl B w)
 clear hR
 go_enter Tryz.func35, Tryz.ntmps35
 go_upto_region 1 with fail
 generalize ((w.alloc (.cells #[.int .i64 n, .slice A bs.length c] 34)).alloc (.cells #[.int .i64 1, .int .i64 a1, .int .i64 a2, .int .i64 a3, .string s] 41)).alloc (.cells #[.int .i64 0, .slice none 0 0] 34) = W at hD hE hY ⊢
 have p0 := hD.c0
 have p1 := hD.c1
 have d0 := hE.c0
 have d1 := hE.c1
 have d2 := hE.c2
 have d3 := hE.c3
 have d4 := hE.c4
 have z0 := hY.z0
 have z1 := hY.z1
 have zf0 := hY.zf 0
 have zf1 := hY.zf 1
 go_upto_region 17 with fail
 go_wp2_with fail
 obtain ⟨r0, r1⟩ := two_cells (a := .int .i64 0) (b := .slice none 0 0) z0 z1
 have hb9 := (hD.bel.setCell (p := ⟨w.heap.size + 1 + 1, 0, none⟩) (by show w.heap.size ≤ w.heap.size + 1 + 1; omega) (.int .i64 0)).setCell (p := ⟨w.heap.size + 1 + 1, 1, none⟩) (by show w.heap.size ≤ w.heap.size + 1 + 1; omega) (.slice none 0 0)
 refine bodyPost_ret (v := .agg #[.int .i64 0, .slice none 0 0]) (by simp [results, Tryz.results35, go_sem, r0, r1]) rfl ?_
 exact ⟨_, rfl, ⟨none, 0, 0, 0, rfl, BdsR.nil _ _ _, fun h => by simp at h⟩, hb9⟩
set_option maxHeartbeats 2000000 in
set_option maxRecDepth 100000 in
theorem l15Made_kn (n : Int) (bs : List Bd) (k a1 a2 a3 : Int) (s : ByteArray) (h0 : (k == 0) = false) (h1 : (k == 1) = false) (h2 : (k == 2) = false) (h3 : (k == 3) = false) (h4 : (k == 4) = false) (h5 : (k == 5) = false) (A : Option Addr) (b o c B : Nat) (w : World) (hB : B ≤ w.heap.size) (hR : BdsR w B b o A bs) :
  Calls Tryz.prog 35 #[.agg #[.int .i64 n, .slice A bs.length c], .agg #[.int .i64 k, .int .i64 a1, .int .i64 a2, .int .i64 a3, .string s]] w fun e w' => ∃ v, e = .returned v ∧ MadeV B w w' ⟨0, []⟩ v ∧ Below w.heap.size w w' := by
 have hD := ((po_new (t := 34) (n := n) (c := c) (Below.refl w.heap.size w) (hR.more hB)).alloc (.cells #[.int .i64 k, .int .i64 a1, .int .i64 a2, .int .i64 a3, .string s] 41)).alloc (.cells #[.int .i64 0, .slice none 0 0] 34)
 have hE : DeB w (((w.alloc (.cells #[.int .i64 n, .slice A bs.length c] 34)).alloc (.cells #[.int .i64 k, .int .i64 a1, .int .i64 a2, .int .i64 a3, .string s] 41)).alloc (.cells #[.int .i64 0, .slice none 0 0] 34)) (w.heap.size + 1) k a1 a2 a3 s := DeB.alloc (deb_new (by simp) (by simp)) _
 have hY : ZB w (((w.alloc (.cells #[.int .i64 n, .slice A bs.length c] 34)).alloc (.cells #[.int .i64 k, .int .i64 a1, .int .i64 a2, .int .i64 a3, .string s] 41)).alloc (.cells #[.int .i64 0, .slice none 0 0] 34)) (w.heap.size + 1 + 1) := zb_at (by simp) (by simp; omega)
 have hRb := hR.below (Below.refl B w)
 clear hR
 go_enter Tryz.func35, Tryz.ntmps35
 go_upto_region 1 with fail
 generalize ((w.alloc (.cells #[.int .i64 n, .slice A bs.length c] 34)).alloc (.cells #[.int .i64 k, .int .i64 a1, .int .i64 a2, .int .i64 a3, .string s] 41)).alloc (.cells #[.int .i64 0, .slice none 0 0] 34) = W at hD hE hY ⊢
 have p0 := hD.c0
 have p1 := hD.c1
 have d0 := hE.c0
 have d1 := hE.c1
 have d2 := hE.c2
 have d3 := hE.c3
 have d4 := hE.c4
 have z0 := hY.z0
 have z1 := hY.z1
 have zf0 := hY.zf 0
 have zf1 := hY.zf 1
 go_upto_region 17 with fail
 go_wp2_with fail
 obtain ⟨r0, r1⟩ := two_cells (a := .int .i64 0) (b := .slice none 0 0) z0 z1
 have hb9 := (hD.bel.setCell (p := ⟨w.heap.size + 1 + 1, 0, none⟩) (by show w.heap.size ≤ w.heap.size + 1 + 1; omega) (.int .i64 0)).setCell (p := ⟨w.heap.size + 1 + 1, 1, none⟩) (by show w.heap.size ≤ w.heap.size + 1 + 1; omega) (.slice none 0 0)
 refine bodyPost_ret (v := .agg #[.int .i64 0, .slice none 0 0]) (by simp [results, Tryz.results35, go_sem, r0, r1]) rfl ?_
 exact ⟨_, rfl, ⟨none, 0, 0, 0, rfl, BdsR.nil _ _ _, fun h => by simp at h⟩, hb9⟩

theorem own_ge {lo c g : Nat} {w : World} {A : Option Addr} {bs : List Bd} (h : OwnB lo w (.slice A bs.length c) bs) (hr : BdsR w w.heap.size g 0 A bs) (hl : 0 < bs.length) : lo ≤ g := by
 have := hr.addr hl
 subst this
 exact (h.lt _ rfl).1
set_option maxHeartbeats 2000000 in
set_option maxRecDepth 100000 in
theorem l15Made_point (n : Int) (bs : List Bd) (hn : 1 ≤ n ∧ n ≤ 6) (A : Option Addr) (b o c B : Nat) (w : World)  (hB : B ≤ w.heap.size) (hR : BdsR w B b o A bs) :
  Calls Tryz.prog 35 #[.agg #[.int .i64 n, .slice A bs.length c], .agg #[.int .i64 0, .int .i64 0, .int .i64 0, .int .i64 0, .string ⟨#[]⟩]] w fun e w' => ∃ v, e = .returned v ∧ MadeV B w w' ⟨n + 1, bs⟩ v ∧ Below w.heap.size w w' := by
 have hD := ((po_new (t := 34) (n := n) (c := c) (Below.refl w.heap.size w) (hR.more hB)).alloc (.cells #[.int .i64 0, .int .i64 0, .int .i64 0, .int .i64 0, .string ⟨#[]⟩] 41)).alloc (.cells #[.int .i64 0, .slice none 0 0] 34)
 have hE : DeB w (((w.alloc (.cells #[.int .i64 n, .slice A bs.length c] 34)).alloc (.cells #[.int .i64 0, .int .i64 0, .int .i64 0, .int .i64 0, .string ⟨#[]⟩] 41)).alloc (.cells #[.int .i64 0, .slice none 0 0] 34)) (w.heap.size + 1) 0 0 0 0 ⟨#[]⟩ := DeB.alloc (deb_new (by simp) (by simp)) _
 have hY : ZB w (((w.alloc (.cells #[.int .i64 n, .slice A bs.length c] 34)).alloc (.cells #[.int .i64 0, .int .i64 0, .int .i64 0, .int .i64 0, .string ⟨#[]⟩] 41)).alloc (.cells #[.int .i64 0, .slice none 0 0] 34)) (w.heap.size + 1 + 1) := zb_at (by simp) (by simp; omega)
 have hRb := hR.below (Below.refl B w)
 clear hR
 go_enter Tryz.func35, Tryz.ntmps35
 go_upto_region 1 with fail
 generalize ((w.alloc (.cells #[.int .i64 n, .slice A bs.length c] 34)).alloc (.cells #[.int .i64 0, .int .i64 0, .int .i64 0, .int .i64 0, .string ⟨#[]⟩] 41)).alloc (.cells #[.int .i64 0, .slice none 0 0] 34) = W at hD hE hY ⊢
 have p0 := hD.c0
 have p1 := hD.c1
 have d0 := hE.c0
 have d1 := hE.c1
 have d2 := hE.c2
 have d3 := hE.c3
 have d4 := hE.c4
 have z0 := hY.z0
 have z1 := hY.z1
 have zf0 := hY.zf 0
 have zf1 := hY.zf 1
 have hYl := hY.ex
 have hlo := hD.bel.size
 have hwr : IntKind.i64.wrap (n + 1) = n + 1 := by rw [IntWalk.i64_in _ (by omega)]
 go_upto_region 2 with fail
 go_wp2_with fail
 obtain ⟨r0, r1⟩ := two_cells (a := .int .i64 (n + 1)) (b := .slice A bs.length c) z0 z1
 have hb9 := (hD.bel.setCell (p := ⟨w.heap.size + 1 + 1, 0, none⟩) (by show w.heap.size ≤ w.heap.size + 1 + 1; omega) (.int .i64 (n + 1))).setCell (p := ⟨w.heap.size + 1 + 1, 1, none⟩) (by show w.heap.size ≤ w.heap.size + 1 + 1; omega) (.slice A bs.length c)
 refine bodyPost_ret (v := .agg #[.int .i64 (n + 1), .slice A bs.length c]) (by simp [results, Tryz.results35, go_sem, r0, r1]) rfl ?_
 exact ⟨_, rfl, ⟨A, c, b, o, rfl, (hRb.below (hb9.mono hB)).more (by have := hb9.size; omega), fun h => .inl (hRb.lt h)⟩, hb9⟩
set_option maxHeartbeats 2000000 in
set_option maxRecDepth 100000 in
theorem l15Made_trim (n : Int) (bs : List Bd) (q : Pl) (hq : trim ⟨n, bs⟩ = q) (h16 : bs.length ≤ 16) (A : Option Addr) (b o c B : Nat) (w : World)  (hB : B ≤ w.heap.size) (hR : BdsR w B b o A bs) :
  Calls Tryz.prog 35 #[.agg #[.int .i64 n, .slice A bs.length c], .agg #[.int .i64 3, .int .i64 0, .int .i64 0, .int .i64 0, .string ⟨#[]⟩]] w fun e w' => ∃ v, e = .returned v ∧ MadeV B w w' q v ∧ Below w.heap.size w w' := by
 have hD := ((po_new (t := 34) (n := n) (c := c) (Below.refl w.heap.size w) (hR.more hB)).alloc (.cells #[.int .i64 3, .int .i64 0, .int .i64 0, .int .i64 0, .string ⟨#[]⟩] 41)).alloc (.cells #[.int .i64 0, .slice none 0 0] 34)
 have hE : DeB w (((w.alloc (.cells #[.int .i64 n, .slice A bs.length c] 34)).alloc (.cells #[.int .i64 3, .int .i64 0, .int .i64 0, .int .i64 0, .string ⟨#[]⟩] 41)).alloc (.cells #[.int .i64 0, .slice none 0 0] 34)) (w.heap.size + 1) 3 0 0 0 ⟨#[]⟩ := DeB.alloc (deb_new (by simp) (by simp)) _
 have hY : ZB w (((w.alloc (.cells #[.int .i64 n, .slice A bs.length c] 34)).alloc (.cells #[.int .i64 3, .int .i64 0, .int .i64 0, .int .i64 0, .string ⟨#[]⟩] 41)).alloc (.cells #[.int .i64 0, .slice none 0 0] 34)) (w.heap.size + 1 + 1) := zb_at (by simp) (by simp; omega)
 have hRb := hR.below (Below.refl B w)
 clear hR
 go_enter Tryz.func35, Tryz.ntmps35
 go_upto_region 1 with fail
 generalize ((w.alloc (.cells #[.int .i64 n, .slice A bs.length c] 34)).alloc (.cells #[.int .i64 3, .int .i64 0, .int .i64 0, .int .i64 0, .string ⟨#[]⟩] 41)).alloc (.cells #[.int .i64 0, .slice none 0 0] 34) = W at hD hE hY ⊢
 have p0 := hD.c0
 have p1 := hD.c1
 have d0 := hE.c0
 have d1 := hE.c1
 have d2 := hE.c2
 have d3 := hE.c3
 have d4 := hE.c4
 have z0 := hY.z0
 have z1 := hY.z1
 have zf0 := hY.zf 0
 have zf1 := hY.zf 1
 have hYl := hY.ex
 have hlo := hD.bel.size
 go_upto_region 10 with fail
 clear z0 z1 zf0 zf1
 go_wp2_with (go_at_call 67; go_fit (sTrimmed_c ⟨n, bs⟩ q hq A b o c _ _ (show bs.length ≤ 2000000 by omega) (Nat.le_refl _) hD.rd); rintro e w2 ⟨A1, c1, g1, rfl, hr1, own1, hb1⟩; have hY2 := hY.below hb1; have z0 := hY2.z0; have z1 := hY2.z1; have zf0 := hY2.zf 0; have zf1 := hY2.zf 1)
 obtain ⟨r0, r1, ho2, hb7⟩ := hY2.fin (n := q.n) (bthen hD.bel hb1) (own_less own1 hlo) (mfin_ne own1 hYl)
 refine bodyPost_ret (v := .agg #[.int .i64 q.n, .slice A1 q.bs.length c1]) (by simp [results, Tryz.results35, go_sem, r0, r1]) rfl ?_
 obtain ⟨g, hr⟩ := OwnB.readsA ho2
 exact ⟨_, rfl, ⟨A1, c1, g, 0, rfl, hr, fun h => .inr (own_ge ho2 hr h)⟩, hb7⟩
set_option maxHeartbeats 2000000 in
set_option maxRecDepth 100000 in
theorem l15Made_turn (n : Int) (bs : List Bd) (hp : planOk ⟨n, bs⟩ = true) (ds : List Bd) (hds : bs.map swapD = ds) (A : Option Addr) (b o c B : Nat) (w : World)  (hB : B ≤ w.heap.size) (hR : BdsR w B b o A bs) :
  Calls Tryz.prog 35 #[.agg #[.int .i64 n, .slice A bs.length c], .agg #[.int .i64 4, .int .i64 0, .int .i64 0, .int .i64 0, .string ⟨#[]⟩]] w fun e w' => ∃ v, e = .returned v ∧ MadeV B w w' ⟨n, ds⟩ v ∧ Below w.heap.size w w' := by
 have hD := ((po_new (t := 34) (n := n) (c := c) (Below.refl w.heap.size w) (hR.more hB)).alloc (.cells #[.int .i64 4, .int .i64 0, .int .i64 0, .int .i64 0, .string ⟨#[]⟩] 41)).alloc (.cells #[.int .i64 0, .slice none 0 0] 34)
 have hE : DeB w (((w.alloc (.cells #[.int .i64 n, .slice A bs.length c] 34)).alloc (.cells #[.int .i64 4, .int .i64 0, .int .i64 0, .int .i64 0, .string ⟨#[]⟩] 41)).alloc (.cells #[.int .i64 0, .slice none 0 0] 34)) (w.heap.size + 1) 4 0 0 0 ⟨#[]⟩ := DeB.alloc (deb_new (by simp) (by simp)) _
 have hY : ZB w (((w.alloc (.cells #[.int .i64 n, .slice A bs.length c] 34)).alloc (.cells #[.int .i64 4, .int .i64 0, .int .i64 0, .int .i64 0, .string ⟨#[]⟩] 41)).alloc (.cells #[.int .i64 0, .slice none 0 0] 34)) (w.heap.size + 1 + 1) := zb_at (by simp) (by simp; omega)
 have hRb := hR.below (Below.refl B w)
 clear hR
 go_enter Tryz.func35, Tryz.ntmps35
 go_upto_region 1 with fail
 generalize ((w.alloc (.cells #[.int .i64 n, .slice A bs.length c] 34)).alloc (.cells #[.int .i64 4, .int .i64 0, .int .i64 0, .int .i64 0, .string ⟨#[]⟩] 41)).alloc (.cells #[.int .i64 0, .slice none 0 0] 34) = W at hD hE hY ⊢
 have p0 := hD.c0
 have p1 := hD.c1
 have d0 := hE.c0
 have d1 := hE.c1
 have d2 := hE.c2
 have d3 := hE.c3
 have d4 := hE.c4
 have z0 := hY.z0
 have z1 := hY.z1
 have zf0 := hY.zf 0
 have zf1 := hY.zf 1
 have hYl := hY.ex
 have hlo := hD.bel.size
 have hcall := fun (wq : World) (hq : BdsR wq wq.heap.size b o A bs) => sTurned_q ⟨n, bs⟩ hp A b o c _ wq (Nat.le_refl _) hq
 dsimp only at hcall
 rw [hds] at hcall
 have Hcall := hide hcall
 clear hcall
 go_upto_region 12 with fail
 clear z0 z1 zf0 zf1
 go_wp2_with (go_at_call 68; refine (Hcall.out _ hD.rd).mono ?_; rintro e w2 ⟨A1, c1, g1, rfl, hr1, own1, hb1⟩; have hY2 := hY.below hb1; have z0 := hY2.z0; have z1 := hY2.z1; have zf0 := hY2.zf 0; have zf1 := hY2.zf 1)
 obtain ⟨r0, r1, ho2, hb7⟩ := hY2.fin (n := n) (bthen hD.bel hb1) (own_less own1 hlo) (mfin_ne own1 hYl)
 refine bodyPost_ret (v := .agg #[.int .i64 n, .slice A1 ds.length c1]) (by simp [results, Tryz.results35, go_sem, r0, r1]) rfl ?_
 obtain ⟨g, hr⟩ := OwnB.readsA ho2
 exact ⟨_, rfl, ⟨A1, c1, g, 0, rfl, hr, fun h => .inr (own_ge ho2 hr h)⟩, hb7⟩
set_option maxHeartbeats 2000000 in
set_option maxRecDepth 100000 in
theorem l15Made_bound (n : Int) (bs : List Bd) (a1 a2 a3 : Int) (q : Pl) (hq : toldP ⟨n, bs ++ [⟨a1, a2, a3⟩]⟩ = q) (h16 : bs.length ≤ 16) (A : Option Addr) (b o c B : Nat) (w : World)  (hB : B ≤ w.heap.size) (hR : BdsR w B b o A bs) :
  Calls Tryz.prog 35 #[.agg #[.int .i64 n, .slice A bs.length c], .agg #[.int .i64 1, .int .i64 a1, .int .i64 a2, .int .i64 a3, .string ⟨#[]⟩]] w fun e w' => ∃ v, e = .returned v ∧ MadeV B w w' q v ∧ Below w.heap.size w w' := by
 have hD := ((po_new (t := 34) (n := n) (c := c) (Below.refl w.heap.size w) (hR.more hB)).alloc (.cells #[.int .i64 1, .int .i64 a1, .int .i64 a2, .int .i64 a3, .string ⟨#[]⟩] 41)).alloc (.cells #[.int .i64 0, .slice none 0 0] 34)
 have hE : DeB w (((w.alloc (.cells #[.int .i64 n, .slice A bs.length c] 34)).alloc (.cells #[.int .i64 1, .int .i64 a1, .int .i64 a2, .int .i64 a3, .string ⟨#[]⟩] 41)).alloc (.cells #[.int .i64 0, .slice none 0 0] 34)) (w.heap.size + 1) 1 a1 a2 a3 ⟨#[]⟩ := DeB.alloc (deb_new (by simp) (by simp)) _
 have hY : ZB w (((w.alloc (.cells #[.int .i64 n, .slice A bs.length c] 34)).alloc (.cells #[.int .i64 1, .int .i64 a1, .int .i64 a2, .int .i64 a3, .string ⟨#[]⟩] 41)).alloc (.cells #[.int .i64 0, .slice none 0 0] 34)) (w.heap.size + 1 + 1) := zb_at (by simp) (by simp; omega)
 have hRb := hR.below (Below.refl B w)
 clear hR
 go_enter Tryz.func35, Tryz.ntmps35
 go_upto_region 1 with fail
 generalize ((w.alloc (.cells #[.int .i64 n, .slice A bs.length c] 34)).alloc (.cells #[.int .i64 1, .int .i64 a1, .int .i64 a2, .int .i64 a3, .string ⟨#[]⟩] 41)).alloc (.cells #[.int .i64 0, .slice none 0 0] 34) = W at hD hE hY ⊢
 have p0 := hD.c0
 have p1 := hD.c1
 have d0 := hE.c0
 have d1 := hE.c1
 have d2 := hE.c2
 have d3 := hE.c3
 have d4 := hE.c4
 have z0 := hY.z0
 have z1 := hY.z1
 have zf0 := hY.zf 0
 have zf1 := hY.zf 1
 have hYl := hY.ex
 have hlo := hD.bel.size
 obtain ⟨r, hr⟩ : ∃ r, planOk ⟨n, bs ++ [⟨a1, a2, a3⟩]⟩ = r := ⟨_, rfl⟩
 have hcall := fun (wq : World) (hq' : BdsR wq wq.heap.size b o A bs) => sWithBound_reg n bs ⟨a1, a2, a3⟩ A b o c _ wq (by omega) (Nat.le_refl _) hq' q r hq hr
 dsimp only at hcall
 have Hcall := hide hcall
 clear hcall hq hr
 go_upto_region 4 with fail
 clear z0 z1 zf0 zf1
 go_upto_region 5 with (go_at_call 65; refine (Hcall.out _ hD.rd).mono ?_; rintro e w2 ⟨A1, c1, g1, rfl, hr1, own1, hb1⟩)
 have hY2 := hY.below hb1
 have z0 := hY2.z0
 have z1 := hY2.z1
 have zf0 := hY2.zf 0
 have zf1 := hY2.zf 1
 have hlt2 := hY2.ex
 obtain ⟨r0, r1, ho2, hb7⟩ := hY2.fin (n := q.n) (bthen hD.bel hb1) (own_less own1 hlo) (mfin_ne own1 hYl)
 have hal : Below ((w2.setCell ⟨w.heap.size + 1 + 1, 0, none⟩ (.int .i64 q.n)).setCell ⟨w.heap.size + 1 + 1, 1, none⟩ (.slice A1 q.bs.length c1)).heap.size ((w2.setCell ⟨w.heap.size + 1 + 1, 0, none⟩ (.int .i64 q.n)).setCell ⟨w.heap.size + 1 + 1, 1, none⟩ (.slice A1 q.bs.length c1)) (((w2.setCell ⟨w.heap.size + 1 + 1, 0, none⟩ (.int .i64 q.n)).setCell ⟨w.heap.size + 1 + 1, 1, none⟩ (.slice A1 q.bs.length c1)).alloc (.cells #[.int .i64 q.n, .slice A1 q.bs.length c1] 34)) := by go_grown
 replace r0 := ((bcell hal).1 _ _ (by simp; omega)).trans r0
 replace r1 := ((bcell hal).1 _ _ (by simp; omega)).trans r1
 replace ho2 := own_below ho2 hal
 replace hb7 := bthen hb7 hal
 go_wp2_with fail
 refine bodyPost_ret (v := .agg #[.int .i64 q.n, .slice A1 q.bs.length c1]) (by simp [results, Tryz.results35, go_sem, r0, r1]) rfl ?_
 obtain ⟨g, hr⟩ := OwnB.readsA ho2
 exact ⟨_, rfl, ⟨A1, c1, g, 0, rfl, hr, fun h => .inr (own_ge ho2 hr h)⟩, hb7⟩
set_option maxHeartbeats 2000000 in
set_option maxRecDepth 100000 in
theorem l15Made_loose (n : Int) (bs : List Bd) (k : Nat) (ds : List Bd) (hds : del bs k = ds) (hp : planOk ⟨n, bs⟩ = true) (hk : k < bs.length) (A : Option Addr) (b o c B : Nat) (w : World) (hcap : bs.length ≤ c) (hc63 : c ≤ 9223372036854775807) (hB : B ≤ w.heap.size) (hR : BdsR w B b o A bs) :
  Calls Tryz.prog 35 #[.agg #[.int .i64 n, .slice A bs.length c], .agg #[.int .i64 2, .int .i64 (k : Int), .int .i64 0, .int .i64 0, .string ⟨#[]⟩]] w fun e w' => ∃ v, e = .returned v ∧ MadeV B w w' ⟨n, ds⟩ v ∧ Below w.heap.size w w' := by
 have hD := ((po_new (t := 34) (n := n) (c := c) (Below.refl w.heap.size w) (hR.more hB)).alloc (.cells #[.int .i64 2, .int .i64 (k : Int), .int .i64 0, .int .i64 0, .string ⟨#[]⟩] 41)).alloc (.cells #[.int .i64 0, .slice none 0 0] 34)
 have hE : DeB w (((w.alloc (.cells #[.int .i64 n, .slice A bs.length c] 34)).alloc (.cells #[.int .i64 2, .int .i64 (k : Int), .int .i64 0, .int .i64 0, .string ⟨#[]⟩] 41)).alloc (.cells #[.int .i64 0, .slice none 0 0] 34)) (w.heap.size + 1) 2 (k : Int) 0 0 ⟨#[]⟩ := DeB.alloc (deb_new (by simp) (by simp)) _
 have hY : ZB w (((w.alloc (.cells #[.int .i64 n, .slice A bs.length c] 34)).alloc (.cells #[.int .i64 2, .int .i64 (k : Int), .int .i64 0, .int .i64 0, .string ⟨#[]⟩] 41)).alloc (.cells #[.int .i64 0, .slice none 0 0] 34)) (w.heap.size + 1 + 1) := zb_at (by simp) (by simp; omega)
 have hRb := hR.below (Below.refl B w)
 clear hR
 go_enter Tryz.func35, Tryz.ntmps35
 go_upto_region 1 with fail
 generalize ((w.alloc (.cells #[.int .i64 n, .slice A bs.length c] 34)).alloc (.cells #[.int .i64 2, .int .i64 (k : Int), .int .i64 0, .int .i64 0, .string ⟨#[]⟩] 41)).alloc (.cells #[.int .i64 0, .slice none 0 0] 34) = W at hD hE hY ⊢
 have p0 := hD.c0
 have p1 := hD.c1
 have d0 := hE.c0
 have d1 := hE.c1
 have d2 := hE.c2
 have d3 := hE.c3
 have d4 := hE.c4
 have z0 := hY.z0
 have z1 := hY.z1
 have zf0 := hY.zf 0
 have zf1 := hY.zf 1
 have hYl := hY.ex
 have hlo := hD.bel.size
 have hcall := fun (wq : World) (hq' : BdsR wq wq.heap.size b o A bs) => sWithout_yes ⟨n, bs⟩ k ds hds A b o c _ wq hp hk hcap hc63 (Nat.le_refl _) hq'
 dsimp only at hcall
 have Hcall := hide hcall
 clear hcall hds hp hk
 go_upto_region 7 with fail
 clear z0 z1 zf0 zf1
 go_upto_region 8 with (go_at_call 66; refine (Hcall.out _ hD.rd).mono ?_; rintro e w2 ⟨A1, c1, g1, rfl, hr1, own1, hb1⟩)
 have hY2 := hY.below hb1
 have z0 := hY2.z0
 have z1 := hY2.z1
 have zf0 := hY2.zf 0
 have zf1 := hY2.zf 1
 have hlt2 := hY2.ex
 obtain ⟨r0, r1, ho2, hb7⟩ := hY2.fin (n := n) (bthen hD.bel hb1) (own_less own1 hlo) (mfin_ne own1 hYl)
 have hal : Below ((w2.setCell ⟨w.heap.size + 1 + 1, 0, none⟩ (.int .i64 n)).setCell ⟨w.heap.size + 1 + 1, 1, none⟩ (.slice A1 ds.length c1)).heap.size ((w2.setCell ⟨w.heap.size + 1 + 1, 0, none⟩ (.int .i64 n)).setCell ⟨w.heap.size + 1 + 1, 1, none⟩ (.slice A1 ds.length c1)) (((w2.setCell ⟨w.heap.size + 1 + 1, 0, none⟩ (.int .i64 n)).setCell ⟨w.heap.size + 1 + 1, 1, none⟩ (.slice A1 ds.length c1)).alloc (.cells #[.int .i64 n, .slice A1 ds.length c1] 34)) := by go_grown
 replace r0 := ((bcell hal).1 _ _ (by simp; omega)).trans r0
 replace r1 := ((bcell hal).1 _ _ (by simp; omega)).trans r1
 replace ho2 := own_below ho2 hal
 replace hb7 := bthen hb7 hal
 go_wp2_with fail
 refine bodyPost_ret (v := .agg #[.int .i64 n, .slice A1 ds.length c1]) (by simp [results, Tryz.results35, go_sem, r0, r1]) rfl ?_
 obtain ⟨g, hr⟩ := OwnB.readsA ho2
 exact ⟨_, rfl, ⟨A1, c1, g, 0, rfl, hr, fun h => .inr (own_ge ho2 hr h)⟩, hb7⟩
set_option maxHeartbeats 2000000 in
set_option maxRecDepth 100000 in
theorem l15Made_loose_no (n : Int) (bs : List Bd) (a1 : Int) (hno : (planOk ⟨n, bs⟩ && inB a1 0 ((bs.length : Int) - 1)) = false) (hn : bs.length ≤ 2000000) (A : Option Addr) (b o c B : Nat) (w : World)  (hB : B ≤ w.heap.size) (hR : BdsR w B b o A bs) :
  Calls Tryz.prog 35 #[.agg #[.int .i64 n, .slice A bs.length c], .agg #[.int .i64 2, .int .i64 a1, .int .i64 0, .int .i64 0, .string ⟨#[]⟩]] w fun e w' => ∃ v, e = .returned v ∧ MadeV B w w' ⟨0, []⟩ v ∧ Below w.heap.size w w' := by
 have hD := ((po_new (t := 34) (n := n) (c := c) (Below.refl w.heap.size w) (hR.more hB)).alloc (.cells #[.int .i64 2, .int .i64 a1, .int .i64 0, .int .i64 0, .string ⟨#[]⟩] 41)).alloc (.cells #[.int .i64 0, .slice none 0 0] 34)
 have hE : DeB w (((w.alloc (.cells #[.int .i64 n, .slice A bs.length c] 34)).alloc (.cells #[.int .i64 2, .int .i64 a1, .int .i64 0, .int .i64 0, .string ⟨#[]⟩] 41)).alloc (.cells #[.int .i64 0, .slice none 0 0] 34)) (w.heap.size + 1) 2 a1 0 0 ⟨#[]⟩ := DeB.alloc (deb_new (by simp) (by simp)) _
 have hY : ZB w (((w.alloc (.cells #[.int .i64 n, .slice A bs.length c] 34)).alloc (.cells #[.int .i64 2, .int .i64 a1, .int .i64 0, .int .i64 0, .string ⟨#[]⟩] 41)).alloc (.cells #[.int .i64 0, .slice none 0 0] 34)) (w.heap.size + 1 + 1) := zb_at (by simp) (by simp; omega)
 have hRb := hR.below (Below.refl B w)
 clear hR
 go_enter Tryz.func35, Tryz.ntmps35
 go_upto_region 1 with fail
 generalize ((w.alloc (.cells #[.int .i64 n, .slice A bs.length c] 34)).alloc (.cells #[.int .i64 2, .int .i64 a1, .int .i64 0, .int .i64 0, .string ⟨#[]⟩] 41)).alloc (.cells #[.int .i64 0, .slice none 0 0] 34) = W at hD hE hY ⊢
 have p0 := hD.c0
 have p1 := hD.c1
 have d0 := hE.c0
 have d1 := hE.c1
 have d2 := hE.c2
 have d3 := hE.c3
 have d4 := hE.c4
 have z0 := hY.z0
 have z1 := hY.z1
 have zf0 := hY.zf 0
 have zf1 := hY.zf 1
 have hYl := hY.ex
 have hlo := hD.bel.size
 have hcall := fun (wq : World) (hq' : BdsR wq wq.heap.size b o A bs) => sWithout_no ⟨n, bs⟩ a1 A b o c _ wq hn hno (Nat.le_refl _) hq'
 dsimp only at hcall
 have Hcall := hide hcall
 clear hcall hno hn
 go_upto_region 7 with fail
 clear z0 z1 zf0 zf1
 go_upto_region 8 with (go_at_call 66; refine (Hcall.out _ hD.rd).mono ?_; rintro e w2 ⟨rfl, hb1⟩)
 have hY2 := hY.below hb1
 have z0 := hY2.z0
 have z1 := hY2.z1
 have zf0 := hY2.zf 0
 have zf1 := hY2.zf 1
 have hlt2 := hY2.ex
 obtain ⟨r0, r1, ho2, hb7⟩ := hY2.fin (n := 0) (A := none) (c := 0) (bs := []) (bthen hD.bel hb1) (World.ownsRow_nil _ _ _ _) (by simp [Value.ownBlock])
 have hal : Below ((w2.setCell ⟨w.heap.size + 1 + 1, 0, none⟩ (.int .i64 0)).setCell ⟨w.heap.size + 1 + 1, 1, none⟩ (.slice none 0 0)).heap.size ((w2.setCell ⟨w.heap.size + 1 + 1, 0, none⟩ (.int .i64 0)).setCell ⟨w.heap.size + 1 + 1, 1, none⟩ (.slice none 0 0)) (((w2.setCell ⟨w.heap.size + 1 + 1, 0, none⟩ (.int .i64 0)).setCell ⟨w.heap.size + 1 + 1, 1, none⟩ (.slice none 0 0)).alloc (.cells #[.int .i64 0, .slice none 0 0] 34)) := by go_grown
 replace r0 := ((bcell hal).1 _ _ (by simp; omega)).trans r0
 replace r1 := ((bcell hal).1 _ _ (by simp; omega)).trans r1
 replace ho2 := own_below ho2 hal
 replace hb7 := bthen hb7 hal
 go_wp2_with fail
 refine bodyPost_ret (v := .agg #[.int .i64 0, .slice none 0 0]) (by simp [results, Tryz.results35, go_sem, r0, r1]) rfl ?_
 exact ⟨_, rfl, ⟨none, 0, 0, 0, rfl, BdsR.nil _ _ _, fun h => by simp at h⟩, hb7⟩
set_option maxHeartbeats 2000000 in
set_option maxRecDepth 100000 in
theorem l15Made_term (n : Int) (bs : List Bd) (s : ByteArray) (L : List UInt8) (hL : s.data.toList = L) (rt : List UInt8 → Option (List Mk)) (hrt : IsRead rt) (q : Pl) (hq : planOf ((rt L).getD []) = q) (A : Option Addr) (b o c B : Nat) (w : World)  (hB : B ≤ w.heap.size) (hR : BdsR w B b o A bs) :
  Calls Tryz.prog 35 #[.agg #[.int .i64 n, .slice A bs.length c], .agg #[.int .i64 5, .int .i64 0, .int .i64 0, .int .i64 0, .string s]] w fun e w' => ∃ v, e = .returned v ∧ MadeV B w w' q v ∧ Below w.heap.size w w' := by
 have hD := ((po_new (t := 34) (n := n) (c := c) (Below.refl w.heap.size w) (hR.more hB)).alloc (.cells #[.int .i64 5, .int .i64 0, .int .i64 0, .int .i64 0, .string s] 41)).alloc (.cells #[.int .i64 0, .slice none 0 0] 34)
 have hE : DeB w (((w.alloc (.cells #[.int .i64 n, .slice A bs.length c] 34)).alloc (.cells #[.int .i64 5, .int .i64 0, .int .i64 0, .int .i64 0, .string s] 41)).alloc (.cells #[.int .i64 0, .slice none 0 0] 34)) (w.heap.size + 1) 5 0 0 0 s := DeB.alloc (deb_new (by simp) (by simp)) _
 have hY : ZB w (((w.alloc (.cells #[.int .i64 n, .slice A bs.length c] 34)).alloc (.cells #[.int .i64 5, .int .i64 0, .int .i64 0, .int .i64 0, .string s] 41)).alloc (.cells #[.int .i64 0, .slice none 0 0] 34)) (w.heap.size + 1 + 1) := zb_at (by simp) (by simp; omega)
 have hRb := hR.below (Below.refl B w)
 clear hR
 go_enter Tryz.func35, Tryz.ntmps35
 go_upto_region 1 with fail
 generalize ((w.alloc (.cells #[.int .i64 n, .slice A bs.length c] 34)).alloc (.cells #[.int .i64 5, .int .i64 0, .int .i64 0, .int .i64 0, .string s] 41)).alloc (.cells #[.int .i64 0, .slice none 0 0] 34) = W at hD hE hY ⊢
 have p0 := hD.c0
 have p1 := hD.c1
 have d0 := hE.c0
 have d1 := hE.c1
 have d2 := hE.c2
 have d3 := hE.c3
 have d4 := hE.c4
 have z0 := hY.z0
 have z1 := hY.z1
 have zf0 := hY.zf 0
 have zf1 := hY.zf 1
 have hYl := hY.ex
 have hlo := hD.bel.size
 go_upto_region 14 with fail
 clear z0 z1 zf0 zf1
 go_upto_region 15 with (go_at_call 69; refine (sReadTerm_q rt hrt s L hL _).mono ?_; rintro e w3 ⟨v, rfl, ⟨A3, c3, t, rfl, own3, ht, htl⟩, hb3⟩; have Ht := hide ht; clear ht)
 have hcap := own_capM own3
 obtain ⟨g3, hr3⟩ := OwnM.reads own3
 rw [← Ht.out] at hq
 obtain ⟨r, hr⟩ : ∃ r, planIs t = r := ⟨_, rfl⟩
 have hcall := sPlanOf_q t q r hq hr A3 g3 0 c3 _ w3 hcap (Nat.le_refl _) hr3 (by omega)
 have Hcall := hide hcall
 clear hcall hq hr Ht
 replace hD := hD.below hb3
 replace hY := hY.below hb3
 replace hYl := hY.ex
 replace hlo := hD.bel.size
 clear hE
 go_upto_region 16 with (go_at_call 70; refine Hcall.out.mono ?_; rintro e w2 ⟨A1, c1, g1, rfl, hr1, own1, hb1⟩)
 have hY2 := hY.below hb1
 have z0 := hY2.z0
 have z1 := hY2.z1
 have zf0 := hY2.zf 0
 have zf1 := hY2.zf 1
 have hlt2 := hY2.ex
 obtain ⟨r0, r1, ho2, hb7⟩ := hY2.fin (n := q.n) (bthen hD.bel hb1) (own_less own1 hlo) (mfin_ne own1 hYl)
 have hal : Below ((w2.setCell ⟨w.heap.size + 1 + 1, 0, none⟩ (.int .i64 q.n)).setCell ⟨w.heap.size + 1 + 1, 1, none⟩ (.slice A1 q.bs.length c1)).heap.size ((w2.setCell ⟨w.heap.size + 1 + 1, 0, none⟩ (.int .i64 q.n)).setCell ⟨w.heap.size + 1 + 1, 1, none⟩ (.slice A1 q.bs.length c1)) (((w2.setCell ⟨w.heap.size + 1 + 1, 0, none⟩ (.int .i64 q.n)).setCell ⟨w.heap.size + 1 + 1, 1, none⟩ (.slice A1 q.bs.length c1)).alloc (.cells #[.int .i64 q.n, .slice A1 q.bs.length c1] 34)) := by go_grown
 replace r0 := ((bcell hal).1 _ _ (by simp; omega)).trans r0
 replace r1 := ((bcell hal).1 _ _ (by simp; omega)).trans r1
 replace ho2 := own_below ho2 hal
 replace hb7 := bthen hb7 hal
 go_wp2_with fail
 refine bodyPost_ret (v := .agg #[.int .i64 q.n, .slice A1 q.bs.length c1]) (by simp [results, Tryz.results35, go_sem, r0, r1]) rfl ?_
 obtain ⟨g, hr⟩ := OwnB.readsA ho2
 exact ⟨_, rfl, ⟨A1, c1, g, 0, rfl, hr, fun h => .inr (own_ge ho2 hr h)⟩, hb7⟩

theorem str_nil {s : ByteArray} (hL : s.data.toList = []) : s = ⟨#[]⟩ := by
 have := str_eq hL
 exact this
theorem str_ne {s : ByteArray} {L : List UInt8} (hL : s.data.toList = L) (h : L ≠ []) : s.toList.isEmpty = false := by
 rw [str_list hL]
 cases L with
 | nil => exact absurd rfl h
 | cons a l => rfl
/-- What a deed makes of a plan. -/
theorem l15Made_q (rt : List UInt8 → Option (List Mk)) (hrt : IsRead rt) (p : Pl) (hp : planOk p = true) (k a1 a2 a3 : Int) (s : ByteArray) (L : List UInt8) (hL : s.data.toList = L) (A : Option Addr) (b o c B : Nat) (w : World) (hcap : p.bs.length ≤ c) (hc63 : c ≤ 9223372036854775807) (hB : B ≤ w.heap.size) (hR : BdsR w B b o A p.bs) :
  Calls Tryz.prog 35 #[.agg #[.int .i64 p.n, .slice A p.bs.length c], .agg #[.int .i64 k, .int .i64 a1, .int .i64 a2, .int .i64 a3, .string s]] w fun e w' => ∃ v, e = .returned v ∧ MadeV B w w' (madeP rt p ⟨k, a1, a2, a3, L⟩) v ∧ Below w.heap.size w w' := by
 obtain ⟨hn, h16, -⟩ := planOk_iff.1 hp
 obtain ⟨n, bs⟩ := p
 dsimp only at *
 unfold madeP
 dsimp only
 by_cases h0 : k = 0
 ·subst h0
  by_cases hx : a1 = 0 ∧ a2 = 0 ∧ a3 = 0 ∧ L = []
  ·obtain ⟨rfl, rfl, rfl, rfl⟩ := hx
   rw [if_pos ⟨rfl, rfl, rfl, rfl, rfl⟩]
   obtain rfl := str_nil hL
   exact l15Made_point n bs hn A b o c B w hB hR
  ·rw [if_neg (fun h => hx h.2), if_neg (by omega), if_neg (by omega), if_neg (by omega), if_neg (by omega), if_neg (by omega)]
   refine l15Made_0n n bs a1 a2 a3 s ?_ A b o c B w hB hR
   rw [str_list hL, Bool.eq_false_iff]
   intro h
   simp at h
   exact hx h
 by_cases h1 : k = 1
 ·subst h1
  rw [if_neg (by omega)]
  by_cases hx : L = []
  ·subst hx
   rw [if_pos ⟨rfl, rfl⟩]
   obtain rfl := str_nil hL
   exact l15Made_bound n bs a1 a2 a3 _ rfl h16 A b o c B w hB hR
  ·rw [if_neg (fun h => hx h.2), if_neg (by omega), if_neg (by omega), if_neg (by omega), if_neg (by omega)]
   exact l15Made_1n n bs a1 a2 a3 s (str_ne hL hx) A b o c B w hB hR
 by_cases h2 : k = 2
 ·subst h2
  rw [if_neg (by omega), if_neg (by omega)]
  by_cases hx : a2 = 0 ∧ a3 = 0 ∧ L = []
  ·obtain ⟨rfl, rfl, rfl⟩ := hx
   rw [if_pos ⟨rfl, rfl, rfl, rfl⟩]
   obtain rfl := str_nil hL
   unfold lessP
   dsimp only
   by_cases hy : (planOk ⟨n, bs⟩ && inB a1 0 ((bs.length : Int) - 1)) = true
   ·rw [if_pos hy]
    rw [hp, Bool.true_and, inB_iff] at hy
    obtain ⟨j, rfl⟩ := Int.eq_ofNat_of_zero_le hy.1
    have := l15Made_loose n bs j (del bs j) rfl hp (by omega) A b o c B w hcap hc63 hB hR
    rw [Int.toNat_natCast]
    exact this
   ·rw [if_neg hy]
    exact l15Made_loose_no n bs a1 (by simpa using hy) (by omega) A b o c B w hB hR
  ·rw [if_neg (fun h => hx h.2), if_neg (by omega), if_neg (by omega), if_neg (by omega)]
   refine l15Made_2n n bs a1 a2 a3 s ?_ A b o c B w hB hR
   rw [str_list hL, Bool.eq_false_iff]
   intro h
   simp at h
   exact hx h
 by_cases h3 : k = 3
 ·subst h3
  rw [if_neg (by omega), if_neg (by omega), if_neg (by omega)]
  by_cases hx : a1 = 0 ∧ a2 = 0 ∧ a3 = 0 ∧ L = []
  ·obtain ⟨rfl, rfl, rfl, rfl⟩ := hx
   rw [if_pos ⟨rfl, rfl, rfl, rfl, rfl⟩]
   obtain rfl := str_nil hL
   exact l15Made_trim n bs _ rfl h16 A b o c B w hB hR
  ·rw [if_neg (fun h => hx h.2), if_neg (by omega), if_neg (by omega)]
   refine l15Made_3n n bs a1 a2 a3 s ?_ A b o c B w hB hR
   rw [str_list hL, Bool.eq_false_iff]
   intro h
   simp at h
   exact hx h
 by_cases h4 : k = 4
 ·subst h4
  rw [if_neg (by omega), if_neg (by omega), if_neg (by omega), if_neg (by omega)]
  by_cases hx : a1 = 0 ∧ a2 = 0 ∧ a3 = 0 ∧ L = []
  ·obtain ⟨rfl, rfl, rfl, rfl⟩ := hx
   rw [if_pos ⟨rfl, rfl, rfl, rfl, rfl⟩]
   obtain rfl := str_nil hL
   exact l15Made_turn n bs hp _ rfl A b o c B w hB hR
  ·rw [if_neg (fun h => hx h.2), if_neg (by omega)]
   refine l15Made_4n n bs a1 a2 a3 s ?_ A b o c B w hB hR
   rw [str_list hL, Bool.eq_false_iff]
   intro h
   simp at h
   exact hx h
 by_cases h5 : k = 5
 ·subst h5
  rw [if_neg (by omega), if_neg (by omega), if_neg (by omega), if_neg (by omega), if_neg (by omega)]
  by_cases hx : a1 = 0 ∧ a2 = 0 ∧ a3 = 0
  ·obtain ⟨rfl, rfl, rfl⟩ := hx
   rw [if_pos ⟨rfl, rfl, rfl, rfl⟩]
   exact l15Made_term n bs s L hL rt hrt _ rfl A b o c B w hB hR
  ·rw [if_neg (fun h => hx h.2)]
   refine l15Made_5n n bs a1 a2 a3 s ?_ A b o c B w hB hR
   rw [Bool.eq_false_iff]
   intro h
   simp at h
   exact hx h
 rw [if_neg (by omega), if_neg (by omega), if_neg (by omega), if_neg (by omega), if_neg (by omega), if_neg (by omega)]
 exact l15Made_kn n bs k a1 a2 a3 s (by simpa using h0) (by simpa using h1) (by simpa using h2) (by simpa using h3) (by simpa using h4) (by simpa using h5) A b o c B w hB hR
end Go.Proofs.YtmnajkhoacogjaaGreatDoor
