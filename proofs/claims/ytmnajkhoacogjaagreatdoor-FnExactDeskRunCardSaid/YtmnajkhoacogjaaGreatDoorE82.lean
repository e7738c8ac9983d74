/-
 Desks that are made; deeds that are made.
-/
import Derived.Test.YtmnajkhoacogjaaGreatDoorE81
namespace Go.Proofs.YtmnajkhoacogjaaGreatDoor
set_option linter.unusedVariables false
set_option linter.unusedSimpArgs false
open Go Go.RowKit Pp

/-- A row of plans that is being made. -/
def rowG (cs : List Value) (j : Nat) : Value := if j < cs.length then cs[j]?.getD default else if j % 2 = 1 then .slice none 0 0 else .int .i64 0
theorem rowG_step {cs : List Value} {k : Nat} (hl : cs.length = k * 2) (a b : Value) (j : Nat) : (if j = k * 2 + 1 then b else if j = k * 2 then a else rowG cs j) = rowG (cs ++ [a, b]) j := by
 unfold rowG
 have hl2 : (cs ++ [a, b]).length = k * 2 + 2 := by simp [hl]
 rw [hl2, hl]
 by_cases h1 : j = k * 2 + 1
 ·subst h1
  rw [if_pos rfl, if_pos (by omega), List.getElem?_append_right (by omega), hl, Nat.add_sub_cancel_left]; rfl
 ·rw [if_neg h1]
  by_cases h0 : j = k * 2
  ·subst h0
   rw [if_pos rfl, if_pos (by omega), List.getElem?_append_right (by omega), hl, Nat.sub_self]; rfl
  ·rw [if_neg h0]
   by_cases h : j < k * 2
   ·rw [if_pos h, if_pos (by omega), List.getElem?_append_left (by omega)]
   ·rw [if_neg h, if_neg (show ¬ j < k * 2 + 2 by omega)]
theorem PlC.setLow {lo Y : Nat} {w : World} {ps : List Pl} {cs : List Value} (h : PlC lo w ps cs) (hY : Y < lo) (i : Nat) (x : Value) : PlC lo (w.setCell ⟨Y, i, none⟩ x) ps cs :=
 ⟨h.1, fun j p hp => by
  obtain ⟨h0, A, c, h1, h2⟩ := h.2 j p hp
  exact ⟨h0, A, c, h1, own_set_low h2 (p := ⟨Y, i, none⟩) hY x⟩⟩

set_option maxHeartbeats 2000000 in
set_option maxRecDepth 100000 in
theorem toPlanS_c (nv : Value) (A : Option Addr) (b o c B : Nat) (ps : List Pl) (w : World) (hn : ps.length ≤ 2000000) (hn3 : ∀ x ∈ ps, x.bs.length ≤ 2000000) (hnv : ∀ k, nv.ownBlock = some k → k < w.heap.size) (hB : B ≤ w.heap.size) (hR : PlsR w B b o A ps) :
  Calls Tryz.prog 40 #[.slice A ps.length c] w fun e w' => ∃ A1 c1, e = .returned (.slice A1 ps.length c1) ∧ OwnPs w.heap.size w' (.slice A1 ps.length c1) ps ∧ DifW w.heap.size w'.heap.size w' nv (.slice A1 ps.length c1) ps.length ∧ Below w.heap.size w w' := by
 obtain ⟨i0, hi0, hz0, hz1, hz2⟩ := info_parts infoPl
 have hmk := fun W => run_make (P := Tryz.prog) W 35 34 i0 (.agg #[.int .i64 0, .slice none 0 0]) Tryz.underlying35 hi0 hz0 .i64 .i64 ps.length ps.length (by omega) (Int.le_refl _) (by rw [hz2]; omega) (by omega)
 simp only [Int.toNat_natCast, hz1] at hmk
 have hrow : (w.alloc (.cells (madeCells #[.int .i64 0, .slice none 0 0] (ps.length * 2)) 34)).rowIs w.heap.size 34 (ps.length * 2) (rowG []) := by
  have h := World.rowIs_alloc w (madeCells #[.int .i64 0, .slice none 0 0] (ps.length * 2)) 34 (rowG []) (fun i hi => by
   rw [size_madeCells] at hi
   have h3 : i % 2 = 0 ∨ i % 2 = 1 := by omega
   unfold rowG
   rw [if_neg (by simp)]
   simp only [madeCells, Array.getElem?_map]
   rw [Array.getElem?_eq_getElem (by simpa using hi)]
   simp
   rcases h3 with h | h <;> rw [h] <;> rfl)
  rwa [size_madeCells] at h
 go_enter Tryz.func40, Tryz.ntmps40
 go_wp2_with fail
 have hW0 : Below w.heap.size w (w.alloc (.cells (madeCells #[.int .i64 0, .slice none 0 0] (ps.length * 2)) 34)) := by go_grown
 generalize w.alloc (.cells (madeCells #[.int .i64 0, .slice none 0 0] (ps.length * 2)) 34) = W at hrow hW0 ⊢
 clear hmk
 go_loopg [4] ps.length (fun gh s wr => ∃ (k : Nat) (cs : List Value), k ≤ ps.length ∧ gh = ps.length - k ∧ s = .int .i64 k ∧ Below w.heap.size w wr ∧ Hid (cs.length = k * 2) ∧ wr.rowIs w.heap.size 34 (ps.length * 2) (rowG cs) ∧ PlC (w.heap.size + 1) wr (ps.take k) cs ∧ DifC wr.heap.size nv cs)
 case atStart => exact ⟨0, [], Nat.zero_le _, rfl, rfl, hW0, rfl, hrow, ⟨rfl, by simp⟩, DifC.nil _ _⟩
 case round =>
  clear hW0 hrow
  obtain ⟨k, cs, hk, rfl, rfl, hW, Hl, hrow, hplc, hdif⟩ := hrel
  have hHw := hrow.lt
  by_cases hlt : k < ps.length
  ·have hlt' : (k : Int) < (ps.length : Int) := by omega
   obtain rfl := hR.addr (by omega)
   have hx := List.getElem?_eq_getElem hlt
   have htk : ps.take (k + 1) = ps.take k ++ [ps[k]] := by rw [List.take_add_one, hx]; rfl
   have hm := hn3 _ (List.mem_of_getElem? hx)
   obtain ⟨A', b', o', c', d0, d1, hrd⟩ := (hR.below (hW.mono hB)).row k _ hx
   have Htk := hide htk
   clear htk hx
   generalize ps[k] = x at d0 d1 Htk hm hrd
   have hBw : B ≤ wr.heap.size := Nat.le_trans hB hW.size
   go_wp2_with (go_at_call 39; go_fit (toPlan_q x.n x.bs A' b' o' c' B _ hm hBw hrd); rintro e w2 ⟨A1, c1, g1, rfl, hr1, ho, hb2⟩; have hrow2 := rowIs_below hrow hb2 hHw; have hW2 : Below w.heap.size w w2 := bthen hW hb2; have hplc2 := (hplc.below hb2).snoc (own_less ho hHw); have t0 := hrow2.cell (i := k * 2) (by omega); have t1 := hrow2.cell (i := k * 2 + 1) (by omega); have tf0 := hrow2.frozen (k * 2); have tf1 := hrow2.frozen (k * 2 + 1))
   have hdif2 : DifC w2.heap.size nv (cs ++ [.int .i64 x.n, .slice A1 x.bs.length c1]) := hdif.snoc Hl.out hb2.size (fun k hk => ho.lt k hk) (fun k hk => Nat.lt_of_lt_of_le (hnv k hk) hW.size)
   have hrow3 := ((hrow2.set (k * 2) (.int .i64 x.n)).set (k * 2 + 1) (.slice A1 x.bs.length c1)).congr (g := rowG (cs ++ [.int .i64 x.n, .slice A1 x.bs.length c1])) (fun j _ => rowG_step Hl.out _ _ j)
   have hplc3 := (hplc2.setLow (Nat.lt_succ_self w.heap.size) (k * 2) (.int .i64 x.n)).setLow (Nat.lt_succ_self w.heap.size) (k * 2 + 1) (.slice A1 x.bs.length c1)
   rw [← Htk.out] at hplc3
   have hW3 := (hW2.setCell (p := ⟨w.heap.size, k * 2, none⟩) (Nat.le_refl _) (.int .i64 x.n)).setCell (p := ⟨w.heap.size, k * 2 + 1, none⟩) (Nat.le_refl _) (.slice A1 x.bs.length c1)
   have Hl3 : Hid ((cs ++ [Value.int .i64 x.n, .slice A1 x.bs.length c1]).length = (k + 1) * 2) := by have := Hl.out; unfold Hid; simp; omega
   go_roundg (ps.length - (k + 1))
   case measure => go_light; omega
   case rel => go_light; exact ⟨k + 1, _, by omega, rfl, by go_num, hW3, Hl3, hrow3, hplc3, by rw [World.size_setCell, World.size_setCell]; exact hdif2⟩
  ·obtain rfl : k = ps.length := by omega
   go_wp2_with fail
   go_ret
   rw [List.take_length] at hplc
   have hown : wr.ownsRow w.heap.size 34 2 (.slice (some ⟨w.heap.size, 0, none⟩) ps.length ps.length) ps.length cs := row_own hrow (fun j hj => by
    unfold rowG
    rw [if_pos (by rw [Hl.out]; exact hj), List.getElem?_eq_getElem (by rw [Hl.out]; exact hj)]; rfl) Hl.out (Nat.le_refl _) (Nat.le_refl _) (by unfold maxLen; omega)
   exact ⟨_, _, rfl, ⟨cs, hown, hplc.less (Nat.le_succ _)⟩, DifW.of_own hown hdif, hW⟩

/-- A box of three cells. -/
structure TD (w0 W : World) (X : Nat) (v0 v1 v2 : Value) : Prop where
 lo : w0.heap.size ≤ X
 ex : X < W.heap.size
 c0 : W.cell? ⟨X, 0, none⟩ = some v0
 c1 : W.cell? ⟨X, 1, none⟩ = some v1
 c2 : W.cell? ⟨X, 2, none⟩ = some v2
 cf : ∀ i, W.frozen? ⟨X, i, none⟩ = false
theorem TD.grown {w0 W W' : World} {X : Nat} {v0 v1 v2 : Value} {row : Option Nat} (h : TD w0 W X v0 v1 v2) (hg : W.grownBy W' row) (hr : some X ≠ row) : TD w0 W' X v0 v1 v2 :=
 ⟨h.lo, Nat.lt_of_lt_of_le h.ex hg.size, (hg.cell_far ⟨X, 0, none⟩ h.ex hr).trans h.c0, (hg.cell_far ⟨X, 1, none⟩ h.ex hr).trans h.c1, (hg.cell_far ⟨X, 2, none⟩ h.ex hr).trans h.c2, fun i => (hg.frozen_far ⟨X, i, none⟩ h.ex hr).trans (h.cf i)⟩
theorem TD.below {w0 W W' : World} {X : Nat} {v0 v1 v2 : Value} (h : TD w0 W X v0 v1 v2) (hb : Below W.heap.size W W') : TD w0 W' X v0 v1 v2 := h.grown (bel_grown hb) (by simp)
theorem TD.set0 {w0 W : World} {X : Nat} {v0 v1 v2 : Value} (h : TD w0 W X v0 v1 v2) (x : Value) : TD w0 (W.setCell ⟨X, 0, none⟩ x) X x v1 v2 :=
 ⟨h.lo, by simpa using h.ex, World.cell?_setCell_same _ _ _ h.c0, by rw [World.cell?_setCell_other _ _ _ _ (by simp)]; exact h.c1, by rw [World.cell?_setCell_other _ _ _ _ (by simp)]; exact h.c2, fun i => by rw [← h.cf i]; simp⟩
theorem TD.set1 {w0 W : World} {X : Nat} {v0 v1 v2 : Value} (h : TD w0 W X v0 v1 v2) (x : Value) : TD w0 (W.setCell ⟨X, 1, none⟩ x) X v0 x v2 :=
 ⟨h.lo, by simpa using h.ex, by rw [World.cell?_setCell_other _ _ _ _ (by simp)]; exact h.c0, World.cell?_setCell_same _ _ _ h.c1, by rw [World.cell?_setCell_other _ _ _ _ (by simp)]; exact h.c2, fun i => by rw [← h.cf i]; simp⟩
theorem TD.set2 {w0 W : World} {X : Nat} {v0 v1 v2 : Value} (h : TD w0 W X v0 v1 v2) (x : Value) : TD w0 (W.setCell ⟨X, 2, none⟩ x) X v0 v1 x :=
 ⟨h.lo, by simpa using h.ex, by rw [World.cell?_setCell_other _ _ _ _ (by simp)]; exact h.c0, by rw [World.cell?_setCell_other _ _ _ _ (by simp)]; exact h.c1, World.cell?_setCell_same _ _ _ h.c2, fun i => by rw [← h.cf i]; simp⟩
theorem td_new {w0 W : World} {X : Nat} {v0 v1 v2 : Value} {t : TypeId} (hX : X = W.heap.size) (h : w0.heap.size ≤ W.heap.size) : TD w0 (W.alloc (.cells #[v0, v1, v2] t)) X v0 v1 v2 := by
 subst hX
 exact ⟨h, by simp, by simp [go_sem], by simp [go_sem], by simp [go_sem], fun i => by simp [go_sem]⟩
theorem OwnPs.setFar {lo Y : Nat} {w : World} {v : Value} {ps : List Pl} (h : OwnPs lo w v ps) (hY : Y < lo) (i : Nat) (x : Value) : OwnPs lo (w.setCell ⟨Y, i, none⟩ x) v ps := by
 obtain ⟨cs, h1, h2⟩ := h
 exact ⟨cs, own_set_low h1 (p := ⟨Y, i, none⟩) hY x, h2.setLow hY i x⟩
/-- A desk that toDesk makes: all its rows lie in blocks from lo up to hi, no two of them are one. -/
structure TK (lo hi : Nat) (w : World) (A : Option Addr) (c : Nat) (bs : List Bd) (A2 : Option Addr) (c2 : Nat) (ps : List Pl) : Prop where
 own : OwnB lo w (.slice A bs.length c) bs
 ops : OwnPs lo w (.slice A2 ps.length c2) ps
 dif : DifW lo hi w (.slice A bs.length c) (.slice A2 ps.length c2) ps.length
 hb : ∀ k, (Value.slice A bs.length c).ownBlock = some k → k < hi
 hp : ∀ k, (Value.slice A2 ps.length c2).ownBlock = some k → k < hi

set_option maxHeartbeats 2000000 in
set_option maxRecDepth 100000 in
theorem toDesk_q (n : Int) (bs : List Bd) (ps : List Pl) (A A2 : Option Addr) (b o c b2 o2 c2 B : Nat) (w : World) (hn : bs.length ≤ 2000000) (hn2 : ps.length ≤ 2000000) (hn3 : ∀ x ∈ ps, x.bs.length ≤ 2000000) (hB : B ≤ w.heap.size) (hR : BdsR w B b o A bs) (hP : PlsR w B b2 o2 A2 ps) :
  Calls Tryz.prog 10 #[.agg #[.int .i64 n, .slice A bs.length c, .slice A2 ps.length c2]] w fun e w' => ∃ A1 c1 A3 c3, e = .returned (.agg #[.int .i64 n, .slice A1 bs.length c1, .slice A3 ps.length c3]) ∧ TK w.heap.size w'.heap.size w' A1 c1 bs A3 c3 ps ∧ Below w.heap.size w w' := by
 have hW : Below w.heap.size w (((w.alloc (.cells #[.int .i64 n, .slice A bs.length c, .slice A2 ps.length c2] 27)).alloc (.cells #[.int .i64 0, .slice none 0 0, .slice none 0 0] 37)).alloc (.cells #[.int .i64 0, .slice none 0 0, .slice none 0 0] 37)) := by go_grown
 have hD0 : TD w (w.alloc (.cells #[.int .i64 n, .slice A bs.length c, .slice A2 ps.length c2] 27)) w.heap.size (.int .i64 n) (.slice A bs.length c) (.slice A2 ps.length c2) := td_new rfl (Nat.le_refl _)
 have hD := hD0.below (show Below _ _ (((w.alloc (.cells #[.int .i64 n, .slice A bs.length c, .slice A2 ps.length c2] 27)).alloc (.cells #[.int .i64 0, .slice none 0 0, .slice none 0 0] 37)).alloc (.cells #[.int .i64 0, .slice none 0 0, .slice none 0 0] 37)) by go_grown)
 have hY0 : TD w ((w.alloc (.cells #[.int .i64 n, .slice A bs.length c, .slice A2 ps.length c2] 27)).alloc (.cells #[.int .i64 0, .slice none 0 0, .slice none 0 0] 37)) (w.heap.size + 1) (.int .i64 0) (.slice none 0 0) (.slice none 0 0) := td_new (by simp) (by simp)
 have hY := hY0.below (show Below _ _ (((w.alloc (.cells #[.int .i64 n, .slice A bs.length c, .slice A2 ps.length c2] 27)).alloc (.cells #[.int .i64 0, .slice none 0 0, .slice none 0 0] 37)).alloc (.cells #[.int .i64 0, .slice none 0 0, .slice none 0 0] 37)) by go_grown)
 clear hD0 hY0
 have hX : TD w (((w.alloc (.cells #[.int .i64 n, .slice A bs.length c, .slice A2 ps.length c2] 27)).alloc (.cells #[.int .i64 0, .slice none 0 0, .slice none 0 0] 37)).alloc (.cells #[.int .i64 0, .slice none 0 0, .slice none 0 0] 37)) (w.heap.size + 1 + 1) (.int .i64 0) (.slice none 0 0) (.slice none 0 0) := td_new (by simp) (by simp; omega)
 go_enter Tryz.func10, Tryz.ntmps10
 go_upto_region 2 with fail
 generalize (((w.alloc (.cells #[.int .i64 n, .slice A bs.length c, .slice A2 ps.length c2] 27)).alloc (.cells #[.int .i64 0, .slice none 0 0, .slice none 0 0] 37)).alloc (.cells #[.int .i64 0, .slice none 0 0, .slice none 0 0] 37)) = W at hD hW hY hX ⊢
 have hDX : w.heap.size ≠ w.heap.size + 1 + 1 := by omega
 have hDY : w.heap.size ≠ w.heap.size + 1 := by omega
 have hXY : w.heap.size + 1 ≠ w.heap.size + 1 + 1 := by omega
 generalize w.heap.size + 1 + 1 = X at hX hXY hDX ⊢
 generalize w.heap.size + 1 = Y at hY hXY hDY ⊢
 have p0 := hD.c0
 have p1 := hD.c1
 have x0 := hX.c0
 have x1 := hX.c1
 have xf0 := hX.cf 0
 have xf1 := hX.cf 1
 have hXl := hX.ex
 have hYl := hY.ex
 have hRW := hR.below (hW.mono hB)
 go_upto_region 3 with (go_at_call 39; go_fit (toPlan_q n bs A b o c B W hn (Nat.le_trans hB hW.size) hRW); rintro e w2 ⟨A1, c1, g1, rfl, hr1, own1, hb2⟩; replace hW := bthen hW hb2; replace hD := hD.below hb2; replace hX := hX.below hb2; replace hY := hY.below hb2; clear p0 p1 x0 x1 xf0 xf1; have x0 := hX.c0; have x1 := hX.c1; have xf0 := hX.cf 0; have xf1 := hX.cf 1)
 have own3 : OwnB W.heap.size ((w2.setCell ⟨X, 0, none⟩ (.int .i64 n)).setCell ⟨X, 1, none⟩ (.slice A1 bs.length c1)) (.slice A1 bs.length c1) bs := own_set_low (own_set_low own1 (p := ⟨X, 0, none⟩) hXl _) (p := ⟨X, 1, none⟩) hXl _
 have hX3 := (hX.set0 (.int .i64 n)).set1 (.slice A1 bs.length c1)
 have hg1 := grown_set w2 ⟨X, 0, none⟩ (.int .i64 n)
 have hg2 := grown_set (w2.setCell ⟨X, 0, none⟩ (.int .i64 n)) ⟨X, 1, none⟩ (.slice A1 bs.length c1)
 have hY3 := (hY.grown hg1 (by simpa using hXY)).grown hg2 (by simpa using hXY)
 have hD3 := (hD.grown hg1 (by simpa using hDX)).grown hg2 (by simpa using hDX)
 have hW3 : Below w.heap.size w ((w2.setCell ⟨X, 0, none⟩ (.int .i64 n)).setCell ⟨X, 1, none⟩ (.slice A1 bs.length c1)) := (hW.setCell (p := ⟨X, 0, none⟩) hX.lo _).setCell (p := ⟨X, 1, none⟩) hX.lo _
 have hq1 : ∀ q, (Value.slice A1 bs.length c1).ownBlock = some q → q < ((w2.setCell ⟨X, 0, none⟩ (.int .i64 n)).setCell ⟨X, 1, none⟩ (.slice A1 bs.length c1)).heap.size := fun q hq => (own3.lt q hq).2
 have hWw3 : W.heap.size ≤ ((w2.setCell ⟨X, 0, none⟩ (.int .i64 n)).setCell ⟨X, 1, none⟩ (.slice A1 bs.length c1)).heap.size := by
  rw [World.size_setCell, World.size_setCell]; exact hb2.size
 have hwW : w.heap.size ≤ W.heap.size := Nat.le_trans hY.lo (Nat.le_of_lt hYl)
 generalize (w2.setCell ⟨X, 0, none⟩ (.int .i64 n)).setCell ⟨X, 1, none⟩ (.slice A1 bs.length c1) = W3 at hX3 hY3 hD3 hW3 own3 hq1 hWw3 ⊢
 clear own1 hr1 hg1 hg2 hX hY hD hW hb2 x0 x1 xf0 xf1 hRW
 have p2 := hD3.c2
 have x2 := hX3.c2
 have xf2 := hX3.cf 2
 have hPW := hP.below (hW3.mono hB)
 go_upto_region 4 with (go_at_call 40; go_fit (toPlanS_c (.slice A1 bs.length c1) A2 b2 o2 c2 B ps W3 hn2 hn3 hq1 (Nat.le_trans hB hW3.size) hPW); rintro e w4 ⟨A3, c3, rfl, ops4, dif4, hb4⟩; replace hW3 := bthen hW3 hb4; replace own3 := own_below own3 hb4; replace hX3 := hX3.below hb4; replace hY3 := hY3.below hb4; clear p2 x2 xf2; have x2 := hX3.c2; have xf2 := hX3.cf 2)
 have hX3l : X < W3.heap.size := Nat.lt_of_lt_of_le hXl hWw3
 have hY3l : Y < W3.heap.size := Nat.lt_of_lt_of_le hYl hWw3
 have hX5 := hX3.set2 (.slice A3 ps.length c3)
 have hY5 := hY3.grown (grown_set w4 ⟨X, 2, none⟩ (.slice A3 ps.length c3)) (by simpa using hXY)
 have hW5 : Below w.heap.size w (w4.setCell ⟨X, 2, none⟩ (.slice A3 ps.length c3)) := hW3.setCell (p := ⟨X, 2, none⟩) hX3.lo _
 have own5 : OwnB W.heap.size (w4.setCell ⟨X, 2, none⟩ (.slice A3 ps.length c3)) (.slice A1 bs.length c1) bs := own_set_low own3 (p := ⟨X, 2, none⟩) hXl _
 have ops5 := ops4.setFar hX3l 2 (.slice A3 ps.length c3)
 have dif5 := dif4.setLow hX3l 2 (.slice A3 ps.length c3)
 have hs5 : (w4.setCell ⟨X, 2, none⟩ (.slice A3 ps.length c3)).heap.size = w4.heap.size := World.size_setCell ..
 have hq5 : ∀ k, (Value.slice A3 ps.length c3).ownBlock = some k → k < w4.heap.size := fun k hk => by
  obtain ⟨cs, hrow, -⟩ := ops4
  exact (hrow.lt k hk).2
 have hs45 := hb4.size
 generalize w4.setCell ⟨X, 2, none⟩ (.slice A3 ps.length c3) = W5 at hX5 hY5 hW5 own5 ops5 dif5 hs5 ⊢
 clear x2 xf2 hX3 hY3 hW3 own3 ops4 dif4 hb4 hD3 hPW
 have x0 := hX5.c0
 have x1 := hX5.c1
 have x2 := hX5.c2
 have y0 := hY5.c0
 have y1 := hY5.c1
 have y2 := hY5.c2
 have yf0 := hY5.cf 0
 have yf1 := hY5.cf 1
 have yf2 := hY5.cf 2
 have hs6 := hide hs5
 clear hs5
 go_wp2_with fail
 have hY6 := ((hY5.set0 (.int .i64 n)).set1 (.slice A1 bs.length c1)).set2 (.slice A3 ps.length c3)
 have r0 := hY6.c0
 have r1 := hY6.c1
 have r2 := hY6.c2
 have ho : OwnB W.heap.size _ (.slice A1 bs.length c1) bs := own_set_low (own_set_low (own_set_low own5 (p := ⟨Y, 0, none⟩) hYl (.int .i64 n)) (p := ⟨Y, 1, none⟩) hYl (.slice A1 bs.length c1)) (p := ⟨Y, 2, none⟩) hYl (.slice A3 ps.length c3)
 have hops := ((ops5.setFar hY3l 0 (.int .i64 n)).setFar hY3l 1 (.slice A1 bs.length c1)).setFar hY3l 2 (.slice A3 ps.length c3)
 have hdif := ((dif5.setLow hY3l 0 (.int .i64 n)).setLow hY3l 1 (.slice A1 bs.length c1)).setLow hY3l 2 (.slice A3 ps.length c3)
 have hb7 : Below w.heap.size w _ := ((hW5.setCell (p := ⟨Y, 0, none⟩) hY5.lo (.int .i64 n)).setCell (p := ⟨Y, 1, none⟩) hY5.lo (.slice A1 bs.length c1)).setCell (p := ⟨Y, 2, none⟩) hY5.lo (.slice A3 ps.length c3)
 refine bodyPost_ret (v := .agg #[.int .i64 n, .slice A1 bs.length c1, .slice A3 ps.length c3]) (by simp [results, Tryz.results10, go_sem, r0, r1, r2]) rfl ?_
 refine ⟨A1, c1, A3, c3, rfl, ⟨own_less ho hwW, hops.less (Nat.le_trans hwW hWw3), ?_, fun k hk => ?_, fun k hk => ?_⟩, hb7⟩
 ·rw [World.size_setCell, World.size_setCell, World.size_setCell, hs6.out]; exact hdif.less (Nat.le_trans hwW hWw3)
 ·rw [World.size_setCell, World.size_setCell, World.size_setCell, hs6.out]; have := hq1 k hk; omega
 ·rw [World.size_setCell, World.size_setCell, World.size_setCell, hs6.out]; exact hq5 k hk
end Go.Proofs.YtmnajkhoacogjaaGreatDoor
