/-
 What the exact laws share: plans that are made, compared, marked and held.
-/
import Derived.Test.YtmnajkhoacogjaaGreatDoorL11a
import Derived.Test.YtmnajkhoacogjaaGreatDoorL2
namespace Go.Proofs.YtmnajkhoacogjaaGreatDoor
set_option linter.unusedVariables false
set_option linter.unusedSimpArgs false
open Go.RowKit Pp

theorem szBoundS_c (l : Int) (A : Option Addr) (n c : Nat) (w : World) (hl : 0 ≤ l ∧ l ≤ 1048576) (hn : n ≤ 9223372036854775807) :
  Calls Tryz.prog 64 #[.slice A n c, .int .i64 l] w fun e w' => e = .returned (.int .i64 (if l - n < 0 then -1 else l - n)) ∧ w = w' := by
 obtain ⟨hl0, hl1⟩ := hl
 by_cases h : l - (n : Int) < 0
 ·rw [if_pos h]
  go_enter Tryz.func64, Tryz.ntmps64
  go_wp2_with fail
  go_ret
  exact ⟨rfl, rfl⟩
 ·rw [if_neg h]
  go_enter Tryz.func64, Tryz.ntmps64
  go_wp2_with fail
  go_ret
  exact ⟨rfl, rfl⟩

theorem szPlan_c (l m : Int) (A : Option Addr) (n c : Nat) (w : World) (hl : 0 ≤ l ∧ l ≤ 1048576) (hn : n ≤ 9223372036854775807) :
  Calls Tryz.prog 32 #[.agg #[.int .i64 m, .slice A n c], .int .i64 l] w fun e w' => e = .returned (.int .i64 (if l - n < 0 then -1 else l - n)) ∧ Below w.heap.size w w' := by
 by_cases h : l - (n : Int) < 0
 ·rw [if_pos h]
  have H : Hid ((if l - (n : Int) < 0 then -1 else l - (n : Int)) = -1) := if_pos h
  clear h
  go_enter Tryz.func32, Tryz.ntmps32
  go_wp2_with (go_at_call 64; go_fit (szBoundS_c l A n c _ hl hn); rintro e w2 ⟨rfl, rfl⟩; rw [H.out])
  go_ret
  exact ⟨rfl, by go_grown⟩
 ·rw [if_neg h]
  obtain ⟨r, hr⟩ : ∃ r, l - (n : Int) = r := ⟨_, rfl⟩
  have H : Hid ((if l - (n : Int) < 0 then -1 else l - (n : Int)) = r) := by rw [← hr]; exact if_neg h
  rw [hr] at h ⊢
  clear hr
  go_enter Tryz.func32, Tryz.ntmps32
  go_wp2_with (go_at_call 64; go_fit (szBoundS_c l A n c _ hl hn); rintro e w2 ⟨rfl, rfl⟩; rw [H.out])
  go_ret
  exact ⟨rfl, by go_grown⟩

set_option maxHeartbeats 1000000 in
set_option maxRecDepth 100000 in
theorem toBound_c (x : Bd) (w : World) : Calls Tryz.prog 101 #[.agg #[.int .i64 x.f, .int .i64 x.t, .int .i64 x.m]] w fun e w' => e = .returned (.agg #[.int .i64 x.f, .int .i64 x.t, .int .i64 x.m]) ∧ Below w.heap.size w w' := by
 go_enter Tryz.func101, Tryz.ntmps101
 go_wp2_with fail
 refine bodyPost_ret (v := .agg #[.int .i64 x.f, .int .i64 x.t, .int .i64 x.m]) (by simp [results, Tryz.results101, go_sem]) rfl ?_
 exact ⟨rfl, by go_grown⟩

theorem gr_trans {w w1 w2 : World} {row : Option Nat} (h : w.grownBy w1 row) (h2 : w1.grownBy w2 row) : w.grownBy w2 row :=
 ⟨h2.os.trans h.os, h2.tape.trans h.tape, h2.output.trans h.output, Nat.le_trans h.size h2.size, fun k hk hne => (h2.block k (Nat.lt_of_lt_of_le hk h.size) hne).trans (h.block k hk hne)⟩
def rowF (bs : List Bd) (k : Nat) : Nat → Value := fun j => if j < k * 3 then (bdCs bs)[j]?.getD default else .int .i64 0
theorem rowF_step {bs : List Bd} {k : Nat} {x : Bd} (hx : bs[k]? = some x) (j : Nat) :
  (if j = k * 3 + 2 then Value.int .i64 x.m else if j = k * 3 + 1 then .int .i64 x.t else if j = k * 3 then .int .i64 x.f else rowF bs k j) = rowF bs (k + 1) j := by
 obtain ⟨g0, g1, g2⟩ := bdCs_get bs k x hx
 unfold rowF
 by_cases h2 : j = k * 3 + 2
 ·subst h2; rw [if_pos rfl, if_pos (by omega), g2]; rfl
 ·rw [if_neg h2]
  by_cases h1 : j = k * 3 + 1
  ·subst h1; rw [if_pos rfl, if_pos (by omega), g1]; rfl
  ·rw [if_neg h1]
   by_cases h0 : j = k * 3
   ·subst h0; rw [if_pos rfl, if_pos (by omega), g0]; rfl
   ·rw [if_neg h0]
    by_cases h : j < k * 3
    ·rw [if_pos h, if_pos (by omega)]
    ·rw [if_neg h, if_neg (by omega)]

set_option maxHeartbeats 2000000 in
set_option maxRecDepth 100000 in
theorem toBoundS_c (A : Option Addr) (b o c B : Nat) (bs : List Bd) (w : World) (hl : bs.length ≤ 2000000) (hB : B ≤ w.heap.size) (hR : BdsR w B b o A bs) :
  Calls Tryz.prog 73 #[.slice A bs.length c] w fun e w' => ∃ A1 c1, e = .returned (.slice A1 bs.length c1) ∧ OwnB w.heap.size w' (.slice A1 bs.length c1) bs ∧ Below w.heap.size w w' := by
 obtain ⟨i0, hi0, hz0, hz1, hz2⟩ := info_parts infoB
 have hmk := fun W => run_make (P := Tryz.prog) W 32 97 i0 (.agg #[.int .i64 0, .int .i64 0, .int .i64 0]) Tryz.underlying32 hi0 hz0 .i64 .i64 bs.length bs.length (by omega) (Int.le_refl _) (by rw [hz2]; omega) (by omega)
 simp only [Int.toNat_natCast, hz1] at hmk
 have hrow : (w.alloc (.cells (madeCells #[.int .i64 0, .int .i64 0, .int .i64 0] (bs.length * 3)) 97)).rowIs w.heap.size 97 (bs.length * 3) (rowF bs 0) := by
  have h := World.rowIs_alloc w (madeCells #[.int .i64 0, .int .i64 0, .int .i64 0] (bs.length * 3)) 97 (rowF bs 0) (fun i hi => by
   rw [size_madeCells] at hi
   have h3 : i % 3 = 0 ∨ i % 3 = 1 ∨ i % 3 = 2 := by omega
   unfold rowF
   rw [if_neg (by omega)]
   simp only [madeCells, Array.getElem?_map]
   rw [Array.getElem?_eq_getElem (by simpa using hi)]
   simp
   rcases h3 with h | h | h <;> rw [h] <;> rfl)
  rwa [size_madeCells] at h
 go_enter Tryz.func73, Tryz.ntmps73
 go_wp2_with fail
 have hW0 : Below w.heap.size w (w.alloc (.cells (madeCells #[.int .i64 0, .int .i64 0, .int .i64 0] (bs.length * 3)) 97)) := by go_grown
 generalize w.alloc (.cells (madeCells #[.int .i64 0, .int .i64 0, .int .i64 0] (bs.length * 3)) 97) = W at hrow hW0 ⊢
 clear hmk
 go_loopg [4] bs.length (fun gh s wr => ∃ k : Nat, k ≤ bs.length ∧ gh = bs.length - k ∧ s = .int .i64 k ∧ Below w.heap.size w wr ∧ wr.rowIs w.heap.size 97 (bs.length * 3) (rowF bs k))
 case atStart => exact ⟨0, Nat.zero_le _, rfl, rfl, hW0, hrow⟩
 case round =>
  clear hW0 hrow
  obtain ⟨k, hk, rfl, rfl, hW, hrow⟩ := hrel
  by_cases hlt : k < bs.length
  ·have hlt' : (k : Int) < (bs.length : Int) := by omega
   obtain rfl := hR.addr (by omega)
   have hx := List.getElem?_eq_getElem hlt
   have hR2 := hR.below (hW.mono hB)
   have d0 := hR2.c0 k _ hx
   have d1 := hR2.c1 k _ hx
   have d2 := hR2.c2 k _ hx
   have hst := rowF_step hx
   generalize bs[k] = x at d0 d1 d2 hst
   have hst' := hide hst
   clear hx hR2 hst
   have hHw := hrow.lt
   go_wp2_with (go_at_call 101; go_fit (toBound_c x _); rintro e w2 ⟨rfl, hb2⟩; have hrow2 := rowIs_below hrow hb2 hHw; have hW2 : Below w.heap.size w w2 := bthen hW hb2; have t0 := hrow2.cell (i := k * 3) (by omega); have t1 := hrow2.cell (i := k * 3 + 1) (by omega); have t2 := hrow2.cell (i := k * 3 + 2) (by omega); have tf0 := hrow2.frozen (k * 3); have tf1 := hrow2.frozen (k * 3 + 1); have tf2 := hrow2.frozen (k * 3 + 2))
   go_roundg (bs.length - (k + 1))
   case measure => go_light; omega
   case rel => go_light; exact ⟨k + 1, by omega, rfl, by go_num, ((hW2.setCell (Nat.le_refl _) _).setCell (Nat.le_refl _) _).setCell (Nat.le_refl _) _, (((hrow2.set (k * 3) _).set (k * 3 + 1) _).set (k * 3 + 2) _).congr (fun j _ => hst'.out j)⟩
  ·obtain rfl : k = bs.length := by omega
   go_wp2_with fail
   go_ret
   refine ⟨_, _, rfl, row_own hrow (fun j hj => ?_) (bdCs_length bs) (Nat.le_refl _) (Nat.le_refl _) (by unfold maxLen; omega), hW⟩
   unfold rowF
   rw [if_pos hj, List.getElem?_eq_getElem (by rw [bdCs_length]; exact hj)]; rfl

theorem toBoundS_q (A : Option Addr) (b o c B : Nat) (bs : List Bd) (w : World) (hl : bs.length ≤ 2000000) (hB : B ≤ w.heap.size) (hR : BdsR w B b o A bs) :
  Calls Tryz.prog 73 #[.slice A bs.length c] w fun e w' => ∃ A1 c1 g1, e = .returned (.slice A1 bs.length c1) ∧ BdsR w' w'.heap.size g1 0 A1 bs ∧ OwnB w.heap.size w' (.slice A1 bs.length c1) bs ∧ Below w.heap.size w w' := by
 refine (toBoundS_c A b o c B bs w hl hB hR).mono ?_
 rintro e w' ⟨A1, c1, rfl, ho, hb⟩
 obtain ⟨g, hr⟩ := OwnB.readsA ho
 exact ⟨A1, c1, g, rfl, hr, ho, hb⟩

set_option maxHeartbeats 2000000 in
set_option maxRecDepth 100000 in
theorem toPlan_q (n : Int) (bs : List Bd) (A : Option Addr) (b o c B : Nat) (w : World) (hl : bs.length ≤ 2000000) (hB : B ≤ w.heap.size) (hR : BdsR w B b o A bs) :
  Calls Tryz.prog 39 #[.agg #[.int .i64 n, .slice A bs.length c]] w fun e w' => ∃ A1 c1 g1, e = .returned (.agg #[.int .i64 n, .slice A1 bs.length c1]) ∧ BdsR w' w'.heap.size g1 0 A1 bs ∧ OwnB w.heap.size w' (.slice A1 bs.length c1) bs ∧ Below w.heap.size w w' := by
 have hP := ((po_new (t := 24) (n := n) (c := c) (Below.refl w.heap.size w) (hR.more hB)).alloc (.cells #[.int .i64 0, .slice none 0 0] 34)).alloc (.cells #[.int .i64 0, .slice none 0 0] 34)
 have hY : ZB w (((w.alloc (.cells #[.int .i64 n, .slice A bs.length c] 24)).alloc (.cells #[.int .i64 0, .slice none 0 0] 34)).alloc (.cells #[.int .i64 0, .slice none 0 0] 34)) (w.heap.size + 1) := by
  have h : ZB w ((w.alloc (.cells #[.int .i64 n, .slice A bs.length c] 24)).alloc (.cells #[.int .i64 0, .slice none 0 0] 34)) (w.alloc (.cells #[.int .i64 n, .slice A bs.length c] 24)).heap.size := zb_new (by simp)
  simp only [World.size_alloc] at h
  exact h.below (by go_grown)
 have hX : ZB w (((w.alloc (.cells #[.int .i64 n, .slice A bs.length c] 24)).alloc (.cells #[.int .i64 0, .slice none 0 0] 34)).alloc (.cells #[.int .i64 0, .slice none 0 0] 34)) (w.heap.size + 1 + 1) := by
  have h : ZB w (((w.alloc (.cells #[.int .i64 n, .slice A bs.length c] 24)).alloc (.cells #[.int .i64 0, .slice none 0 0] 34)).alloc (.cells #[.int .i64 0, .slice none 0 0] 34)) ((w.alloc (.cells #[.int .i64 n, .slice A bs.length c] 24)).alloc (.cells #[.int .i64 0, .slice none 0 0] 34)).heap.size := zb_new (by simp; omega)
  simp only [World.size_alloc] at h
  exact h
 go_enter Tryz.func39, Tryz.ntmps39
 go_upto_region 2 with fail
 generalize ((w.alloc (.cells #[.int .i64 n, .slice A bs.length c] 24)).alloc (.cells #[.int .i64 0, .slice none 0 0] 34)).alloc (.cells #[.int .i64 0, .slice none 0 0] 34) = W at hP hY hX ⊢
 have hXw : w.heap.size < w.heap.size + 1 + 1 := by omega
 have hXY : w.heap.size + 1 ≠ w.heap.size + 1 + 1 := by omega
 generalize w.heap.size + 1 + 1 = X at hX hXw hXY ⊢
 generalize w.heap.size + 1 = Y at hY hXY ⊢
 have p0 := hP.c0
 have p1 := hP.c1
 have x0 := hX.z0
 have x1 := hX.z1
 have xf0 := hX.zf 0
 have xf1 := hX.zf 1
 have hb1 : Below w.heap.size w (W.setCell ⟨X, 0, none⟩ (.int .i64 n)) := hP.bel.setCell hX.lo _
 have hR1 : BdsR (W.setCell ⟨X, 0, none⟩ (.int .i64 n)) B b o A bs := hR.below (hb1.mono hB)
 have hY1 : ZB w (W.setCell ⟨X, 0, none⟩ (.int .i64 n)) Y := hY.grown (grown_set W ⟨X, 0, none⟩ _) (fun q hq => by cases hq; dsimp only; omega)
 have q1 : (W.setCell ⟨X, 0, none⟩ (.int .i64 n)).cell? ⟨w.heap.size, 1, none⟩ = some (.slice A bs.length c) := (World.cell?_setCell_other (h := fun e => by have := congrArg Addr.block e; dsimp only at this; omega) ..).trans p1
 have u0 : (W.setCell ⟨X, 0, none⟩ (.int .i64 n)).cell? ⟨X, 0, none⟩ = some (.int .i64 n) := World.cell?_setCell_same _ _ _ x0
 have u1 : (W.setCell ⟨X, 0, none⟩ (.int .i64 n)).cell? ⟨X, 1, none⟩ = some (.slice none 0 0) := (World.cell?_setCell_other (h := by simp) ..).trans x1
 have uf1 : (W.setCell ⟨X, 0, none⟩ (.int .i64 n)).frozen? ⟨X, 1, none⟩ = false := by rw [← xf1]; simp
 have hXl : X < (W.setCell ⟨X, 0, none⟩ (.int .i64 n)).heap.size := by simpa using hX.ex
 have hXlo := hX.lo
 go_upto_region 3 with fail
 generalize W.setCell ⟨X, 0, none⟩ (.int .i64 n) = W1 at hb1 hR1 hY1 q1 u0 u1 uf1 hXl ⊢
 clear hP hY hX p0 p1 x0 x1 xf0 xf1
 go_wp2_with (go_at_call 73; go_fit (toBoundS_q A b o c B bs W1 hl (Nat.le_trans hB hb1.size) hR1); rintro e w2 ⟨A1, c1, g1, rfl, hr1, hown, hb2⟩; have hW2 : Below w.heap.size w w2 := bthen hb1 hb2; have v0 := ((bcell hb2).1 X 0 hXl).trans u0; have v1 := ((bcell hb2).1 X 1 hXl).trans u1; have vf1 := ((bcell hb2).2 X 1 hXl).trans uf1; have hY2 := hY1.below hb2; have z0 := hY2.z0; have z1 := hY2.z1; have zf0 := hY2.zf 0; have zf1 := hY2.zf 1)
 have hq : ∀ q, (Value.slice A1 bs.length c1).ownBlock = some q → W1.heap.size ≤ q := fun q h => (hown.lt q h).1
 have hYl := hY1.ex
 have hneX : (Value.slice A1 bs.length c1).ownBlock ≠ some X := fun e => by have := hq _ e; omega
 have hY3 : ZB w (w2.setCell ⟨X, 1, none⟩ (.slice A1 bs.length c1)) Y := hY2.grown (grown_set w2 ⟨X, 1, none⟩ _) (fun q hq => by cases hq; dsimp only; omega)
 obtain ⟨r0, r1, ho, hb7⟩ := hY3.fin (n := n) (hW2.setCell (p := ⟨X, 1, none⟩) hXlo _) (own_set (p := ⟨X, 1, none⟩) (own_less hown hb1.size) hneX _) (fun e => by have := hq _ e; omega)
 refine bodyPost_ret (v := .agg #[.int .i64 n, .slice A1 bs.length c1]) (by simp [results, Tryz.results39, go_sem, r0, r1]) rfl ?_
 obtain ⟨g, hr⟩ := OwnB.readsA ho
 exact ⟨_, _, g, rfl, hr, ho, hb7⟩

set_option maxHeartbeats 1000000 in
set_option maxRecDepth 100000 in
theorem eqBound_yes (x : Bd) (w : World) : Calls Tryz.prog 109 #[.agg #[.int .i64 x.f, .int .i64 x.t, .int .i64 x.m], .agg #[.int .i64 x.f, .int .i64 x.t, .int .i64 x.m]] w fun e w' => e = .returned (.bool true) ∧ Below w.heap.size w w' := by
 have hW : Below w.heap.size w ((w.alloc (.cells #[.int .i64 x.f, .int .i64 x.t, .int .i64 x.m] 97)).alloc (.cells #[.int .i64 x.f, .int .i64 x.t, .int .i64 x.m] 97)) := by go_grown
 go_enter Tryz.func109, Tryz.ntmps109
 go_wp2_with fail
 go_ret
 exact ⟨rfl, hW⟩

set_option maxHeartbeats 4000000 in
set_option maxRecDepth 100000 in
theorem eqBoundS_yes (bs : List Bd) (A A' : Option Addr) (b o c b' o' c' B : Nat) (w : World) (hn : bs.length ≤ 2000000) (hB : B ≤ w.heap.size) (hR : BdsR w B b o A bs) (hR' : BdsR w B b' o' A' bs) :
  Calls Tryz.prog 83 #[.slice A bs.length c, .slice A' bs.length c'] w fun e w' => e = .returned (.bool true) ∧ Below w.heap.size w w' := by
 go_enter Tryz.func83, Tryz.ntmps83
 go_wp2_with fail
 go_loopg [5] bs.length (fun gh i wr => ∃ k : Nat, k ≤ bs.length ∧ gh = bs.length - k ∧ i = .int .i64 k ∧ Below w.heap.size w wr)
 case atStart => exact ⟨0, Nat.zero_le _, rfl, rfl, Below.refl _ _⟩
 case round =>
  obtain ⟨k, hk, rfl, rfl, hW⟩ := hrel
  by_cases hlt : k < bs.length
  ·have hz : (k : Int) < (bs.length : Int) := by omega
   have hz0 : (0 : Int) ≤ (k : Int) := by omega
   obtain rfl := hR.addr (by omega)
   obtain rfl := hR'.addr (by omega)
   have hx := List.getElem?_eq_getElem hlt
   have hRw := hR.below (hW.mono hB)
   have hRw' := hR'.below (hW.mono hB)
   have d0 := hRw.c0 k _ hx
   have d1 := hRw.c1 k _ hx
   have d2 := hRw.c2 k _ hx
   have e0 := hRw'.c0 k _ hx
   have e1 := hRw'.c1 k _ hx
   have e2 := hRw'.c2 k _ hx
   have hb1 : b < wr.heap.size := Nat.lt_of_lt_of_le (hR.lt (by omega)) (Nat.le_trans hB hW.size)
   have hb2 : b' < wr.heap.size := Nat.lt_of_lt_of_le (hR'.lt (by omega)) (Nat.le_trans hB hW.size)
   generalize bs[k] = x at d0 d1 d2 e0 e1 e2
   clear hx hRw hRw'
   go_upto_region 6 with fail
   go_region_held3 (fun w' => w'.cell? ⟨b, o + k * 3, none⟩ = some (.int .i64 x.f) ∧ w'.cell? ⟨b, o + k * 3 + 1, none⟩ = some (.int .i64 x.t) ∧ w'.cell? ⟨b, o + k * 3 + 2, none⟩ = some (.int .i64 x.m) ∧ w'.cell? ⟨b', o' + k * 3, none⟩ = some (.int .i64 x.f) ∧ w'.cell? ⟨b', o' + k * 3 + 1, none⟩ = some (.int .i64 x.t) ∧ w'.cell? ⟨b', o' + k * 3 + 2, none⟩ = some (.int .i64 x.m))
    (first
      | (go_split_ands; (repeat' apply And.intro) <;> first | assumption | exact ((bcell hb5).1 _ _ (by simp only [World.size_drew]; omega)).trans (by assumption))
      | (go_keep; done))
    ((go_at_call 109; go_fit (eqBound_yes x _); rintro e w5 ⟨rfl, hb5⟩; have hW5 : Below w.heap.size w w5 := bthen hW.drew hb5))
   go_wp2_with fail
   go_roundg (bs.length - (k + 1))
   case measure => go_light; omega
   case rel => go_light; exact ⟨k + 1, by omega, rfl, by go_num, hW5⟩
  ·go_wp2_with fail
   go_ret
   exact ⟨rfl, hW⟩

set_option maxHeartbeats 1000000 in
set_option maxRecDepth 100000 in
theorem eqPlan_yes (n : Int) (bs : List Bd) (A A' : Option Addr) (b o c b' o' c' B : Nat) (w : World) (hn : bs.length ≤ 2000000) (hB : B ≤ w.heap.size) (hR : BdsR w B b o A bs) (hR' : BdsR w B b' o' A' bs) :
  Calls Tryz.prog 45 #[.agg #[.int .i64 n, .slice A bs.length c], .agg #[.int .i64 n, .slice A' bs.length c']] w fun e w' => e = .returned (.bool true) ∧ Below w.heap.size w w' := by
 have hW : Below w.heap.size w ((w.alloc (.cells #[.int .i64 n, .slice A bs.length c] 34)).alloc (.cells #[.int .i64 n, .slice A' bs.length c'] 34)) := by go_grown
 go_enter Tryz.func45, Tryz.ntmps45
 go_wp2_with (go_at_call 83; go_fit (eqBoundS_yes bs A A' b o c b' o' c' B _ hn (Nat.le_trans hB hW.size) (hR.below (hW.mono hB)) (hR'.below (hW.mono hB))); rintro e w5 ⟨rfl, hb5⟩)
 go_ret
 exact ⟨rfl, bthen hW hb5⟩

/-- What marks a row of bounds. -/
def marks (k : Int) (n : Nat) : List Bd := (List.range n).map fun (i : Nat) => (⟨k + 3 * (i : Int), k + 3 * (i : Int) + 1, k + 3 * (i : Int) + 2⟩ : Bd)
theorem marks_length (k : Int) (n : Nat) : (marks k n).length = n := by simp [marks]
theorem marks_get (k : Int) (n i : Nat) (h : i < n) : (marks k n)[i]? = some ⟨k + 3 * i, k + 3 * i + 1, k + 3 * i + 2⟩ := by simp [marks, h]
theorem marks_cell (k : Int) (n j : Nat) (h : j < n * 3) : (bdCs (marks k n))[j]? = some (.int .i64 (k + j)) := by
 have hi : j / 3 < n := by omega
 obtain ⟨g0, g1, g2⟩ := bdCs_get _ _ _ (marks_get k n (j / 3) hi)
 have hr : j = j / 3 * 3 ∨ j = j / 3 * 3 + 1 ∨ j = j / 3 * 3 + 2 := by omega
 dsimp only at g0 g1 g2
 rcases hr with e | e | e
 ·rw [← e] at g0; rw [g0]; congr 2; omega
 ·rw [← e] at g1; rw [g1]; congr 2; omega
 ·rw [← e] at g2; rw [g2]; congr 2; omega

set_option maxHeartbeats 4000000 in
set_option maxRecDepth 100000 in
theorem markBoundS_c (k0 : Int) (base : Nat) (A : Option Addr) (c : Nat) (bs : List Bd) (w : World) (hk : 0 ≤ k0 ∧ k0 ≤ 1000000000000) (hn : bs.length ≤ 2000000) (hown : OwnB base w (.slice A bs.length c) bs) (hw : base ≤ w.heap.size) :
  Calls Tryz.prog 84 #[.slice A bs.length c, .int .i64 k0] w fun e w' => e = .returned (.int .i64 (k0 + 3 * bs.length)) ∧ OwnB base w' (.slice A bs.length c) (marks k0 bs.length) ∧ w.grownBy w' (Value.slice A bs.length c).ownBlock := by
 obtain ⟨hk0, hk1⟩ := hk
 rcases Nat.eq_zero_or_pos bs.length with h0 | h0
 ·have e : bs = [] := List.eq_nil_of_length_eq_zero h0
  subst e
  go_enter Tryz.func84, Tryz.ntmps84
  go_wp2_with fail
  go_loopg [1, 5] 0 (fun gh s1 s5 wr => wr = w ∧ s1 = .int .i64 k0 ∧ s5 = .int .i64 0)
  case atStart => exact ⟨rfl, rfl, rfl⟩
  case round =>
   obtain ⟨rfl, rfl, rfl⟩ := hrel
   go_wp2_with fail
   go_ret
   exact ⟨by simp, by simpa [marks] using hown, World.grownBy.refl _ _⟩
 ·obtain ⟨A1, g, c1, hv, h1, h2, _⟩ := own_form hown
  injection hv with e1 _ e3
  subst e1; subst e3
  obtain rfl := h1 h0
  obtain ⟨f, hf, hx, hb, hnc, hcm⟩ := own_row hown
  obtain ⟨n, hn'⟩ : ∃ n, bs.length = n := ⟨_, rfl⟩
  rw [hn'] at hn h0 hnc ⊢
  clear hown h1 h2 hx hn' hw
  go_enter Tryz.func84, Tryz.ntmps84
  go_wp2_with fail
  go_loopg [1, 5] n (fun gh s1 s5 wr => ∃ i : Nat, ∃ v : Int, i ≤ n ∧ gh = n - i ∧ s1 = .int .i64 v ∧ s5 = .int .i64 i ∧ Hid (v = k0 + 3 * i) ∧ w.grownBy wr (some g) ∧ wr.rowIs g 97 (c * 3) (fun j => if j < i * 3 then .int .i64 (k0 + j) else f j))
  case atStart => exact ⟨0, k0, Nat.zero_le _, rfl, rfl, rfl, by simp [Hid], World.grownBy.refl _ _, hf.congr (fun j _ => by rw [if_neg (by omega)])⟩
  case round =>
   clear hf
   obtain ⟨i, v, hi, rfl, rfl, rfl, Hv, hG, hrow⟩ := hrel
   have hv0 : 0 ≤ v ∧ v ≤ 1000010000000 := by have := Hv.out; omega
   obtain ⟨hv1, hv2⟩ := hv0
   by_cases hlt : i < n
   ·have hlt' : (i : Int) < (n : Int) := by omega
    have t0 := hrow.cell (i := i * 3) (by omega)
    have t1 := hrow.cell (i := i * 3 + 1) (by omega)
    have t2 := hrow.cell (i := i * 3 + 2) (by omega)
    have tf0 := hrow.frozen (i * 3)
    have tf1 := hrow.frozen (i * 3 + 1)
    have tf2 := hrow.frozen (i * 3 + 2)
    have hstep := ((hrow.set (i * 3) (.int .i64 v)).set (i * 3 + 1) (.int .i64 (v + 1))).set (i * 3 + 2) (.int .i64 (v + 1 + 1))
    have hG3 : w.grownBy (((wr.setCell ⟨g, i * 3, none⟩ (.int .i64 v)).setCell ⟨g, i * 3 + 1, none⟩ (.int .i64 (v + 1))).setCell ⟨g, i * 3 + 2, none⟩ (.int .i64 (v + 1 + 1))) (some g) := grown_cells [.int .i64 v, .int .i64 (v + 1), .int .i64 (v + 1 + 1)] (i * 3) wr hG
    have HS := hide hstep
    clear hstep
    go_wp2_with fail
    go_roundg (n - (i + 1))
    case measure => go_light; omega
    case rel =>
     go_light
     refine ⟨i + 1, _, by omega, rfl, rfl, by go_num, ?_, hG3, HS.out.congr (fun j _ => ?_)⟩
     ·have := Hv.out; unfold Hid; omega
     ·have hvv := Hv.out
      by_cases e2 : j = i * 3 + 2
      ·subst e2; rw [if_pos rfl, if_pos (by omega)]; congr 1; omega
      ·rw [if_neg e2]
       by_cases e1 : j = i * 3 + 1
       ·subst e1; rw [if_pos rfl, if_pos (by omega)]; congr 1; omega
       ·rw [if_neg e1]
        by_cases e0 : j = i * 3
        ·subst e0; rw [if_pos rfl, if_pos (by omega)]; congr 1; omega
        ·rw [if_neg e0]
         by_cases h : j < i * 3
         ·rw [if_pos h, if_pos (by omega)]
         ·rw [if_neg h, if_neg (by omega)]
   ·obtain rfl : i = n := by omega
    go_wp2_with fail
    go_ret
    have hm := marks_length k0 i
    refine ⟨by rw [Hv.out]; rfl, ?_, hG⟩
    have h := row_own (n := i) (base := base) (xs := bdCs (marks k0 i)) hrow (fun j hj => by rw [marks_cell k0 i j hj, if_pos hj]) (by rw [bdCs_length, hm]) hb hnc hcm
    unfold OwnB
    rw [hm]
    exact h

set_option maxHeartbeats 4000000 in
set_option maxRecDepth 100000 in
theorem heldBoundS_c (k0 : Int) (A : Option Addr) (b o c n B : Nat) (w : World) (hk : 0 ≤ k0 ∧ k0 ≤ 1000000000000) (hn : n ≤ 2000000) (hR : BdsR w B b o A (marks k0 n)) :
  Calls Tryz.prog 85 #[.slice A n c, .int .i64 k0] w fun e w' => e = .returned (.int .i64 (k0 + 3 * n)) ∧ w = w' := by
 obtain ⟨hk0, hk1⟩ := hk
 have hm := marks_length k0 n
 go_enter Tryz.func85, Tryz.ntmps85
 go_wp2_with fail
 go_loopg [1, 5] n (fun gh s1 s5 wr => wr = w ∧ ∃ i : Nat, ∃ v : Int, i ≤ n ∧ gh = n - i ∧ s1 = .int .i64 v ∧ s5 = .int .i64 i ∧ Hid (v = k0 + 3 * i))
 case atStart => exact ⟨rfl, 0, k0, Nat.zero_le _, rfl, rfl, rfl, by simp [Hid]⟩
 case round =>
  obtain ⟨rfl, i, v, hi, rfl, rfl, rfl, Hv⟩ := hrel
  have hv0 : 0 ≤ v ∧ v ≤ 1000010000000 := by have := Hv.out; omega
  obtain ⟨hv1, hv2⟩ := hv0
  by_cases hlt : i < n
  ·have hlt' : (i : Int) < (n : Int) := by omega
   obtain rfl := hR.addr (by omega)
   have hx := marks_get k0 n i hlt
   have d0 := hR.c0 i _ hx
   have d1 := hR.c1 i _ hx
   have d2 := hR.c2 i _ hx
   rw [← Hv.out] at d0 d1 d2
   dsimp only at d0 d1 d2
   rw [show v + 2 = v + 1 + 1 by omega] at d2
   clear hx hm
   go_wp2_with fail
   go_roundg (n - (i + 1))
   case measure => go_light; omega
   case rel =>
    go_light
    refine ⟨rfl, i + 1, _, by omega, rfl, rfl, by go_num, ?_⟩
    have := Hv.out; unfold Hid; omega
  ·obtain rfl : i = n := by omega
   go_wp2_with fail
   go_ret
   exact ⟨by rw [Hv.out]; rfl, rfl⟩

set_option maxHeartbeats 1000000 in
set_option maxRecDepth 100000 in
theorem markPlan_c (n k0 : Int) (base : Nat) (A : Option Addr) (c : Nat) (bs : List Bd) (w : World) (hk : 0 ≤ k0 ∧ k0 ≤ 1000000000000) (hn : bs.length ≤ 2000000) (hown : OwnB base w (.slice A bs.length c) bs) (hw : base ≤ w.heap.size) :
  Calls Tryz.prog 47 #[.agg #[.int .i64 n, .slice A bs.length c], .int .i64 k0] w fun e w' => e = .returned (.int .i64 (k0 + 3 * bs.length)) ∧ OwnB base w' (.slice A bs.length c) (marks k0 bs.length) ∧ w.grownBy w' (Value.slice A bs.length c).ownBlock := by
 have hown2 : OwnB base (w.alloc (.cells #[.int .i64 n, .slice A bs.length c] 34)) (.slice A bs.length c) bs := hown.alloc _
 have hG1 : w.grownBy (w.alloc (.cells #[.int .i64 n, .slice A bs.length c] 34)) (Value.slice A bs.length c).ownBlock := World.grownBy_alloc w _ _
 have hw2 : base ≤ (w.alloc (.cells #[.int .i64 n, .slice A bs.length c] 34)).heap.size := by simp; omega
 go_enter Tryz.func47, Tryz.ntmps47
 go_wp2_with (go_at_call 84; go_fit (markBoundS_c k0 base A c bs _ hk hn hown2 hw2); rintro e w2 ⟨rfl, ho, hG⟩)
 go_ret
 exact ⟨rfl, ho, gr_trans hG1 hG⟩

set_option maxHeartbeats 1000000 in
set_option maxRecDepth 100000 in
theorem heldPlan_c (m k0 : Int) (A : Option Addr) (b o c n B : Nat) (w : World) (hk : 0 ≤ k0 ∧ k0 ≤ 1000000000000) (hn : n ≤ 2000000) (hB : B ≤ w.heap.size) (hR : BdsR w B b o A (marks k0 n)) :
  Calls Tryz.prog 49 #[.agg #[.int .i64 m, .slice A n c], .int .i64 k0] w fun e w' => e = .returned (.int .i64 (k0 + 3 * n)) ∧ Below w.heap.size w w' := by
 have hW : Below w.heap.size w (w.alloc (.cells #[.int .i64 m, .slice A n c] 34)) := by go_grown
 have h0 : ¬ k0 + 3 * (n : Int) < 0 := by omega
 go_enter Tryz.func49, Tryz.ntmps49
 go_wp2_with (go_at_call 85; go_fit (heldBoundS_c k0 A b o c n B _ hk hn (hR.below (hW.mono hB))); rintro e w2 ⟨rfl, rfl⟩)
 go_ret
 exact ⟨rfl, hW⟩

/-- A plan in a box, that is read. -/
structure RP (W : World) (X b o : Nat) (n : Int) (A : Option Addr) (c : Nat) (bs : List Bd) : Prop where
 ex : X < W.heap.size
 c0 : W.cell? ⟨X, 0, none⟩ = some (.int .i64 n)
 c1 : W.cell? ⟨X, 1, none⟩ = some (.slice A bs.length c)
 rd : BdsR W W.heap.size b o A bs
theorem BdsR.grown {W W' : World} {B b o : Nat} {A : Option Addr} {bs : List Bd} {row : Option Nat} (h : BdsR W B b o A bs) (hg : W.grownBy W' row) (hb : 0 < bs.length → some b ≠ row) : BdsR W' B b o A bs := by
 have hl : ∀ {j : Nat} {x : Bd}, bs[j]? = some x → some b ≠ row := fun {j x} hx => hb (by have := (List.getElem?_eq_some_iff.1 hx).1; omega)
 exact ⟨h.addr, h.lt, fun j x hx => hg.cell (h.c0 j x hx) (hl hx), fun j x hx => hg.cell (h.c1 j x hx) (hl hx), fun j x hx => hg.cell (h.c2 j x hx) (hl hx)⟩
theorem RP.grown {W W' : World} {X b o : Nat} {n : Int} {A : Option Addr} {c : Nat} {bs : List Bd} {row : Option Nat} (h : RP W X b o n A c bs) (hg : W.grownBy W' row) (hX : some X ≠ row) (hb : 0 < bs.length → some b ≠ row) : RP W' X b o n A c bs :=
 ⟨Nat.lt_of_lt_of_le h.ex hg.size, hg.cell h.c0 hX, hg.cell h.c1 hX, (h.rd.grown hg hb).more hg.size⟩
theorem RP.below {W W' : World} {X b o : Nat} {n : Int} {A : Option Addr} {c : Nat} {bs : List Bd} (h : RP W X b o n A c bs) (hb : Below W.heap.size W W') : RP W' X b o n A c bs :=
 h.grown (bel_grown hb) (by simp) (by simp)
theorem RP.alloc {W : World} {X b o : Nat} {n : Int} {A : Option Addr} {c : Nat} {bs : List Bd} (h : RP W X b o n A c bs) (x : Obj) : RP (W.alloc x) X b o n A c bs := h.below (by go_grown)
theorem RP.drew {W : World} {X b o : Nat} {n : Int} {A : Option Addr} {c : Nat} {bs : List Bd} (h : RP W X b o n A c bs) : RP W.drew X b o n A c bs := h.below (by go_grown)
end Go.Proofs.YtmnajkhoacogjaaGreatDoor
