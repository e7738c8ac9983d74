/-
 The draws of the reference: a plan that often does not fit.
-/
import Derived.Test.YtmnajkhoacogjaaGreatDoorD3
import Derived.Test.YtmnajkhoacogjaaGreatDoorS6
namespace Go.Proofs.YtmnajkhoacogjaaGreatDoor
set_option linter.unusedVariables false
set_option linter.unusedSimpArgs false
open Go.RowKit Pp

/-- All bounds of a row, by their places. -/
def AllB (w : World) (b : Nat) (bs : List Bd) : Prop := ∀ j, j < bs.length → w.cell? ⟨b, j * 3, none⟩ = some (.int .i64 (bs.getD j ⟨0, 0, 0⟩).f) ∧ w.cell? ⟨b, j * 3 + 1, none⟩ = some (.int .i64 (bs.getD j ⟨0, 0, 0⟩).t) ∧ w.cell? ⟨b, j * 3 + 2, none⟩ = some (.int .i64 (bs.getD j ⟨0, 0, 0⟩).m)
theorem BdsR.allB {w : World} {B b : Nat} {A : Option Addr} {bs : List Bd} (h : BdsR w B b 0 A bs) : AllB w b bs := fun j hj => by
 have e : bs[j]? = some (bs.getD j ⟨0, 0, 0⟩) := by rw [List.getD_eq_getElem?_getD, List.getElem?_eq_getElem hj]; rfl
 have h0 := h.c0 j _ e
 have h1 := h.c1 j _ e
 have h2 := h.c2 j _ e
 rw [Nat.zero_add] at h0 h1 h2
 exact ⟨h0, h1, h2⟩

theorem three_cells {w : World} {g : Nat} {a b c x y z : Value} (h0 : w.cell? ⟨g, 0, none⟩ = some x) (h1 : w.cell? ⟨g, 1, none⟩ = some y) (h2 : w.cell? ⟨g, 2, none⟩ = some z) :
  (((w.setCell ⟨g, 0, none⟩ a).setCell ⟨g, 1, none⟩ b).setCell ⟨g, 2, none⟩ c).cell? ⟨g, 0, none⟩ = some a ∧ (((w.setCell ⟨g, 0, none⟩ a).setCell ⟨g, 1, none⟩ b).setCell ⟨g, 2, none⟩ c).cell? ⟨g, 1, none⟩ = some b ∧ (((w.setCell ⟨g, 0, none⟩ a).setCell ⟨g, 1, none⟩ b).setCell ⟨g, 2, none⟩ c).cell? ⟨g, 2, none⟩ = some c := by
 refine ⟨?_, ?_, ?_⟩
 ·rw [set_ne (by simp), set_ne (by simp)]; exact World.cell?_setCell_same _ _ _ h0
 ·rw [set_ne (by simp)]; exact World.cell?_setCell_same (u := y) _ _ _ ((set_ne (by simp)).trans h1)
 ·exact World.cell?_setCell_same (u := z) _ _ _ ((set_ne (by simp)).trans ((set_ne (by simp)).trans h2))

--BEGIN 1
set_option maxHeartbeats 4000000 in
set_option maxRecDepth 100000 in
theorem tight_c (g : Nat) (K m : Int) (w : World) (hK : 0 ≤ K ∧ K ≤ 10000000) (hm : 0 ≤ m ∧ m ≤ 100) (hR : RdO w g K) :
  Calls Tryz.prog 87 #[.pointer (some ⟨g, 0, none⟩), .int .i64 m] w fun e w' =>
   ∃ n A c bs, e = .returned (.agg #[.int .i64 n, .slice A bs.length c]) ∧ (0 ≤ n ∧ n ≤ 7) ∧ bs.length ≤ 16 ∧ (∀ x ∈ bs, Sm x) ∧ OwnB w.heap.size w' (.slice A bs.length c) bs ∧ RdO w' g (K + 200) ∧ w.grownBy w' (some g) := by
 obtain ⟨hK0, hK1⟩ := hK
 obtain ⟨hm0, hm1⟩ := hm
 have hg := hR.lt
 go_enter Tryz.func87, Tryz.ntmps87
 go_upto_region 2 with (go_at_call 110; go_fit (plan_c g K m _ ⟨hK0, by omega⟩ ⟨hm0, hm1⟩ (hR.alloc _)); rintro e w1 ⟨n, A, c, bs, rfl, ⟨hn0, hn7⟩, hlen, hsm, hown, hR1, G1⟩)
 have hJ := js_new (n := n) (t := 34) G1 hg hR1 hown
 generalize w1.alloc (.cells #[.int .i64 n, .slice A bs.length c] 34) = wa at hJ ⊢
 generalize w1.heap.size = P at hJ ⊢
 clear hown hR1 G1 hR
 go_cut [24] (fun s wx => ((s = .bool true ∧ planOk ⟨n, bs⟩ = true ∧ 0 < bs.length) ∨ s = .bool false) ∧ JS w wx g P (K + 101) n A c bs)
 case first =>
  cases hpo : planOk ⟨n, bs⟩
  ·have Hpo := hide hpo
   clear hpo
   go_wp2_with (first
    | (go_at_call 88; go_fit (pick_js _ _ hJ (by omega) (by omega)); rintro e w6 ⟨v, rfl, c1, c2, _, hJ2, _, _⟩; have c2' := c2 (by omega); have q0 := hJ2.c0; have q1 := hJ2.c1; obtain ⟨b, hrd⟩ := hJ2.reads)
    | (go_at_call 36; go_fit (sPlanOk_c ⟨n, bs⟩ A b 0 c _ _ (by dsimp only; omega) (Nat.le_refl _) hrd); rintro e w7 ⟨rfl, hb⟩; rw [Hpo.out]; have hJ3 := hJ2.below hb))
   all_goals go_meet
   all_goals (
    case rel => exact ⟨.inr rfl, by first | exact hJ3.more (by omega) | exact hJ2.more (by omega)⟩)
  ·have Hpo := hide hpo
   clear hpo
   by_cases hl0 : 0 < bs.length
   ·have hl0' : (0 : Int) < (bs.length : Int) := by omega
    go_wp2_with (first
     | (go_at_call 88; go_fit (pick_js _ _ hJ (by omega) (by omega)); rintro e w6 ⟨v, rfl, c1, c2, _, hJ2, _, _⟩; have c2' := c2 (by omega); have q0 := hJ2.c0; have q1 := hJ2.c1; obtain ⟨b, hrd⟩ := hJ2.reads)
     | (go_at_call 36; go_fit (sPlanOk_c ⟨n, bs⟩ A b 0 c _ _ (by dsimp only; omega) (Nat.le_refl _) hrd); rintro e w7 ⟨rfl, hb⟩; rw [Hpo.out]; have hJ3 := hJ2.below hb; have r1 := hJ3.c1))
    all_goals go_meet
    all_goals (
     case rel => exact ⟨by first | exact .inr rfl | exact .inl ⟨rfl, Hpo.out, hl0⟩, by first | exact hJ3.more (by omega) | exact hJ2.more (by omega)⟩)
   ·have hl0' : ¬ (0 : Int) < (bs.length : Int) := by omega
    go_wp2_with (first
     | (go_at_call 88; go_fit (pick_js _ _ hJ (by omega) (by omega)); rintro e w6 ⟨v, rfl, c1, c2, _, hJ2, _, _⟩; have c2' := c2 (by omega); have q0 := hJ2.c0; have q1 := hJ2.c1; obtain ⟨b, hrd⟩ := hJ2.reads)
     | (go_at_call 36; go_fit (sPlanOk_c ⟨n, bs⟩ A b 0 c _ _ (by dsimp only; omega) (Nat.le_refl _) hrd); rintro e w7 ⟨rfl, hb⟩; rw [Hpo.out]; have hJ3 := hJ2.below hb; have r1 := hJ3.c1))
    all_goals go_meet
    all_goals (
     case rel => exact ⟨by exact .inr rfl, by first | exact hJ3.more (by omega) | exact hJ2.more (by omega)⟩)
 case rest =>
  clear hJ
  obtain ⟨hs, hJ⟩ := hcut
  rcases hs with ⟨rfl, hpo, hl0⟩ | rfl
  ·have hsm' := sm_ok hpo
   obtain ⟨_, hl16, hn1, hn6⟩ := hsm'
   go_upto_region 3 with fail
   have q0 := hJ.c0
   have q1 := hJ.c1
   have hPc := hJ.P1
   obtain ⟨b, hrd⟩ := hJ.reads
   obtain rfl := hrd.addr hl0
   have hbw : b < wc.heap.size := hrd.lt hl0
   have hall := hrd.allB
   have Hpo := hide hpo
   have Hall := hide hall
   clear hall hpo
   go_cut [6] (fun s wx => ∃ X, ∃ x : Bd, s = .pointer (some ⟨X, 0, none⟩) ∧ (-99 ≤ x.m ∧ x.m ≤ 99) ∧ JS w wx g P (K + 102) n (some ⟨b, 0, none⟩) c bs ∧ P < X ∧ X < wx.heap.size ∧ wx.cell? ⟨X, 0, none⟩ = some (.int .i64 x.f) ∧ wx.cell? ⟨X, 1, none⟩ = some (.int .i64 x.t) ∧ wx.cell? ⟨X, 2, none⟩ = some (.int .i64 x.m))
   case first =>
    skip
--BEGIN 2
    have hg0 := hJ.lt
    have hP0 := hJ.P0
    have hnb : (Value.slice (some ⟨b, 0, none⟩) bs.length c).ownBlock = some b := rfl
    have hbg : b ≠ g := by have := (hJ.own.lt b rfl).1; omega
    have hjx : Hid (∀ j (hj : j < bs.length), -99 ≤ bs[j].m ∧ bs[j].m ≤ 99) := fun j hj => (bdOk_iff.1 ((planOk_iff.1 Hpo.out).2.2 _ (List.getElem_mem hj))).2.2
    have H0 := hide (show (∀ j, j < bs.length → wc.cell? ⟨b, j * 3, none⟩ = some (.int .i64 (bs.getD j ⟨0, 0, 0⟩).f)) ∧ (∀ j, j < bs.length → wc.cell? ⟨b, j * 3 + 1, none⟩ = some (.int .i64 (bs.getD j ⟨0, 0, 0⟩).t)) ∧ (∀ j, j < bs.length → wc.cell? ⟨b, j * 3 + 2, none⟩ = some (.int .i64 (bs.getD j ⟨0, 0, 0⟩).m)) from ⟨fun j hj => (Hall.out j hj).1, fun j hj => (Hall.out j hj).2.1, fun j hj => (Hall.out j hj).2.2⟩)
    have hAlt : (wc.alloc (.cells #[.int .i64 0, .int .i64 0, .int .i64 0] 97)).drew.heap.size = wc.heap.size + 1 := by simp
    go_region_held3 (fun w' => w'.cell? ⟨P, 1, none⟩ = some (.slice (some ⟨b, 0, none⟩) bs.length c) ∧ (∀ j, j < bs.length → w'.cell? ⟨b, j * 3, none⟩ = some (.int .i64 (bs.getD j ⟨0, 0, 0⟩).f)) ∧ (∀ j, j < bs.length → w'.cell? ⟨b, j * 3 + 1, none⟩ = some (.int .i64 (bs.getD j ⟨0, 0, 0⟩).t)) ∧ (∀ j, j < bs.length → w'.cell? ⟨b, j * 3 + 2, none⟩ = some (.int .i64 (bs.getD j ⟨0, 0, 0⟩).m)))
     (first
       | exact ⟨q1, H0.out⟩
       | exact ⟨r1, H6.out⟩
       | exact ⟨(World.cell?_alloc_past _ _ _ (by omega)).trans q1, fun j hj => (World.cell?_alloc_past _ _ _ (by omega)).trans (H0.out.1 j hj), fun j hj => (World.cell?_alloc_past _ _ _ (by omega)).trans (H0.out.2.1 j hj), fun j hj => (World.cell?_alloc_past _ _ _ (by omega)).trans (H0.out.2.2 j hj)⟩
       | exact ⟨(World.cell?_alloc_past _ _ _ (by omega)).trans r1, fun j hj => (World.cell?_alloc_past _ _ _ (by omega)).trans (H6.out.1 j hj), fun j hj => (World.cell?_alloc_past _ _ _ (by omega)).trans (H6.out.2.1 j hj), fun j hj => (World.cell?_alloc_past _ _ _ (by omega)).trans (H6.out.2.2 j hj)⟩
       | exact ⟨(set_other (by dsimp only; omega)).trans ((set_other (by dsimp only; omega)).trans ((set_other (by dsimp only; omega)).trans r1)), fun j hj => (set_other (by dsimp only; omega)).trans ((set_other (by dsimp only; omega)).trans ((set_other (by dsimp only; omega)).trans (H6.out.1 j hj))), fun j hj => (set_other (by dsimp only; omega)).trans ((set_other (by dsimp only; omega)).trans ((set_other (by dsimp only; omega)).trans (H6.out.2.1 j hj))), fun j hj => (set_other (by dsimp only; omega)).trans ((set_other (by dsimp only; omega)).trans ((set_other (by dsimp only; omega)).trans (H6.out.2.2 j hj)))⟩
       | (go_keep; done))
     (first
       | (go_at_call 88; go_fit (pick_js _ _ hJ.drew (by omega) (by omega)); rintro e w6 ⟨v, rfl, c1, c2, _, hJ2, G2, hs2⟩; have c2' := c2 (by omega); have r1 := hJ2.c1; obtain ⟨j, rfl⟩ := Int.eq_ofNat_of_zero_le c1; have hj : j < bs.length := (by omega); have hb6 : b < w6.heap.size := (by simp only [World.size_drew] at hs2; omega); have hs2' : wc.heap.size ≤ w6.heap.size := (by simp only [World.size_drew] at hs2; omega); clear hs2; have hP6 := hJ2.P1; have H6 := hide (show (∀ j, j < bs.length → w6.cell? ⟨b, j * 3, none⟩ = some (.int .i64 (bs.getD j ⟨0, 0, 0⟩).f)) ∧ (∀ j, j < bs.length → w6.cell? ⟨b, j * 3 + 1, none⟩ = some (.int .i64 (bs.getD j ⟨0, 0, 0⟩).t)) ∧ (∀ j, j < bs.length → w6.cell? ⟨b, j * 3 + 2, none⟩ = some (.int .i64 (bs.getD j ⟨0, 0, 0⟩).m)) from ⟨fun j hj => far_cell (undrew G2) (H0.out.1 j hj) hbg, fun j hj => far_cell (undrew G2) (H0.out.2.1 j hj) hbg, fun j hj => far_cell (undrew G2) (H0.out.2.2 j hj) hbg⟩))
       | (go_at_call 88; go_fit (pick_js _ _ (hJ.alloc (.cells #[.int .i64 0, .int .i64 0, .int .i64 0] 97)).drew (by omega) (by omega)); rintro e w6 ⟨v, rfl, c1, c2, _, hJ2, G2, hs2⟩; have c2' := c2 (by omega); have r1 := hJ2.c1; obtain ⟨j, rfl⟩ := Int.eq_ofNat_of_zero_le c1; have hj : j < bs.length := (by omega); have hb6 : b < w6.heap.size := (by rw [hAlt] at hs2; omega); have hs2' : wc.heap.size + 1 ≤ w6.heap.size := (by rw [hAlt] at hs2; omega); clear hs2; have hP6 := hJ2.P1; have H6 := hide (show (∀ j, j < bs.length → w6.cell? ⟨b, j * 3, none⟩ = some (.int .i64 (bs.getD j ⟨0, 0, 0⟩).f)) ∧ (∀ j, j < bs.length → w6.cell? ⟨b, j * 3 + 1, none⟩ = some (.int .i64 (bs.getD j ⟨0, 0, 0⟩).t)) ∧ (∀ j, j < bs.length → w6.cell? ⟨b, j * 3 + 2, none⟩ = some (.int .i64 (bs.getD j ⟨0, 0, 0⟩).m)) from ⟨fun j hj => far_cell (undrew G2) ((World.cell?_alloc_past _ _ _ hbw).trans (H0.out.1 j hj)) hbg, fun j hj => far_cell (undrew G2) ((World.cell?_alloc_past _ _ _ hbw).trans (H0.out.2.1 j hj)) hbg, fun j hj => far_cell (undrew G2) ((World.cell?_alloc_past _ _ _ hbw).trans (H0.out.2.2 j hj)) hbg⟩); have x0 := far_cell (x := .int .i64 0) (b := wc.heap.size) (o := 0) (undrew G2) (by simp [go_sem]) (by omega); have x1 := far_cell (x := .int .i64 0) (b := wc.heap.size) (o := 1) (undrew G2) (by simp [go_sem]) (by omega); have x2 := far_cell (x := .int .i64 0) (b := wc.heap.size) (o := 2) (undrew G2) (by simp [go_sem]) (by omega); have xf0 := far_frozen (b := wc.heap.size) (o := 0) (undrew G2) (by simp [go_sem]) (by simp) (by omega); have xf1 := far_frozen (b := wc.heap.size) (o := 1) (undrew G2) (by simp [go_sem]) (by simp) (by omega); have xf2 := far_frozen (b := wc.heap.size) (o := 2) (undrew G2) (by simp [go_sem]) (by simp) (by omega)))
    ·go_wp2_with fail
     go_meet
     case rel =>
      refine ⟨w6.heap.size, bs[j], rfl, hjx.out j hj, (hJ2.alloc _).more (by omega), hP6, ?_, ?_, ?_, ?_⟩
      ·simp only [World.size_alloc]; omega
      ·simp [go_sem]
      ·simp [go_sem]
      ·simp [go_sem]
    ·go_wp2_with fail
     go_meet
     case rel =>
      exact ⟨wc.heap.size, bs[j], rfl, hjx.out j hj, (((hJ2.set ⟨wc.heap.size, 0, none⟩ hPc (fun e => by have e2 := Option.some.inj e; dsimp only at e2; omega) _).set ⟨wc.heap.size, 1, none⟩ hPc (fun e => by have e2 := Option.some.inj e; dsimp only at e2; omega) _).set ⟨wc.heap.size, 2, none⟩ hPc (fun e => by have e2 := Option.some.inj e; dsimp only at e2; omega) _).more (by omega), hPc, by simp only [World.size_setCell]; omega, (three_cells x0 x1 x2).1, (three_cells x0 x1 x2).2.1, (three_cells x0 x1 x2).2.2⟩
--END 2
   case rest =>
    skip
--BEGIN 3
    clear hJ q0 q1 hPc hrd hbw Hall
    obtain ⟨X, x, rfl, ⟨hxm0, hxm1⟩, hJ, hPX, hXw, x0, x1, x2⟩ := hcut
    go_upto_region 4 with fail
    have hg0 := hJ.lt
    have hP0 := hJ.P0
    have q0 := hJ.c0
    have q1 := hJ.c1
    have hwn : IntKind.i64.wrap (-x.m) = -x.m := by rw [IntWalk.i64_left, IntWalk.wrap64_in _ (by omega)]
    have hbw : b < wc.heap.size := (hJ.own.lt b rfl).2
    have hXg : X ≠ g := by omega
    have hZg : wc.heap.size ≠ g := by omega
    have hAlt : (wc.alloc (.cells #[.int .i64 0, .slice none 0 0] 34)).drew.heap.size = wc.heap.size + 1 := by simp
    have hDr : wc.drew.heap.size = wc.heap.size := rfl
    have hZB : ZB w (wc.alloc (.cells #[.int .i64 0, .slice none 0 0] 34)).drew wc.heap.size := (zb_new (by omega)).drew
    have x0' := (show (wc.alloc (.cells #[.int .i64 0, .slice none 0 0] 34)).cell? ⟨X, 0, none⟩ = some (.int .i64 x.f) from (World.cell?_alloc_past _ _ _ hXw).trans x0)
    have x1' := (show (wc.alloc (.cells #[.int .i64 0, .slice none 0 0] 34)).cell? ⟨X, 1, none⟩ = some (.int .i64 x.t) from (World.cell?_alloc_past _ _ _ hXw).trans x1)
    have x2' := (show (wc.alloc (.cells #[.int .i64 0, .slice none 0 0] 34)).cell? ⟨X, 2, none⟩ = some (.int .i64 x.m) from (World.cell?_alloc_past _ _ _ hXw).trans x2)
    have Hx0 := hide x0'
    have Hx1 := hide x1'
    have Hx2 := hide x2'
    have HZB := hide hZB
    clear x0' x1' x2' hZB
    go_cut [7, 8] (fun s7 s8 wx => ∃ Z A2 c2, ∃ q : Pl, ∃ r : Bool, ∃ y : Bd, s7 = .pointer (some ⟨Z, 0, none⟩) ∧ s8 = .bool r ∧ Hid (toldP ⟨n, bs ++ [y]⟩ = q) ∧ Hid (planOk ⟨n, bs ++ [y]⟩ = r) ∧ JS w wx g P (K + 103) n (some ⟨b, 0, none⟩) c bs ∧ wx.cell? ⟨Z, 0, none⟩ = some (.int .i64 q.n) ∧ wx.cell? ⟨Z, 1, none⟩ = some (.slice A2 q.bs.length c2) ∧ OwnB w.heap.size wx (.slice A2 q.bs.length c2) q.bs ∧ (Value.slice A2 q.bs.length c2).ownBlock ≠ some w.heap.size)
    case first =>
     go_region_held3 (fun w' => w'.cell? ⟨P, 0, none⟩ = some (.int .i64 n) ∧ w'.cell? ⟨P, 1, none⟩ = some (.slice (some ⟨b, 0, none⟩) bs.length c) ∧ w'.cell? ⟨X, 0, none⟩ = some (.int .i64 x.f) ∧ w'.cell? ⟨X, 1, none⟩ = some (.int .i64 x.t) ∧ w'.cell? ⟨X, 2, none⟩ = some (.int .i64 x.m))
      (first
        | (go_split_ands; (repeat' apply And.intro) <;> first | assumption | exact (World.cell?_alloc_past _ _ _ (by omega)).trans (by assumption) | exact (set_other (by dsimp only; omega)).trans ((set_other (by dsimp only; omega)).trans (by assumption)))
        | (go_keep; done))
      (first
        | (go_at_call 88; go_fit (pick_js _ _ hJ.drew (by omega) (by omega)); rintro e w6 ⟨v, rfl, c1, c2, _, hJ2, G2, hs2⟩; have c2' := c2 (by omega); rw [hDr] at hs2; have hs2' : wc.heap.size ≤ w6.heap.size := (by omega); clear hs2; have hws : IntKind.i64.wrap (-x.m - v) = -x.m - v := (by rw [IntWalk.i64_left, IntWalk.wrap64_in _ (by omega)]); have r0 := hJ2.c0; have r1 := hJ2.c1; have hP6 := hJ2.P1; have y0 := far_cell (undrew G2) x0 hXg; have y1 := far_cell (undrew G2) x1 hXg; have y2 := far_cell (undrew G2) x2 hXg; obtain ⟨b6, hrd6⟩ := hJ2.reads)
        | (go_at_call 88; go_fit (pick_js _ _ (hJ.alloc (.cells #[.int .i64 0, .slice none 0 0] 34)).drew (by omega) (by omega)); rintro e w6 ⟨v, rfl, c1, c2, _, hJ2, G2, hs2⟩; have c2' := c2 (by omega); rw [hAlt] at hs2; have hs2' : wc.heap.size + 1 ≤ w6.heap.size := (by omega); clear hs2; have hws : IntKind.i64.wrap (-x.m - v) = -x.m - v := (by rw [IntWalk.i64_left, IntWalk.wrap64_in _ (by omega)]); have r0 := hJ2.c0; have r1 := hJ2.c1; have hP6 := hJ2.P1; have y0 := far_cell (undrew G2) Hx0.out hXg; have y1 := far_cell (undrew G2) Hx1.out hXg; have y2 := far_cell (undrew G2) Hx2.out hXg; obtain ⟨b6, hrd6⟩ := hJ2.reads; have hZ6 := HZB.out.grown G2 (fun q hq => by have e := Option.some.inj hq; omega))
        | (go_at_call 65
           obtain ⟨q2, Hq2⟩ : ∃ q2, Hid (toldP ⟨n, bs ++ [(⟨x.t, x.f, -x.m - v⟩ : Bd)]⟩ = q2) := ⟨_, rfl⟩
           obtain ⟨r2, Hr2⟩ : ∃ r2, Hid (planOk ⟨n, bs ++ [(⟨x.t, x.f, -x.m - v⟩ : Bd)]⟩ = r2) := ⟨_, rfl⟩
           have hZ6' := hZ6
           go_fit (sWithBound_reg n bs ⟨x.t, x.f, -x.m - v⟩ _ b6 0 c _ _ (by omega) (Nat.le_refl _) hrd6 q2 r2 Hq2.out Hr2.out)
           rintro e w9 ⟨A2, c2, g2, rfl, hx2, hown2, hb2⟩
           have hJ6 := hJ2.below hb2
           have hZ9 := hZ6.below hb2
           have t0 := hJ6.c0
           have t1 := hJ6.c1
           have u0 := ((bcell hb2).1 X 0 (by omega)).trans y0
           have u1 := ((bcell hb2).1 X 1 (by omega)).trans y1
           have u2 := ((bcell hb2).1 X 2 (by omega)).trans y2
           have z0 := hZ9.z0
           have z1 := hZ9.z1
           have zf0 := hZ9.zf 0
           have zf1 := hZ9.zf 1
           have hsz9 := hb2.size)
        | (go_at_call 65
           obtain ⟨q2, Hq2⟩ : ∃ q2, Hid (toldP ⟨n, bs ++ [(⟨x.t, x.f, -x.m - v⟩ : Bd)]⟩ = q2) := ⟨_, rfl⟩
           obtain ⟨r2, Hr2⟩ : ∃ r2, Hid (planOk ⟨n, bs ++ [(⟨x.t, x.f, -x.m - v⟩ : Bd)]⟩ = r2) := ⟨_, rfl⟩
           go_fit (sWithBound_reg n bs ⟨x.t, x.f, -x.m - v⟩ _ b6 0 c _ w6 (by omega) (Nat.le_refl _) hrd6 q2 r2 Hq2.out Hr2.out)
           rintro e w9 ⟨A2, c2, g2, rfl, hx2, hown2, hb2⟩
           have hJ6 := hJ2.below hb2
           have t0 := hJ6.c0
           have t1 := hJ6.c1
           have u0 := ((bcell hb2).1 X 0 (by omega)).trans y0
           have u1 := ((bcell hb2).1 X 1 (by omega)).trans y1
           have u2 := ((bcell hb2).1 X 2 (by omega)).trans y2
           have hsz9 := hb2.size)
        | (go_at_call 65
           obtain ⟨q2, Hq2⟩ : ∃ q2, Hid (toldP ⟨n, bs ++ [(⟨x.t, x.f, -x.m - v⟩ : Bd)]⟩ = q2) := ⟨_, rfl⟩
           obtain ⟨r2, Hr2⟩ : ∃ r2, Hid (planOk ⟨n, bs ++ [(⟨x.t, x.f, -x.m - v⟩ : Bd)]⟩ = r2) := ⟨_, rfl⟩
           have hJ2a := hJ2.alloc (.cells #[.int .i64 0, .slice none 0 0] 34)
           obtain ⟨b7, hrd7⟩ := hJ2a.reads
           have hsa : (w6.alloc (.cells #[.int .i64 0, .slice none 0 0] 34)).heap.size = w6.heap.size + 1 := (by simp)
           have hZ7 : ZB w (w6.alloc (.cells #[.int .i64 0, .slice none 0 0] 34)) w6.heap.size := zb_new (by omega)
           go_fit (sWithBound_reg n bs ⟨x.t, x.f, -x.m - v⟩ _ b7 0 c _ (w6.alloc (.cells #[.int .i64 0, .slice none 0 0] 34)) (by omega) (Nat.le_refl _) hrd7 q2 r2 Hq2.out Hr2.out)
           rintro e w9 ⟨A2, c2, g2, rfl, hx2, hown2, hb2⟩
           have hJ6 := hJ2a.below hb2
           have hZ9 := hZ7.below hb2
           have t0 := hJ6.c0
           have t1 := hJ6.c1
           have u0 := ((bcell hb2).1 X 0 (by omega)).trans ((World.cell?_alloc_past _ _ _ (by omega)).trans y0)
           have u1 := ((bcell hb2).1 X 1 (by omega)).trans ((World.cell?_alloc_past _ _ _ (by omega)).trans y1)
           have u2 := ((bcell hb2).1 X 2 (by omega)).trans ((World.cell?_alloc_past _ _ _ (by omega)).trans y2)
           have z0 := hZ9.z0
           have z1 := hZ9.z1
           have zf0 := hZ9.zf 0
           have zf1 := hZ9.zf 1
           have hsz9 := hb2.size))
     all_goals (
      go_wp2_with fail
      go_meet
      case rel =>
       first
        | exact ⟨w9.heap.size, A2, c2, q2, r2, _, rfl, rfl, Hq2, Hr2, (hJ6.alloc _).more (by omega), by simp [go_sem], by simp [go_sem], own_less (hown2.alloc _) (by omega), fun e => by have := (hown2.lt _ e).1; omega⟩
        | exact ⟨w6.heap.size, A2, c2, q2, r2, _, rfl, rfl, Hq2, Hr2, ((hJ6.set ⟨w6.heap.size, 0, none⟩ (by dsimp only; omega) (fun e => by have e2 := Option.some.inj e; dsimp only at e2; omega) _).set ⟨w6.heap.size, 1, none⟩ (by dsimp only; omega) (fun e => by have e2 := Option.some.inj e; dsimp only at e2; omega) _).more (by omega), (two_cells z0 z1).1, (two_cells z0 z1).2, own_less (own_set_low (own_set_low hown2 (by dsimp only; omega) _) (by dsimp only; omega) _) (by omega), fun e => by have := (hown2.lt _ e).1; omega⟩
        | exact ⟨wc.heap.size, A2, c2, q2, r2, _, rfl, rfl, Hq2, Hr2, ((hJ6.set ⟨wc.heap.size, 0, none⟩ (by dsimp only; omega) (fun e => by have e2 := Option.some.inj e; dsimp only at e2; omega) _).set ⟨wc.heap.size, 1, none⟩ (by dsimp only; omega) (fun e => by have e2 := Option.some.inj e; dsimp only at e2; omega) _).more (by omega), (two_cells z0 z1).1, (two_cells z0 z1).2, own_less (own_set_low (own_set_low hown2 (by dsimp only; omega) _) (by dsimp only; omega) _) (by omega), fun e => by have := (hown2.lt _ e).1; omega⟩)
    case rest =>
     clear hJ x0 x1 x2 Hx0 Hx1 Hx2 HZB q0 q1
     obtain ⟨Z, A2, c2, q, r, y, rfl, rfl, Hq, Hr, hJ, z0c, z1c, ho, hne⟩ := hcut
     have z0 := hJ.z0
     have z1 := hJ.z1
     have zf0 := hJ.zf 0
     have zf1 := hJ.zf 1
     have p0 := hJ.c0
     have p1 := hJ.c1
     cases r
     ·go_wp2_with fail
      obtain ⟨r0, r1, ho, hr, hgr⟩ := hJ.fin
      refine bodyPost_ret (v := .agg #[.int .i64 n, .slice (some ⟨b, 0, none⟩) bs.length c]) (by simp [results, Tryz.results87, go_sem, r0, r1]) rfl ?_
      exact ⟨_, _, _, _, rfl, ⟨by omega, by omega⟩, by omega, hsm, ho, hr.more (by omega), hgr⟩
     ·have hq := Hq.out
      rw [toldP_yes Hr.out] at hq
      obtain ⟨qn, qb⟩ := q
      injection hq with e1 e2
      have hs2 := sm_ok Hr.out
      rw [e2] at hs2
      obtain ⟨hs20, hs21, _, _⟩ := hs2
      clear e2 Hq Hr
      subst e1
      dsimp only at *
      go_wp2_with fail
      obtain ⟨r0, r1, ho, hr, hgr⟩ := hJ.fin2 (n' := n) ho hne
      refine bodyPost_ret (v := .agg #[.int .i64 n, .slice A2 qb.length c2]) (by simp [results, Tryz.results87, go_sem, r0, r1]) rfl ?_
      exact ⟨_, _, _, _, rfl, ⟨by omega, by omega⟩, by omega, hs20, ho, hr.more (by omega), hgr⟩
--END 3
  ·have z0 := hJ.z0
   have z1 := hJ.z1
   have zf0 := hJ.zf 0
   have zf1 := hJ.zf 1
   have p0 := hJ.c0
   have p1 := hJ.c1
   go_wp2_with fail
   obtain ⟨r0, r1, ho, hr, hgr⟩ := hJ.fin
   refine bodyPost_ret (v := .agg #[.int .i64 n, .slice A bs.length c]) (by simp [results, Tryz.results87, go_sem, r0, r1]) rfl ?_
   exact ⟨_, _, _, _, rfl, ⟨by omega, by omega⟩, by omega, hsm, ho, hr.more (by omega), hgr⟩
--END 1
end Go.Proofs.YtmnajkhoacogjaaGreatDoor
