/-
 spec: l20Desk.
-/
import Derived.Test.YtmnajkhoacogjaaGreatDoorR75
import Derived.Test.YtmnajkhoacogjaaGreatDoorD80
import Derived.Test.YtmnajkhoacogjaaGreatDoorD13
import Derived.Test.YtmnajkhoacogjaaGreatDoorS9h
import Derived.Test.YtmnajkhoacogjaaGreatDoorS9d
namespace Go.Proofs.YtmnajkhoacogjaaGreatDoor
set_option linter.unusedVariables false
set_option linter.unusedSimpArgs false
open Go Go.RowKit Pp

namespace Pp
theorem do_done {rt : List UInt8 → Option (List Mk)} {d : Dk} {a : Dd} (h : (deskDo rt d a).2 = true) : deskOk (deskDo rt d a).1 = true ∧ (deskDo rt d a).1.past.length ≤ d.past.length + 1 := by
 cases hd : deskOk d
 ·rw [do_bad hd] at h; cases h
 ·refine ⟨deskDo_ok rt a hd, ?_⟩
  unfold deskDo
  rw [if_pos hd]
  split
  ·dsimp only; rw [List.length_dropLast]; omega
  ·split
   ·unfold pushP
    dsimp only
    split
    ·rw [List.length_drop, List.length_append, List.length_singleton]; omega
    ·rw [List.length_append, List.length_singleton]; omega
   ·dsimp only; omega
/-- A desk, or the zero value, or one that is nearly so. -/
def DkS (d : Dk) : Prop := (0 ≤ d.now.n ∧ d.now.n ≤ 6) ∧ d.now.bs.length ≤ 16 ∧ ∀ p ∈ d.past, p.bs.length ≤ 16
theorem dkS_ok {d : Dk} (h : deskOk d = true) : DkS d := by
 obtain ⟨h1, h2, h3⟩ := deskOk_iff.1 h
 obtain ⟨k1, k2, -⟩ := planOk_iff.1 h2
 exact ⟨by omega, k2, fun p hp => (planOk_iff.1 (h1 p hp)).2.1⟩
theorem dkS_zero : DkS ⟨⟨0, []⟩, []⟩ := ⟨by decide, by decide, fun p hp => by simp at hp⟩
/-- A drawn desk that is handed back. -/
def DeskD (g : Nat) (K : Int) (w w' : World) (v : Value) : Prop := ∃ A c A2 c2, ∃ d : Dk, v = .agg #[.int .i64 d.now.n, .slice A d.now.bs.length c, .slice A2 d.past.length c2] ∧ DkS d ∧ d.past.length ≤ 8 ∧ OwnB w.heap.size w' (.slice A d.now.bs.length c) d.now.bs ∧ OwnPs w.heap.size w' (.slice A2 d.past.length c2) d.past ∧ RdO w' g K ∧ w.grownBy w' (some g)
end Pp
set_option maxHeartbeats 4000000 in
set_option maxRecDepth 100000 in
theorem desk_c (g : Nat) (K0 m : Int) (w : World) (hK : 0 ≤ K0 ∧ K0 ≤ 10000) (hm : 0 ≤ m ∧ m ≤ 100) (hR : RdO w g K0) :
  Calls Tryz.prog 52 #[.pointer (some ⟨g, 0, none⟩), .int .i64 m] w fun e w' => ∃ v, e = .returned v ∧ DeskD g (K0 + 2000) w w' v := by
 obtain ⟨rt, hrt⟩ := isRead_ex
 obtain ⟨hK0, hK1⟩ := hK
 obtain ⟨hm0, hm1⟩ := hm
 obtain ⟨j0, hj0, hy0, hy1, hy2⟩ := info_parts infoPl
 have hgl := hR.lt
 have hZ : ZD w (w.alloc (.cells #[.int .i64 0, .slice none 0 0, .slice none 0 0] 37)) w.heap.size := zd_at rfl (Nat.le_refl _)
 have hR1 := hR.alloc (.cells #[.int .i64 0, .slice none 0 0, .slice none 0 0] 37)
 have hG1 : w.grownBy (w.alloc (.cells #[.int .i64 0, .slice none 0 0, .slice none 0 0] 37)) (some g) := gr_new w _ _
 have hs1 : (w.alloc (.cells #[.int .i64 0, .slice none 0 0, .slice none 0 0] 37)).heap.size = w.heap.size + 1 := by simp
 clear hR
 go_enter Tryz.func52, Tryz.ntmps52
 go_upto_region 1 with fail
 generalize w.alloc (.cells #[.int .i64 0, .slice none 0 0, .slice none 0 0] 37) = W at hZ hR1 hG1 hs1 ⊢
 obtain ⟨Y, hY⟩ : ∃ Y, w.heap.size = Y := ⟨_, rfl⟩
 have hZ1 : ZD w W Y := by rw [← hY]; exact hZ
 rw [hY]
 have Hs1 := hide hs1
 have HY := hide hY
 clear hs1 hZ hY
 go_upto_region 2 with (first
  | (go_at_call 87; refine (tight_c g K0 0 _ (by omega) (by omega) hR1).mono ?_; rintro e w2 ⟨n, A, c, bs, rfl, hn, h16, -, own2, hR2, hG2⟩)
  | (go_at_call 86; obtain ⟨g2, hr2⟩ := OwnB.readsA own2; refine (sDeskNew_any ⟨n, bs⟩ A g2 0 c _ _ (show bs.length ≤ 2000000 by omega) (Nat.le_refl _) hr2).mono ?_; rintro e w3 ⟨v, rfl, ⟨A3, c3, A4, c4, rfl, own3, ops3⟩, hb3⟩))
 have hszA := hG2.size
 have hL0 : LD w (w3.alloc (.cells #[.int .i64 (newD ⟨n, bs⟩).now.n, .slice A3 (newD ⟨n, bs⟩).now.bs.length c3, .slice A4 (newD ⟨n, bs⟩).past.length c4] 37)) g (K0 + 200) Y w3.heap.size (newD ⟨n, bs⟩).now.n A3 c3 (newD ⟨n, bs⟩).now.bs A4 c4 (newD ⟨n, bs⟩).past := by
  have hs := Hs1.out
  have hb4 : Below w3.heap.size w3 (w3.alloc (.cells #[.int .i64 (newD ⟨n, bs⟩).now.n, .slice A3 (newD ⟨n, bs⟩).now.bs.length c3, .slice A4 (newD ⟨n, bs⟩).past.length c4] 37)) := by go_grown
  have hs3 := hb3.size
  refine ⟨(hR2.below hb3).below hb4, gr_below (gr_below (gr_pick hG1 hG2) hb3) hb4, hgl, ((hZ1.grown hG2 (fun k e => by injection e with e; have := HY.out; omega)).below hb3).below hb4, HY.out.symm, by omega, by simp, by simp [go_sem], by simp [go_sem], by simp [go_sem], fun i => by simp [go_sem], ⟨_, at_new rfl⟩, own_less (own_below own3 hb4) (by omega), (ops3.below hb4).less (by omega)⟩
 have hDS : DkS (newD ⟨n, bs⟩) ∧ (newD ⟨n, bs⟩).past.length = 0 := by
  unfold newD
  split
  ·rename_i hp
   refine ⟨dkS_ok ?_, rfl⟩
   rw [deskOk_iff]
   exact ⟨fun p hp => by simp at hp, hp, by simp⟩
  ·exact ⟨dkS_zero, rfl⟩
 clear own3 ops3 hb3 own2 hR2 hG2 hr2 hn h16
 generalize newD ⟨n, bs⟩ = D at hL0 hDS ⊢
 obtain ⟨⟨n1, bs1⟩, ps1⟩ := D
 dsimp only at hL0 hDS ⊢
 generalize w3.alloc (.cells #[.int .i64 n1, .slice A3 bs1.length c3, .slice A4 ps1.length c4] 37) = W1 at hL0 ⊢
 generalize w3.heap.size = X at hL0 ⊢
 have HDS := hide hDS
 clear hDS hszA hR1 hG1 hZ1
 go_upto_block 0 with (go_at_call 88; refine (pick_c g (K0 + 200) 5 _ (by omega) (by omega) hL0.rd).mono ?_; rintro e w4 ⟨v7, rfl, b1, b2, -, hR4, G4, -⟩; replace b2 := b2 (by omega); have hL := hL0.pick hR4 G4)
 clear hL0 hR4 G4
 obtain ⟨k7, rfl⟩ := Int.eq_ofNat_of_zero_le b1
 go_cut [] (fun wx => ∃ n A c bs A2 c2 ps, LD w wx g (K0 + 1500) Y X n A c bs A2 c2 ps ∧ Hid (DkS ⟨⟨n, bs⟩, ps⟩ ∧ ps.length ≤ 4))
 case first =>
  go_wp2_with fail
  go_loopg [7] (k7 + 1) (fun gh s wr => ∃ (j : Nat) (n : Int) (A : Option Addr) (c : Nat) (bs : List Bd) (A2 : Option Addr) (c2 : Nat) (ps : List Pl), j ≤ 4 ∧ gh = j + 1 ∧ s = .int .i64 j ∧ LD w wr g (K0 + 201 + (4 - j) * 250) Y X n A c bs A2 c2 ps ∧ Hid (DkS ⟨⟨n, bs⟩, ps⟩ ∧ ps.length + j ≤ 4))
  case atStart => exact ⟨k7, _, _, _, _, _, _, _, by omega, rfl, rfl, hL.more (by omega), by unfold Hid; have := HDS.out; exact ⟨this.1, by omega⟩⟩
  case round =>
   clear hL b1 b2 HDS
   obtain ⟨j, n, A, c, bs, A2, c2, ps, hj, rfl, rfl, hL, HS⟩ := hrel
   by_cases hjz : j = 0
   ·subst hjz
    go_wp2_with fail
    go_meet
    case rel => exact ⟨n, A, c, bs, A2, c2, ps, hL.more (by omega), by unfold Hid; have := HS.out; exact ⟨this.1, by omega⟩⟩
   ·have hjp : (0 : Int) < (j : Int) := by omega
    obtain ⟨i, rfl⟩ : ∃ i, j = i + 1 := ⟨j - 1, by omega⟩
    have HS1 := HS
    obtain ⟨K1, hK1d⟩ : ∃ K1 : Int, K0 + 201 + (4 - ((i + 1 : Nat) : Int)) * 250 = K1 := ⟨_, rfl⟩
    rw [hK1d] at hL
    have hK1b : 0 ≤ K1 ∧ K1 + 250 ≤ K0 + 201 + (4 - (i : Int)) * 250 ∧ K1 ≤ 50000 := by omega
    clear hK1d
    go_upto_block 1 with fail
    go_cut [] (fun wx => ∃ n A c bs A2 c2 ps, LD w wx g (K1 + 250) Y X n A c bs A2 c2 ps ∧ Hid (DkS ⟨⟨n, bs⟩, ps⟩ ∧ ps.length + i ≤ 4))
    case first =>
     go_upto_region 5 with fail
     refine wp_regionE (fun w' => w'.cell? ⟨X, 0, none⟩ = some (.int .i64 n) ∧ w'.cell? ⟨X, 1, none⟩ = some (.slice A bs.length c) ∧ w'.cell? ⟨X, 2, none⟩ = some (.slice A2 ps.length c2)) 11 (by kernel_rfl) ?_
     change wpE _ _ _ _ _ _ 12 #[false, false, false, false, false, false, false, false, false, false, false, false] _ _
     have hdr : Below wr.heap.size wr wr.drew := by go_grown
     replace hL := hL.below hdr
     generalize wr.drew = wd at hL ⊢
     clear hdr
     have hS0 : wd.cell? ⟨X, 0, none⟩ = some (.int .i64 n) ∧ wd.cell? ⟨X, 1, none⟩ = some (.slice A bs.length c) ∧ wd.cell? ⟨X, 2, none⟩ = some (.slice A2 ps.length c2) := ⟨hL.p0, hL.p1, hL.p2⟩
     refine wpE_tk (v := ?_) 0 [5, 10, 11] (hy := ?_) (hS := hS0) (h := ?_)
     rotate_left
     ·intro w' hSw
      simp only [xg0, xg1, xg2]
      go_simp
      all_goals with_reducible rfl
     simp only [xg0, xg1, xg2, Act.put, xs0, xs1, xs2]
     refine wpE_tk (v := ?_) 1 [4, 5, 10, 11] (hy := ?_) (hS := hS0) (h := ?_)
     rotate_left
     ·intro w' hSw
      simp only [xg0, xg1, xg2]
      go_simp
      all_goals with_reducible rfl
     simp only [xg0, xg1, xg2, Act.put, xs0, xs1, xs2]
     refine wpE_tk (v := ?_) 2 [3, 4, 5, 10, 11] (hy := ?_) (hS := hS0) (h := ?_)
     rotate_left
     ·intro w' hSw
      simp only [xg0, xg1, xg2]
      go_simp
      all_goals with_reducible rfl
     simp only [xg0, xg1, xg2, Act.put, xs0, xs1, xs2]
     refine wpE_tk (v := ?_) 3 [4, 5, 10, 11] (hy := ?_) (hS := hS0) (h := ?_)
     rotate_left
     ·intro w' hSw
      simp only [xg0, xg1, xg2]
      go_simp
      all_goals with_reducible rfl
     simp only [xg0, xg1, xg2, Act.put, xs0, xs1, xs2]
     have hJ := hL
     clear hL
     refine wpF_start 9 8 (fun wx => LD w wx g K1 Y X n A c bs A2 c2 ps) (fun z wx => CV w X Y z wx) (of_decide_eq_true (by kernel_rfl)) rfl hJ (fun fl z hB => ?_)
     simp only [Act.put, xs0, xs1, xs2]
     apply wpF_step (f := 9) (fl := fl) (z := z) (J := fun wx => LD w wx g K1 Y X n A c bs A2 c2 ps) (B := fun z wx => CV w X Y z wx) 4
     case hi => exact of_decide_eq_true (by kernel_rfl)
     case hg => kernel_rfl
     case hr0 => kernel_rfl
     case hr1 => kernel_rfl
     case hL => kernel_rfl
     case hJ => exact hJ
     case hB => exact hB
     case hF =>
      refine floats_of (of_decide_eq_true (by kernel_rfl)) (by kernel_rfl) (by kernel_rfl) (fun _ h => ⟨h.p0, h.p1, h.p2⟩) ?_
      (try clear hS0)
      clear hJ hB
      intro z wx hJ K hK
      simp only [xg0, xg1, xg2]
      go_simp
      exact hK.out _ _ (hJ.alloc _) (cv_new (Nat.lt_trans hJ.lo hJ.ex) hJ.ex hJ.zd.ex)
     (try clear hS0)
     clear hJ hB
     intro fl z wx hJ hB K hK
     simp only [xg0, xg1, xg2]
     go_simp
     go_at_call 61
     refine (deed_c g K1 n A bs.length c _ (by omega) (by have := HS1.out.1.1; dsimp only at this; omega) (by have := HS1.out.1.2.1; dsimp only at this; omega) hJ.rd).mono ?_
     rintro e w4 ⟨k, a1, a2, a3, s, rfl, hR4, G4⟩
     replace hB := fun h => (hB h).pick hgl G4
     replace hJ := hJ.pick hR4 G4
     refine hK.out _ _ (.inr ⟨hJ.p0, hJ.p1, hJ.p2⟩) ?_
     clear hK K hR4 G4
     simp only [Act.put, xs0, xs1, xs2]
     obtain ⟨D', hD'⟩ : ∃ D', deskDo rt ⟨⟨n, bs⟩, ps⟩ ⟨k, a1, a2, a3, s.data.toList⟩ = D' := ⟨_, rfl⟩
     have hdone : D'.2 = true → DkS D'.1 ∧ D'.1.past.length ≤ ps.length + 1 := fun h => by
      rw [← hD'] at h ⊢
      exact ⟨dkS_ok (do_done h).1, (do_done h).2⟩
     have hnot : D'.2 = false → True := fun _ => trivial
     have hcall := fun (g1 g2 : Nat) (wq : World) (h1 : bs.length ≤ 2000000) (h2 : ps.length ≤ 2000000) (h3 : ∀ p ∈ ps, p.bs.length ≤ 2000000) (h4 : bs.length ≤ c) (h5 : c ≤ 9223372036854775807) (hr : BdsR wq wq.heap.size g1 0 A bs) (hr2 : PlsR wq wq.heap.size g2 0 A2 ps) => sDeskDo_q rt hrt n bs ps k a1 a2 a3 s s.data.toList rfl A A2 g1 0 c g2 0 c2 _ wq h1 h2 h3 h4 h5 (Nat.le_refl _) hr hr2
     rw [hD'] at hcall
     have Hcall := hide hcall
     have Hdone := hide hdone
     clear hcall hD' hdone hnot
     obtain ⟨⟨⟨n5, bs5⟩, ps5⟩, r5⟩ := D'
     dsimp only at Hcall Hdone
     apply wpF_step (f := 9) (fl := fl) (z := z) (J := fun wx => LD w wx g (K1 + 200) Y X n A c bs A2 c2 ps) (B := fun z wx => CV w X Y z wx) 5
     case hi => exact of_decide_eq_true (by kernel_rfl)
     case hg => kernel_rfl
     case hr0 => kernel_rfl
     case hr1 => kernel_rfl
     case hL => kernel_rfl
     case hJ => exact hJ
     case hB => exact hB
     case hF =>
      refine floats_of (of_decide_eq_true (by kernel_rfl)) (by kernel_rfl) (by kernel_rfl) (fun _ h => ⟨h.p0, h.p1, h.p2⟩) ?_
      (try clear hS0)
      clear hJ hB
      intro z wx hJ K hK
      simp only [xg0, xg1, xg2]
      go_simp
      exact hK.out _ _ (hJ.alloc _) (cv_new (Nat.lt_trans hJ.lo hJ.ex) hJ.ex hJ.zd.ex)
     (try clear hS0)
     clear hJ hB
     intro fl z wx hJ hB K hK
     simp only [xg0, xg1, xg2]
     go_simp
     go_at_call 9
     obtain ⟨g1, hr1⟩ := OwnB.readsA hJ.own
     obtain ⟨g2', hr2⟩ := hJ.ops.reads
     have hcp := own_cap hJ.own
     have hsz := HS1.out
     refine (Hcall.out g1 g2' _ (by have := hsz.1.2.1; dsimp only at this; omega) (by omega) (fun p hp => by have := hsz.1.2.2 p hp; omega) hcp.1 hcp.2 hr1 hr2).mono ?_
     clear hr1 hr2 hcp hsz
     rintro e w5 ⟨v, rfl, ⟨A5, c5, A6, c6, b6, o6, rfl, own5, -, ops5, -⟩, hb5⟩
     have hlw := Nat.lt_trans hJ.lo hJ.ex
     replace hB := fun h => (hB h).below hb5
     replace hJ := hJ.below hb5
     replace own5 : OwnB (w.heap.size + 1) w5 (.slice A5 bs5.length c5) bs5 := own_less own5 (by omega)
     have ops6 : r5 = true → OwnPs (w.heap.size + 1) w5 (.slice A6 ps5.length c6) ps5 := fun h => (ops5 (by have := (Hdone.out h).2; have := HS1.out.2; show ps5.length < 8; omega)).less (by omega)
     refine hK.out _ _ (.inr ⟨hJ.p0, hJ.p1, hJ.p2⟩) ?_
     clear hK K ops5 hlw hb5
     simp only [Act.put, xs0, xs1, xs2]
     have hS0 : w5.cell? ⟨X, 0, none⟩ = some (.int .i64 n) ∧ w5.cell? ⟨X, 1, none⟩ = some (.slice A bs.length c) ∧ w5.cell? ⟨X, 2, none⟩ = some (.slice A2 ps.length c2) := ⟨hJ.p0, hJ.p1, hJ.p2⟩
     apply wpF_take (z := z) 6 [8, 11]
     case hi => exact of_decide_eq_true (by kernel_rfl)
     case hl0 => kernel_rfl
     case hl1 => kernel_rfl
     case hs => kernel_rfl
     case hf0 => kernel_rfl
     case hf1 => kernel_rfl
     case hr0 => kernel_rfl
     case hr1 => kernel_rfl
     case hQ => exact fun _ _ _ h => h
     case hg => kernel_rfl
     case hS => exact hS0
     case hy =>
      intro w' hSw
      simp only [xg0, xg1, xg2]
      go_simp
      all_goals with_reducible rfl
     simp only [xg0, xg1, xg2, Act.put, xs0, xs1, xs2]
     apply wpF_take (z := z) 7 [10, 11]
     case hi => exact of_decide_eq_true (by kernel_rfl)
     case hl0 => kernel_rfl
     case hl1 => kernel_rfl
     case hs => kernel_rfl
     case hf0 => kernel_rfl
     case hf1 => kernel_rfl
     case hr0 => kernel_rfl
     case hr1 => kernel_rfl
     case hQ => exact fun _ _ _ h => h
     case hg => kernel_rfl
     case hS => exact hS0
     case hy =>
      intro w' hSw
      simp only [xg0, xg1, xg2]
      go_simp
      all_goals with_reducible rfl
     simp only [xg0, xg1, xg2, Act.put, xs0, xs1, xs2]
     apply wpF_take (z := z) 8 [11]
     case hi => exact of_decide_eq_true (by kernel_rfl)
     case hl0 => kernel_rfl
     case hl1 => kernel_rfl
     case hs => kernel_rfl
     case hf0 => kernel_rfl
     case hf1 => kernel_rfl
     case hr0 => kernel_rfl
     case hr1 => kernel_rfl
     case hQ => exact fun _ _ _ h => h
     case hg => kernel_rfl
     case hS => exact hS0
     case hy =>
      intro w' hSw
      simp only [xg0, xg1, xg2]
      go_simp
      all_goals with_reducible rfl
     simp only [xg0, xg1, xg2, Act.put, xs0, xs1, xs2]
     apply wpF_end (f := 9) (fl := fl) (z := z) (J := fun wx => LD w wx g (K1 + 200) Y X n A c bs A2 c2 ps ∧ OwnB (w.heap.size + 1) wx (.slice A5 bs5.length c5) bs5 ∧ (r5 = true → OwnPs (w.heap.size + 1) wx (.slice A6 ps5.length c6) ps5)) (B := fun z wx => CV w X Y z wx)
     case hr0 => kernel_rfl
     case hL => kernel_rfl
     case hJ => exact ⟨hJ, own5, ops6⟩
     case hB => exact hB
     case hF =>
      refine floats_of (of_decide_eq_true (by kernel_rfl)) (by kernel_rfl) (by kernel_rfl) (fun _ h => ⟨h.1.p0, h.1.p1, h.1.p2⟩) ?_
      clear hJ hB own5 ops6 hS0
      intro z wx hJ K hK
      simp only [xg0, xg1, xg2]
      go_simp
      exact hK.out _ _ ⟨hJ.1.alloc _, own_below hJ.2.1 (by go_grown), fun h => (hJ.2.2 h).below (by go_grown)⟩ (cv_new (Nat.lt_trans hJ.1.lo hJ.1.ex) hJ.1.ex hJ.1.zd.ex)
     clear hJ hB own5 ops6 hS0
     intro z wx hJ hB
     obtain ⟨V, rfl, hV, hVs, hVX, hVY, v0, v1, v2, vf, hbV⟩ := hB
     obtain ⟨hL, own5, ops6⟩ := hJ
     have vf0 := vf 0
     have vf1 := vf 1
     have vf2 := vf 2
     obtain ⟨q0, q1, q2⟩ := three_cellsD (a := .int .i64 n5) (b := .slice A5 bs5.length c5) (d := .slice A6 ps5.length c6) v0 v1 v2
     have hbV1 := hbV.set 0 (.int .i64 n5)
     have hbV2 := hbV1.set 1 (.slice A5 bs5.length c5)
     have hL9 := ((hL.setV hV hVX hVY hbV 0 (.int .i64 n5)).setV hV hVX hVY hbV1 1 (.slice A5 bs5.length c5)).setV hV hVX hVY hbV2 2 (.slice A6 ps5.length c6)
     have own9 := ((own5.setBox hbV 0 (.int .i64 n5)).setBox hbV1 1 (.slice A5 bs5.length c5)).setBox hbV2 2 (.slice A6 ps5.length c6)
     have ops9 := fun h => (((ops6 h).setBox hbV 0 (.int .i64 n5)).setBox hbV1 1 (.slice A5 bs5.length c5)).setBox hbV2 2 (.slice A6 ps5.length c6)
     refine wpE_step' 10 (of_decide_eq_true (by kernel_rfl)) (by kernel_rfl) (by kernel_rfl) (fun K hK => ?_)
     simp only [xg0, xg1, xg2]
     go_simp
     refine hK.out _ _ (.inr ⟨hL9.p0, hL9.p1, hL9.p2⟩) ?_
     clear hK K v0 v1 v2 vf vf0 vf1 vf2 hL own5 ops6 hbV hbV1 hbV2
     simp only [Act.put, xs0, xs1, xs2]
     generalize ((wx.setCell ⟨V, 0, none⟩ (.int .i64 n5)).setCell ⟨V, 1, none⟩ (.slice A5 bs5.length c5)).setCell ⟨V, 2, none⟩ (.slice A6 ps5.length c6) = w9 at q0 q1 q2 hL9 own9 ops9 ⊢
     refine wpE_step' 11 (of_decide_eq_true (by kernel_rfl)) (by kernel_rfl) (by kernel_rfl) (fun K hK => ?_)
     simp only [xg0, xg1, xg2]
     go_simp
     refine hK.out _ _ (.inl rfl) ?_
     clear hK K
     simp only [Act.put, xs0, xs1, xs2]
     refine wpE_done (by kernel_rfl) ?_ _
     cases r5
     ·go_wp2_with fail
      go_meet
      case rel => exact ⟨n, A, c, bs, A2, c2, ps, hL9.more (by omega), by unfold Hid; have := HS1.out; exact ⟨this.1, by omega⟩⟩
     ·have H2 := hide (Hdone.out rfl)
      have x0 := hL9.p0
      have x1 := hL9.p1
      have x2 := hL9.p2
      have xf0 := hL9.cf 0
      have xf1 := hL9.cf 1
      have xf2 := hL9.cf 2
      have hL10 := hL9.put (n' := n5) own9 (ops9 rfl)
      go_wp2_with fail
      go_meet
      case rel => exact ⟨_, _, _, _, _, _, _, hL10.more (by omega), by unfold Hid; have := HS1.out; have h2 := H2.out; exact ⟨h2.1, by have := h2.2; omega⟩⟩
    case rest =>
     clear hL HS HS1
     obtain ⟨n, A, c, bs, A2, c2, ps, hL, HS⟩ := hcut
     go_wp2_with fail
     go_roundg (i + 1)
     case measure => go_light; omega
     case rel => go_light; exact ⟨i, n, A, c, bs, A2, c2, ps, by omega, rfl, by go_num, hL.more (by omega), HS⟩
 case rest =>
  clear hL
  obtain ⟨n, A, c, bs, A2, c2, ps, hL, HS⟩ := hcut
  obtain ⟨hDS, hpl⟩ := HS.out
  have HDS2 := hide hDS
  clear hDS HS HDS b1 b2
  go_upto_if 35 with (go_at_call 53; refine (odd_c g (K0 + 1500) m _ (by omega) (by omega) hL.rd).mono ?_; rintro e w5 ⟨ob, rfl, hR5, G5, -⟩; have hL5 := hL.pick hR5 G5)
  clear hL hR5 G5
  cases ob
  ·have hL := hL5
   clear hL5
   have x0 := hL.p0
   have x1 := hL.p1
   have x2 := hL.p2
   have y0 := hL.zd.z0
   have y1 := hL.zd.z1
   have y2 := hL.zd.z2
   have yf0 := hL.zd.zf 0
   have yf1 := hL.zd.zf 1
   have yf2 := hL.zd.zf 2
   obtain ⟨r0, r1, r2, own9, ops9, hR9, hG9⟩ := hL.fin n A c bs A2 c2 ps hL.own hL.ops _ rfl
   go_wp2_with fail
   refine bodyPost_ret (v := .agg #[.int .i64 n, .slice A (bs).length c, .slice A2 (ps).length c2]) (by simp [results, Tryz.results52, go_sem, r0, r1, r2]) rfl ?_
   exact ⟨_, rfl, A, c, A2, c2, ⟨⟨n, bs⟩, ps⟩, rfl, HDS2.out, by show ps.length ≤ 8; omega, own9, ops9, hR9.more (by omega), hG9⟩
  ·go_upto_block 2 with (go_at_call 88; refine (pick_c g (K0 + 1500 + 1) 3 _ (by omega) (by omega) hL5.rd).mono ?_; rintro e w6 ⟨v, rfl, b1, b2, -, hR6, G6, -⟩; have hL6 := hL5.pick hR6 G6)
   replace b2 := b2 (by omega)
   clear hL5 hR6 G6
   have hv : v = 0 ∨ v = 1 ∨ v = 2 := by omega
   rcases hv with rfl | rfl | rfl
   ·have x0 := hL6.p0
    have xf0 := hL6.cf 0
    go_upto_region 15 with fail
    have hL := hL6.set0 0
    clear x0 xf0 hL6
    generalize w6.setCell ⟨X, 0, none⟩ (.int .i64 0) = w7 at hL ⊢
    have x0 := hL.p0
    have x1 := hL.p1
    have x2 := hL.p2
    have y0 := hL.zd.z0
    have y1 := hL.zd.z1
    have y2 := hL.zd.z2
    have yf0 := hL.zd.zf 0
    have yf1 := hL.zd.zf 1
    have yf2 := hL.zd.zf 2
    obtain ⟨r0, r1, r2, own9, ops9, hR9, hG9⟩ := hL.fin 0 A c bs A2 c2 ps hL.own hL.ops _ rfl
    go_wp2_with fail
    refine bodyPost_ret (v := .agg #[.int .i64 0, .slice A (bs).length c, .slice A2 (ps).length c2]) (by simp [results, Tryz.results52, go_sem, r0, r1, r2]) rfl ?_
    exact ⟨_, rfl, A, c, A2, c2, ⟨⟨0, bs⟩, ps⟩, rfl, ⟨by show (0 : Int) ≤ 0 ∧ (0 : Int) ≤ 6; decide, HDS2.out.2⟩, by show ps.length ≤ 8; omega, own9, ops9, hR9.more (by omega), hG9⟩
   ·have x2 := hL6.p2
    have hLa := hL6.alloc (.cells #[.int .i64 0, .slice none 0 0] 34)
    obtain ⟨cs, hrow, hplc⟩ := hLa.ops
    have hlt6 := Nat.lt_trans hL6.lo hL6.ex
    go_upto_region 15 with (at_builtin; refine app_list _ rfl (.tmp 46) (.tmp 48) _ rfl (w.heap.size + 1) 34 j0 _ 2 32 Tryz.underlying35 hj0 hy0 hy1 hy2 rfl (by omega) (.slice A2 ps.length c2) ps.length cs rfl hrow _ 1 _ [.int .i64 0, .slice none 0 0] rfl rfl (NewsAt.block (cs := #[.int .i64 0, .slice none 0 0]) (at_new rfl)) (by simp [Value.oneCell']) (by omega) (by omega) (by simp; omega) ?_; intro A7 c7 w7 hown7 hg7 hat7; obtain ⟨z2, zf, hL7⟩ := hLa.app (p := ⟨0, []⟩) (A2' := A7) (c2' := c7) hrow hplc (World.ownsRow_nil _ _ _ _) hg7 hown7)
    have hDS7 : Hid (DkS ⟨⟨n, bs⟩, ps ++ [⟨0, []⟩]⟩) := by
     obtain ⟨d1, d2, d3⟩ := HDS2.out
     refine ⟨d1, d2, fun p hp => ?_⟩
     rcases List.mem_append.1 hp with h | h
     ·exact d3 p h
     ·rw [List.mem_singleton.1 h]; simp
    have hql : (ps ++ [(⟨0, []⟩ : Pl)]).length ≤ 8 := by rw [List.length_append, List.length_singleton]; omega
    clear x2 hLa hrow hplc hown7 hg7 hat7 z2 zf hL6
    generalize ps ++ [(⟨0, []⟩ : Pl)] = qs at hL7 hDS7 hql
    generalize w7.setCell ⟨X, 2, none⟩ (.slice A7 (ps.length + 1) c7) = w8 at hL7 ⊢
    have hL := hL7
    clear hL7
    have x0 := hL.p0
    have x1 := hL.p1
    have x2 := hL.p2
    have y0 := hL.zd.z0
    have y1 := hL.zd.z1
    have y2 := hL.zd.z2
    have yf0 := hL.zd.zf 0
    have yf1 := hL.zd.zf 1
    have yf2 := hL.zd.zf 2
    obtain ⟨r0, r1, r2, own9, ops9, hR9, hG9⟩ := hL.fin n A c bs A7 c7 qs hL.own hL.ops _ rfl
    go_wp2_with fail
    refine bodyPost_ret (v := .agg #[.int .i64 n, .slice A (bs).length c, .slice A7 (qs).length c7]) (by simp [results, Tryz.results52, go_sem, r0, r1, r2]) rfl ?_
    exact ⟨_, rfl, A, c, A7, c7, ⟨⟨n, bs⟩, qs⟩, rfl, hDS7.out, hql, own9, ops9, hR9.more (by omega), hG9⟩
   ·have hL := hL6
    clear hL6
    have y0 := hL.zd.z0
    have y1 := hL.zd.z1
    have y2 := hL.zd.z2
    have yf0 := hL.zd.zf 0
    have yf1 := hL.zd.zf 1
    have yf2 := hL.zd.zf 2
    obtain ⟨r0, r1, r2, own9, ops9, hR9, hG9⟩ := hL.fin 0 none 0 [] none 0 [] (World.ownsRow_nil _ _ _ _) (OwnPs.nil _ _) _ rfl
    simp only [List.length_nil] at r0 r1 r2 own9 ops9 hR9 hG9
    go_wp2_with fail
    refine bodyPost_ret (v := .agg #[.int .i64 0, .slice none 0 0, .slice none 0 0]) (by simp [results, Tryz.results52, go_sem, r0, r1, r2]) rfl ?_
    exact ⟨_, rfl, none, 0, none, 0, ⟨⟨0, []⟩, []⟩, rfl, dkS_zero, by decide, own9, ops9, hR9.more (by omega), hG9⟩
end Go.Proofs.YtmnajkhoacogjaaGreatDoor
