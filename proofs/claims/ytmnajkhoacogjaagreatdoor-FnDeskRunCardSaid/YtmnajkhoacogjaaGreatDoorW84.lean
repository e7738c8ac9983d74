/-
 The law of DeskRun: its walk.
-/
import Derived.Test.YtmnajkhoacogjaaGreatDoorW81
import Derived.Test.YtmnajkhoacogjaaGreatDoorD82
import Derived.Test.YtmnajkhoacogjaaGreatDoorL9f
namespace Go.Proofs.YtmnajkhoacogjaaGreatDoor
set_option linter.unusedVariables false
set_option linter.unusedSimpArgs false
open Go Go.RowKit Pp

namespace Pp
theorem run_szW {rt : List UInt8 → Option (List Mk)} {d : Dk} {l : List Dd} : (deskRun rt d l).1.now.bs.length ≤ 16 ∧ (deskRun rt d l).1.past.length ≤ 8 ∧ (∀ p ∈ (deskRun rt d l).1.past, p.bs.length ≤ 16) ∧ (deskRun rt d l).2 ≤ 40 := by
 unfold deskRun
 split
 ·rename_i h
  obtain ⟨h1, h2, h3⟩ := deskOk_iff.1 (runD_ok rt l d h.1)
  have := runD_le rt l d
  exact ⟨(planOk_iff.1 h2).2.1, h3, fun p hp => (planOk_iff.1 (h1 p hp)).2.1, by omega⟩
 ·simp
end Pp
set_option maxHeartbeats 1000000 in
theorem noDesk_c (n : Int) (bs : List Bd) (ps : List Pl) (A A2 : Option Addr) (b o c b2 o2 c2 B : Nat) (w : World) (hn : bs.length ≤ 2000000) (hps : ps.length ≤ 2000000) (hpl : ∀ p ∈ ps, p.bs.length ≤ 2000000) (hB : B ≤ w.heap.size) (hR : BdsR w B b o A bs) (hP : PlsR w B b2 o2 A2 ps) :
  Calls Tryz.prog 21 #[.agg #[.int .i64 n, .slice A bs.length c, .slice A2 ps.length c2]] w fun e w' => e = .returned (.bool (sameD ⟨⟨n, bs⟩, ps⟩ ⟨⟨0, []⟩, []⟩)) ∧ Below w.heap.size w w' := by
 have hD := dkb_new (t := 37) (n := n) (c := c) (c2 := c2) (Below.refl w.heap.size w) (hR.more hB) (hP.more hB)
 have Hpl := hide hpl
 clear hR hP hB hpl
 go_enter Tryz.func21, Tryz.ntmps21
 go_upto_region 1 with fail
 generalize w.alloc (.cells #[.int .i64 n, .slice A bs.length c, .slice A2 ps.length c2] 37) = W at hD ⊢
 have p0 := hD.c0
 have p1 := hD.c1
 have p2 := hD.c2
 go_wp2_with (go_at_call 19; refine (sameDesk_any n 0 bs [] ps [] A A2 none none b o c b2 o2 c2 0 0 0 0 0 0 _ _ hn hps Hpl.out (Nat.le_refl _) hD.rd hD.rp (BdsR.nil _ _ _) (PlsR.nil _ _ _)).mono ?_; rintro e w2 ⟨rfl, hb⟩)
 go_ret
 exact ⟨rfl, bthen hD.bel hb⟩
/-- A floating box of a desk. -/
def CW (L : Nat) (z : Value) (wx : World) : Prop := ∃ V, z = .pointer (some ⟨V, 0, none⟩) ∧ L ≤ V ∧ V < wx.heap.size ∧ wx.cell? ⟨V, 0, none⟩ = some (.int .i64 0) ∧ wx.cell? ⟨V, 1, none⟩ = some (.slice none 0 0) ∧ wx.cell? ⟨V, 2, none⟩ = some (.slice none 0 0) ∧ (∀ i, wx.frozen? ⟨V, i, none⟩ = false) ∧ BoxT wx V 37
theorem CW.below {L : Nat} {z : Value} {wx w' : World} (h : CW L z wx) (hb : Below wx.heap.size wx w') : CW L z w' := by
 obtain ⟨V, h1, h2, h3, c0, c1, c2, cf, hbx⟩ := h
 exact ⟨V, h1, h2, Nat.lt_of_lt_of_le h3 hb.size, ((bcell hb).1 _ _ h3).trans c0, ((bcell hb).1 _ _ h3).trans c1, ((bcell hb).1 _ _ h3).trans c2, fun i => ((bcell hb).2 _ _ h3).trans (cf i), hbx.below h3 hb⟩
theorem cw_new {L : Nat} {wx : World} (hL : L ≤ wx.heap.size) : CW L (.pointer (some ⟨wx.heap.size, 0, none⟩)) (wx.alloc (.cells #[.int .i64 0, .slice none 0 0, .slice none 0 0] 37)) :=
 ⟨wx.heap.size, rfl, hL, by simp, by simp [go_sem], by simp [go_sem], by simp [go_sem], fun i => by simp [go_sem], ⟨_, at_new rfl⟩⟩
set_option maxHeartbeats 2000000 in
set_option maxRecDepth 100000 in
theorem lawDeskRun_c (a0 : Option Addr) (len0 cap0 : Nat) (z0 : List Int) (w : World) (hv : VR w) (w0 : RowU w a0 len0 cap0 z0) :
  Calls Tryz.prog 4 #[.slice a0 len0 cap0] w fun e w' => e = .returned (.bool true) ∧ Below w.heap.size w w' := by
 obtain ⟨hlc, hAs, hby⟩ := w0.bytes
 clear w0
 by_cases hlen : (1048576 : Int) < (len0 : Int)
 ·go_enter Tryz.func4, Tryz.ntmps4
  go_wp2_with fail
  go_ret
  exact ⟨rfl, Below.refl _ _⟩
 ·obtain ⟨rt, hrt⟩ := isRead_ex
  go_enter Tryz.func4, Tryz.ntmps4
  go_upto_region 4 with (go_at_call 16; refine (drawDeskRun_c a0 len0 cap0 z0 _ (by omega) hlc hAs hby).mono ?_; rintro e w1 ⟨v, rfl, ⟨A, c, A2, c2, d, bl, cl, ds, rfl, hDS, h8, h41, own1, ops1, ownL⟩, hW⟩)
  clear hlen hby hAs hlc
  obtain ⟨⟨n, bs⟩, ps⟩ := d
  dsimp only at own1 ops1 h8 hDS ⊢
  obtain ⟨-, d2, d3⟩ := hDS
  dsimp only at d2 d3
  have Hpl : Hid (∀ p ∈ ps, p.bs.length ≤ 2000000) := fun p hp => by have := d3 p hp; omega
  clear d3
  obtain ⟨g1, hr1⟩ := OwnB.readsA own1
  obtain ⟨g2, hr2⟩ := ops1.reads
  obtain ⟨hcl, hcl63⟩ := own_cap (show w1.ownsRow _ _ _ _ _ _ from ownL)
  have hLR : DdR w1 w1.heap.size bl 0 (some ⟨bl, 0, none⟩) ds := by
   obtain ⟨g, hg⟩ := OwnDd.reads ownL
   rcases Nat.eq_zero_or_pos ds.length with h0 | h0
   ·obtain rfl := List.eq_nil_of_length_eq_zero h0
    exact ⟨fun h => rfl, fun h => absurd h (by simp), by simp [ddCs], fun _ => rfl⟩
   ·have e := hg.addr h0
    injection e with e
    injection e with e
    subst e
    exact hg
  have hD := dkb_new (t := 37) (n := n) (c := c) (c2 := c2) hW hr1 hr2
  replace hLR := DdR.next hLR (show Below w1.heap.size w1 (w1.alloc (.cells #[.int .i64 n, .slice A bs.length c, .slice A2 ps.length c2] 37)) by go_grown)
  clear own1 ops1 ownL hr1 hr2 hW
  generalize w1.alloc (.cells #[.int .i64 n, .slice A bs.length c, .slice A2 ps.length c2] 37) = W at hD hLR ⊢
  generalize w1.heap.size = X at hD ⊢
  obtain ⟨⟨⟨⟨qn, qb⟩, qp⟩, m⟩, hDD⟩ : ∃ D, deskRun rt ⟨⟨n, bs⟩, ps⟩ ds = D := ⟨_, rfl⟩
  have hsz := run_szW (rt := rt) (d := ⟨⟨n, bs⟩, ps⟩) (l := ds)
  rw [hDD] at hsz
  obtain ⟨y1, y2, y3, y4⟩ := hsz
  dsimp only at y1 y2 y3 y4
  have Hql : Hid (∀ p ∈ qp, p.bs.length ≤ 2000000) := fun p hp => by have := y3 p hp; omega
  have himpl := fun (wq : World) (hv : VR wq) (hR : BdsR wq wq.heap.size g1 0 A bs) (hP : PlsR wq wq.heap.size g2 0 A2 ps) (hL : DdR wq wq.heap.size bl 0 (some ⟨bl, 0, none⟩) ds) => deskRun_w rt hrt n bs ps ds A A2 (some ⟨bl, 0, none⟩) g1 0 c g2 0 c2 bl 0 cl _ wq hv (show bs.length ≤ 2000000 by omega) (show ps.length ≤ 2000000 by omega) Hpl.out (show ds.length ≤ 2000000 by omega) (Nat.le_refl _) hR hP hL
  have hspec := fun (wq : World) (hR : BdsR wq wq.heap.size g1 0 A bs) (hP : PlsR wq wq.heap.size g2 0 A2 ps) (hL : DdR wq wq.heap.size bl 0 (some ⟨bl, 0, none⟩) ds) => sDeskRun_q rt hrt n bs ps ds A A2 (some ⟨bl, 0, none⟩) g1 0 c g2 0 c2 bl 0 cl _ wq (show bs.length ≤ 2000000 by omega) (show ps.length ≤ 2000000 by omega) Hpl.out (show ds.length ≤ 2000000 by omega) (Nat.le_refl _) hR hP hL
  simp only [hDD] at himpl hspec
  have Himpl := hide himpl
  have Hspec := hide hspec
  have HDD := hide hDD
  clear himpl hspec y3 hDD
  have x0 := hD.c0
  have x1 := hD.c1
  have x2 := hD.c2
  go_upto_region 5 with (go_at_call 17; refine (Himpl.out _ (hv.below hD.bel) hD.rd hD.rp hLR).mono ?_; rintro e w2 ⟨v, rfl, ⟨A3, c3, A4, c4, rfl, own2, ops2, -⟩, hb2⟩; try dsimp only at own2 ops2)
  try dsimp only at own2 ops2 ⊢
  obtain ⟨g3, hr3⟩ := OwnB.readsA own2
  obtain ⟨g4, hr4⟩ := ops2.reads
  have hQ := dkb_new (t := 37) (n := qn) (c := c3) (c2 := c4) (bthen hD.bel hb2) hr3 hr4
  have hal : Below W.heap.size W (w2.alloc (.cells #[.int .i64 qn, .slice A3 qb.length c3, .slice A4 qp.length c4] 37)) := bthen hb2 (by go_grown)
  replace hD := hD.below hal
  replace hLR := DdR.next hLR hal
  clear x0 x1 x2 own2 ops2 hr3 hr4 hal hb2
  generalize w2.alloc (.cells #[.int .i64 qn, .slice A3 qb.length c3, .slice A4 qp.length c4] 37) = W2 at hD hLR hQ ⊢
  generalize w2.heap.size = Y at hQ ⊢
  have x0 := hD.c0
  have x1 := hD.c1
  have x2 := hD.c2
  go_upto_region 6 with (go_at_call 18; refine (Hspec.out _ hD.rd hD.rp hLR).mono ?_; rintro e w3 ⟨v, rfl, ⟨A5, c5, A6, c6, rfl, own3, opt3⟩, hb3⟩; try dsimp only at own3 opt3)
  try dsimp only at own3 opt3 ⊢
  obtain ⟨g5, hr5⟩ := OwnB.readsA own3
  obtain ⟨g6, o6, hr6⟩ := opt3.reads
  have hU := dkb_new (t := 37) (n := qn) (c := c5) (c2 := c6) (bthen hD.bel hb3) hr5 hr6
  have hal : Below W2.heap.size W2 (w3.alloc (.cells #[.int .i64 qn, .slice A5 qb.length c5, .slice A6 qp.length c6] 37)) := bthen hb3 (by go_grown)
  replace hD := hD.below hal
  replace hLR := DdR.next hLR hal
  replace hQ := hQ.below hal
  clear x0 x1 x2 own3 opt3 hr5 hr6 hal hb3
  generalize w3.alloc (.cells #[.int .i64 qn, .slice A5 qb.length c5, .slice A6 qp.length c6] 37) = W3 at hD hLR hQ hU ⊢
  generalize w3.heap.size = Z at hU ⊢
  have y0 := hQ.c0
  have y1' := hQ.c1
  have y2' := hQ.c2
  have z0 := hU.c0
  have z1 := hU.c1
  have z2 := hU.c2
  have Hqq := hide (show sameD ⟨⟨qn, qb⟩, qp⟩ ⟨⟨qn, qb⟩, qp⟩ = true from sameD_yes.2 rfl)
  go_upto_region 8 with (go_at_call 19; refine (sameDesk_any qn qn qb qb qp qp A3 A4 A5 A6 g3 0 c3 g4 0 c4 g5 0 c5 g6 o6 c6 _ _ (show qb.length ≤ 2000000 by omega) (show qp.length ≤ 2000000 by omega) Hql.out (Nat.le_refl _) hQ.rd hQ.rp hU.rd hU.rp).mono ?_; rintro e w4 ⟨rfl, hb4⟩; rw [Hqq.out])
  replace hD := hD.below hb4
  replace hLR := DdR.next hLR hb4
  replace hQ := hQ.below hb4
  clear hU y0 y1' y2' z0 z1 z2 hb4
  have x0 := hD.c0
  have x1 := hD.c1
  have x2 := hD.c2
  by_cases hgood : deskOk ⟨⟨n, bs⟩, ps⟩ = true ∧ ds.length ≤ 40
  ·obtain ⟨hok, h40⟩ := hgood
   have h40z : ¬ (40 : Int) < (ds.length : Int) := by omega
   have htwo := deskRun_two rt hok h40 (ds.length / 2)
   rw [HDD.out] at htwo
   obtain ⟨kk, hkk⟩ : ∃ k, ds.length / 2 = k := ⟨_, rfl⟩
   rw [hkk] at htwo
   obtain ⟨⟨⟨⟨an, ab⟩, ap⟩, pa⟩, hDa⟩ : ∃ D, deskRun rt ⟨⟨n, bs⟩, ps⟩ (ds.take kk) = D := ⟨_, rfl⟩
   rw [hDa] at htwo
   obtain ⟨⟨Dc, pc⟩, hDc⟩ : ∃ D, deskRun rt ⟨⟨an, ab⟩, ap⟩ (ds.drop kk) = D := ⟨_, rfl⟩
   dsimp only at htwo
   rw [hDc] at htwo
   obtain ⟨hxok, hce, hpq⟩ := htwo
   dsimp only at hxok hce hpq
   subst hce
   have Hxok := hide hxok
   have Hok := hide hok
   have sza := run_szW (rt := rt) (d := ⟨⟨n, bs⟩, ps⟩) (l := ds.take kk)
   rw [hDa] at sza
   obtain ⟨s1, s2, s3, s4⟩ := sza
   dsimp only at s1 s2 s3 s4
   have Hal : Hid (∀ p ∈ ap, p.bs.length ≤ 2000000) := fun p hp => by have := s3 p hp; omega
   have hka : kk ≤ ds.length := by omega
   have htl : (ds.take kk).length = kk := by rw [List.length_take]; omega
   have hdl : (ds.drop kk).length = ds.length - kk := List.length_drop
   have hpqz : (pa : Int) + (pc : Int) = (m : Int) := by omega
   have hkz : (ds.length : Int) / 2 = (kk : Int) := by omega
   have hkc : kk ≤ cl := by omega
   have hkcz : (kk : Int) ≤ (cl : Int) := by omega
   have hkk0 : (0 : Int) ≤ (kk : Int) := by omega
   have himplA : ∀ wq, VR wq → BdsR wq wq.heap.size g1 0 A bs → PlsR wq wq.heap.size g2 0 A2 ps → DdR wq wq.heap.size bl 0 (some ⟨bl, 0, none⟩) (ds.take kk) → Calls Tryz.prog 17 #[.agg #[.int .i64 n, .slice A bs.length c, .slice A2 ps.length c2], .slice (some ⟨bl, 0, none⟩) kk cl] wq fun e w' => ∃ v, e = .returned v ∧ DkT wq w' ⟨⟨an, ab⟩, ap⟩ pa v ∧ Below wq.heap.size wq w' := fun wq hv hR hP hL => by
    have h := deskRun_w rt hrt n bs ps (ds.take kk) A A2 (some ⟨bl, 0, none⟩) g1 0 c g2 0 c2 bl 0 cl _ wq hv (show bs.length ≤ 2000000 by omega) (show ps.length ≤ 2000000 by omega) Hpl.out (by rw [htl]; omega) (Nat.le_refl _) hR hP hL
    rw [hDa, htl] at h
    exact h
   have HimplA := hide himplA
   clear himplA
   go_upto_region 11 with (go_at_call 20; go_fit (sDeskOk_c n bs ps A A2 g1 0 c g2 0 c2 _ _ (show bs.length ≤ 2000000 by omega) (show ps.length ≤ 2000000 by omega) Hpl.out (Nat.le_refl _) hD.rd hD.rp); rintro e w5 ⟨rfl, hb5⟩; rw [Hok.out])
   replace hb5 := bthen hb5 (show Below w5.heap.size w5 w5.drew by go_grown)
   replace hD := hD.below hb5
   replace hLR := DdR.next hLR hb5
   replace hQ := hQ.below hb5
   clear x0 x1 x2 hb5
   obtain ⟨wd, hwd⟩ : ∃ wd, w5.drew = wd := ⟨_, rfl⟩
   rw [hwd] at hD hLR hQ
   obtain ⟨L, hLd⟩ : ∃ L, wd.heap.size = L := ⟨_, rfl⟩
   have HLd := hide hLd
   have hD' := fun (wx : World) (h : Below wd.heap.size wd wx) => hD.below h
   have hL' := fun (wx : World) (h : Below wd.heap.size wd wx) => DdR.next hLR h
   have hQ' := fun (wx : World) (h : Below wd.heap.size wd wx) => hQ.below h
   rw [hLd] at hD' hL' hQ'
   have hwL : w.heap.size ≤ L := by rw [← hLd]; exact hD.bel.size
   have HD := hide hD'
   have HL := hide hL'
   have HQ := hide hQ'
   clear hLd hD' hL' hQ' hD hLR hQ
   have HP : Hid (∀ wx, Below L wd wx → (wx.cell? ⟨X, 0, none⟩ = some (.int .i64 n) ∧ wx.cell? ⟨X, 1, none⟩ = some (.slice A bs.length c) ∧ wx.cell? ⟨X, 2, none⟩ = some (.slice A2 ps.length c2))) := fun wx h => ⟨(HD.out wx h).c0, (HD.out wx h).c1, (HD.out wx h).c2⟩
   refine wp_regionE (fun w' => (w'.cell? ⟨X, 0, none⟩ = some (.int .i64 n) ∧ w'.cell? ⟨X, 1, none⟩ = some (.slice A bs.length c) ∧ w'.cell? ⟨X, 2, none⟩ = some (.slice A2 ps.length c2))) 10 (by kernel_rfl) ?_
   change wpE _ _ _ _ _ _ 11 #[false, false, false, false, false, false, false, false, false, false, false] _ _
   rw [hwd]
   clear hwd
   have hJ : Below L wd wd := Below.refl _ _
   have hS0 := HP.out _ hJ
   refine wpE_tk (v := ?_) 0 [4, 9, 10] (hy := ?_) (hS := hS0) (h := ?_)
   rotate_left
   ·intro w' hSw
    simp only [xg0, xg1, xg2]
    go_simp
    all_goals with_reducible rfl
   simp only [xg0, xg1, xg2, Act.put, xs0, xs1, xs2]
   refine wpE_tk (v := ?_) 1 [3, 4, 9, 10] (hy := ?_) (hS := hS0) (h := ?_)
   rotate_left
   ·intro w' hSw
    simp only [xg0, xg1, xg2]
    go_simp
    all_goals with_reducible rfl
   simp only [xg0, xg1, xg2, Act.put, xs0, xs1, xs2]
   refine wpE_tk (v := ?_) 2 [3, 4, 9, 10] (hy := ?_) (hS := hS0) (h := ?_)
   rotate_left
   ·intro w' hSw
    simp only [xg0, xg1, xg2]
    go_simp
    all_goals with_reducible rfl
   simp only [xg0, xg1, xg2, Act.put, xs0, xs1, xs2]
   refine wpE_tk (v := ?_) 3 [4, 9, 10] (hy := ?_) (hS := hS0) (h := ?_)
   rotate_left
   ·intro w' hSw
    simp only [xg0, xg1, xg2]
    go_simp
    all_goals with_reducible rfl
   simp only [xg0, xg1, xg2, Act.put, xs0, xs1, xs2]
   refine wpF_start 8 10 (fun wx => Below L wd wx) (fun z wx => CW L z wx) (of_decide_eq_true (by kernel_rfl)) rfl hJ (fun fl z hB => ?_)
   simp only [Act.put, xs0, xs1, xs2]
   apply wpF_step (f := 8) (fl := fl) (z := z) (J := fun wx => Below L wd wx) (B := fun z wx => CW L z wx) 4
   case hi => exact of_decide_eq_true (by kernel_rfl)
   case hg => kernel_rfl
   case hr0 => kernel_rfl
   case hr1 => kernel_rfl
   case hL => kernel_rfl
   case hJ => exact hJ
   case hB => exact hB
   case hF =>
    refine floats_of (of_decide_eq_true (by kernel_rfl)) (by kernel_rfl) (by kernel_rfl) HP.out ?_
    clear hS0 hJ hB
    intro z wx hJ K hK
    simp only [xg0, xg1, xg2]
    go_simp
    exact hK.out _ _ (hJ.trans (show Below L wx _ from (show Below wx.heap.size wx _ by go_grown).mono (by have := hJ.size; have := HLd.out; omega))) (cw_new (by have := hJ.size; have := HLd.out; omega))
   clear hS0 hJ hB
   intro fl z wx hJ hB K hK
   simp only [xg0, xg1, xg2]
   go_simp
   go_at_call 17
   refine (HimplA.out _ (hv.below (HD.out _ hJ).bel) (HD.out _ hJ).rd (HD.out _ hJ).rp (DdR.take (HL.out _ hJ) kk)).mono ?_
   rintro e w6 ⟨v, rfl, ⟨Aa, ca, Ab, cb, rfl, own5, ops5, -⟩, hb6⟩
   try dsimp only at own5 ops5
   have hsz := hJ.size
   rw [HLd.out] at hsz
   replace hB := fun h => (hB h).below hb6
   have hJ' : Below L wd w6 ∧ OwnB L w6 (.slice Aa (ab).length ca) ab ∧ OwnPs L w6 (.slice Ab (ap).length cb) ap := ⟨hJ.trans (hb6.mono hsz), own_less own5 hsz, ops5.less hsz⟩
   refine hK.out _ _ (.inr (HP.out _ hJ'.1)) ?_
   clear hK K hb6 hsz hJ own5 ops5
   have hJ := hJ'
   clear hJ'
   simp only [Act.put, xs0, xs1, xs2]
   have hS0 := HP.out _ hJ.1
   apply wpF_take (z := z) 5 [7, 10]
   case hi => exact of_decide_eq_true (by kernel_rfl)
   case hl0 => kernel_rfl
   case hl1 => kernel_rfl
   case hs => kernel_rfl
   case hf0 => kernel_rfl
   case hf1 => kernel_rfl
   case hr0 => kernel_rfl
   case hr1 => kernel_rfl
   case hQ => exact fun _ _ _ h => h
   case hg => kernel_rfl
   case hS => exact hS0
   case hy =>
    intro w' hSw
    simp only [xg0, xg1, xg2]
    go_simp
    all_goals with_reducible rfl
   simp only [xg0, xg1, xg2, Act.put, xs0, xs1, xs2]
   apply wpF_take (z := z) 6 [9, 10]
   case hi => exact of_decide_eq_true (by kernel_rfl)
   case hl0 => kernel_rfl
   case hl1 => kernel_rfl
   case hs => kernel_rfl
   case hf0 => kernel_rfl
   case hf1 => kernel_rfl
   case hr0 => kernel_rfl
   case hr1 => kernel_rfl
   case hQ => exact fun _ _ _ h => h
   case hg => kernel_rfl
   case hS => exact hS0
   case hy =>
    intro w' hSw
    simp only [xg0, xg1, xg2]
    go_simp
    all_goals with_reducible rfl
   simp only [xg0, xg1, xg2, Act.put, xs0, xs1, xs2]
   apply wpF_take (z := z) 7 [10]
   case hi => exact of_decide_eq_true (by kernel_rfl)
   case hl0 => kernel_rfl
   case hl1 => kernel_rfl
   case hs => kernel_rfl
   case hf0 => kernel_rfl
   case hf1 => kernel_rfl
   case hr0 => kernel_rfl
   case hr1 => kernel_rfl
   case hQ => exact fun _ _ _ h => h
   case hg => kernel_rfl
   case hS => exact hS0
   case hy =>
    intro w' hSw
    simp only [xg0, xg1, xg2]
    go_simp
    all_goals with_reducible rfl
   simp only [xg0, xg1, xg2, Act.put, xs0, xs1, xs2]
   apply wpF_end (f := 8) (fl := fl) (z := z) (J := fun wx => Below L wd wx ∧ OwnB L wx (.slice Aa (ab).length ca) ab ∧ OwnPs L wx (.slice Ab (ap).length cb) ap) (B := fun z wx => CW L z wx)
   case hr0 => kernel_rfl
   case hL => kernel_rfl
   case hJ => exact hJ
   case hB => exact hB
   case hF =>
    refine floats_of (of_decide_eq_true (by kernel_rfl)) (by kernel_rfl) (by kernel_rfl) (fun wx h => HP.out wx h.1) ?_
    clear hJ hB hS0
    intro z wx hJ K hK
    simp only [xg0, xg1, xg2]
    go_simp
    exact hK.out _ _ ⟨hJ.1.trans (show Below L wx _ from (show Below wx.heap.size wx _ by go_grown).mono (by have := hJ.1.size; have := HLd.out; omega)), own_below hJ.2.1 (by go_grown), hJ.2.2.below (by go_grown)⟩ (cw_new (by have := hJ.1.size; have := HLd.out; omega))
   clear hJ hB hS0
   intro z wx hJ hB
   obtain ⟨V, rfl, hV, hVs, v0, v1, v2, vf, hbV⟩ := hB
   obtain ⟨hJ, own5, ops5⟩ := hJ
   have vf0 := vf 0
   have vf1 := vf 1
   have vf2 := vf 2
   obtain ⟨q0, q1, q2⟩ := three_cellsD (a := .int .i64 an) (b := .slice Aa (ab).length ca) (d := .slice Ab (ap).length cb) v0 v1 v2
   have hbV1 := hbV.set 0 (.int .i64 an)
   have hbV2 := hbV1.set 1 (.slice Aa (ab).length ca)
   have hJ9 : Below L wd (((wx.setCell ⟨V, 0, none⟩ (.int .i64 an)).setCell ⟨V, 1, none⟩ (.slice Aa (ab).length ca)).setCell ⟨V, 2, none⟩ (.slice Ab (ap).length cb)) := ((hJ.setCell (p := ⟨V, 0, none⟩) hV _).setCell (p := ⟨V, 1, none⟩) hV _).setCell (p := ⟨V, 2, none⟩) hV _
   have own9 := ((own5.setBox hbV 0 (.int .i64 an)).setBox hbV1 1 (.slice Aa (ab).length ca)).setBox hbV2 2 (.slice Ab (ap).length cb)
   have ops9 := ((ops5.setBox hbV 0 (.int .i64 an)).setBox hbV1 1 (.slice Aa (ab).length ca)).setBox hbV2 2 (.slice Ab (ap).length cb)
   have hVs9 : V < (((wx.setCell ⟨V, 0, none⟩ (.int .i64 an)).setCell ⟨V, 1, none⟩ (.slice Aa (ab).length ca)).setCell ⟨V, 2, none⟩ (.slice Ab (ap).length cb)).heap.size := by simpa using hVs
   refine wpE_step' 9 (of_decide_eq_true (by kernel_rfl)) (by kernel_rfl) (by kernel_rfl) (fun K hK => ?_)
   simp only [xg0, xg1, xg2]
   go_simp
   refine hK.out _ _ (.inr (HP.out _ hJ9)) ?_
   clear hK K v0 v1 v2 vf vf0 vf1 vf2 hJ own5 ops5 hbV hbV1 hbV2 hVs
   simp only [Act.put, xs0, xs1, xs2]
   generalize ((wx.setCell ⟨V, 0, none⟩ (.int .i64 an)).setCell ⟨V, 1, none⟩ (.slice Aa (ab).length ca)).setCell ⟨V, 2, none⟩ (.slice Ab (ap).length cb) = w9 at q0 q1 q2 hJ9 own9 ops9 hVs9 ⊢
   refine wpE_step' 10 (of_decide_eq_true (by kernel_rfl)) (by kernel_rfl) (by kernel_rfl) (fun K hK => ?_)
   simp only [xg0, xg1, xg2]
   go_simp
   refine hK.out _ _ (.inl rfl) ?_
   clear hK K HP
   simp only [Act.put, xs0, xs1, xs2]
   refine wpE_done (by kernel_rfl) ?_ _
   obtain ⟨e1, hrA⟩ := own9.readsA
   obtain ⟨e2, hrB⟩ := ops9.reads
   clear own9 ops9
   have hA : DkB w w9 V an e1 0 Aa ca ab e2 0 Ab cb ap := ⟨(HD.out _ hJ9).bel, Nat.le_trans hwL hV, hVs9, q0, q1, q2, hrA, hrB⟩
   have hLR := HL.out _ hJ9
   have hQ := HQ.out _ hJ9
   clear q0 q1 q2 hrA hrB hVs9 hJ9 HD HL HQ HLd hV
   have himplB : ∀ wq (AL : Option Addr) (cq : Nat), VR wq → BdsR wq wq.heap.size e1 0 Aa ab → PlsR wq wq.heap.size e2 0 Ab ap → DdR wq wq.heap.size bl (0 + kk * 5) AL (ds.drop kk) → Calls Tryz.prog 17 #[.agg #[.int .i64 an, .slice Aa ab.length ca, .slice Ab ap.length cb], .slice AL (ds.length - kk) cq] wq fun e w' => ∃ v, e = .returned v ∧ DkT wq w' ⟨⟨qn, qb⟩, qp⟩ pc v ∧ Below wq.heap.size wq w' := fun wq AL cq hv hR hP hL => by
    have h := deskRun_w rt hrt an ab ap (ds.drop kk) Aa Ab AL e1 0 ca e2 0 cb bl (0 + kk * 5) cq _ wq hv (show ab.length ≤ 2000000 by omega) (show ap.length ≤ 2000000 by omega) Hal.out (by rw [hdl]; omega) (Nat.le_refl _) hR hP hL
    rw [hDc, hdl] at h
    exact h
   have HimplB := hide himplB
   clear himplB
   have hkd : (kk : Int) ≤ (ds.length : Int) := by omega
   have hdc : (ds.length : Int) ≤ (cl : Int) := by omega
   go_upto_region 12 with fail
   have hb5 : Below w9.heap.size w9 w9.drew := by go_grown
   replace hA := hA.below hb5
   replace hLR := DdR.next hLR hb5
   replace hQ := hQ.below hb5
   clear hb5
   obtain ⟨wd, hwd⟩ : ∃ wd, w9.drew = wd := ⟨_, rfl⟩
   rw [hwd] at hA hLR hQ
   obtain ⟨L, hLd⟩ : ∃ L, wd.heap.size = L := ⟨_, rfl⟩
   have HLd := hide hLd
   have hA' := fun (wx : World) (h : Below wd.heap.size wd wx) => hA.below h
   have hL' := fun (wx : World) (h : Below wd.heap.size wd wx) => DdR.next hLR h
   have hQ' := fun (wx : World) (h : Below wd.heap.size wd wx) => hQ.below h
   rw [hLd] at hA' hL' hQ'
   have hwL : w.heap.size ≤ L := by rw [← hLd]; exact hA.bel.size
   have HA := hide hA'
   have HL := hide hL'
   have HQ := hide hQ'
   clear hLd hA' hL' hQ' hA hLR hQ
   have HP : Hid (∀ wx, Below L wd wx → (wx.cell? ⟨V, 0, none⟩ = some (.int .i64 an) ∧ wx.cell? ⟨V, 1, none⟩ = some (.slice Aa ab.length ca) ∧ wx.cell? ⟨V, 2, none⟩ = some (.slice Ab ap.length cb))) := fun wx h => ⟨(HA.out wx h).c0, (HA.out wx h).c1, (HA.out wx h).c2⟩
   generalize V = V1 at HP HA
   by_cases hck : cl = kk
   ·have hz : cl - kk = 0 := by omega
    have Hz : Hid (kk = 0 ∧ ds.length = 0 ∧ cl = 0) := by unfold Hid; omega
    clear hck
    refine wp_regionE (fun w' => (w'.cell? ⟨V1, 0, none⟩ = some (.int .i64 an) ∧ w'.cell? ⟨V1, 1, none⟩ = some (.slice Aa ab.length ca) ∧ w'.cell? ⟨V1, 2, none⟩ = some (.slice Ab ap.length cb))) 10 (by kernel_rfl) ?_
    change wpE _ _ _ _ _ _ 11 #[false, false, false, false, false, false, false, false, false, false, false] _ _
    rw [hwd]
    clear hwd
    have hJ : Below L wd wd := Below.refl _ _
    have hS0 := HP.out _ hJ
    refine wpE_tk (v := ?_) 0 [4, 9, 10] (hy := ?_) (hS := hS0) (h := ?_)
    rotate_left
    ·intro w' hSw
     simp only [xg0, xg1, xg2]
     go_simp
     all_goals with_reducible rfl
    simp only [xg0, xg1, xg2, Act.put, xs0, xs1, xs2]
    refine wpE_tk (v := ?_) 1 [3, 4, 9, 10] (hy := ?_) (hS := hS0) (h := ?_)
    rotate_left
    ·intro w' hSw
     simp only [xg0, xg1, xg2]
     go_simp
     all_goals with_reducible rfl
    simp only [xg0, xg1, xg2, Act.put, xs0, xs1, xs2]
    refine wpE_tk (v := ?_) 2 [3, 4, 9, 10] (hy := ?_) (hS := hS0) (h := ?_)
    rotate_left
    ·intro w' hSw
     simp only [xg0, xg1, xg2]
     go_simp
     all_goals with_reducible rfl
    simp only [xg0, xg1, xg2, Act.put, xs0, xs1, xs2]
    refine wpE_tk (v := ?_) 3 [4, 9, 10] (hy := ?_) (hS := hS0) (h := ?_)
    rotate_left
    ·intro w' hSw
     simp only [xg0, xg1, xg2]
     go_simp
     all_goals with_reducible rfl
    simp only [xg0, xg1, xg2, Act.put, xs0, xs1, xs2]
    refine wpF_start 8 12 (fun wx => Below L wd wx) (fun z wx => CW L z wx) (of_decide_eq_true (by kernel_rfl)) rfl hJ (fun fl z hB => ?_)
    simp only [Act.put, xs0, xs1, xs2]
    apply wpF_step (f := 8) (fl := fl) (z := z) (J := fun wx => Below L wd wx) (B := fun z wx => CW L z wx) 4
    case hi => exact of_decide_eq_true (by kernel_rfl)
    case hg => kernel_rfl
    case hr0 => kernel_rfl
    case hr1 => kernel_rfl
    case hL => kernel_rfl
    case hJ => exact hJ
    case hB => exact hB
    case hF =>
     refine floats_of (of_decide_eq_true (by kernel_rfl)) (by kernel_rfl) (by kernel_rfl) HP.out ?_
     clear hS0 hJ hB
     intro z wx hJ K hK
     simp only [xg0, xg1, xg2]
     go_simp
     exact hK.out _ _ (hJ.trans (show Below L wx _ from (show Below wx.heap.size wx _ by go_grown).mono (by have := hJ.size; have := HLd.out; omega))) (cw_new (by have := hJ.size; have := HLd.out; omega))
    clear hS0 hJ hB
    intro fl z wx hJ hB K hK
    simp only [xg0, xg1, xg2]
    go_simp
    go_at_call 17
    refine (HimplB.out _ (if cl = kk then some ⟨bl, 0, none⟩ else some ⟨bl, kk * 5, none⟩) 0 (hv.below (HA.out _ hJ).bel) (HA.out _ hJ).rd (HA.out _ hJ).rp (DdR.drop (HL.out _ hJ) kk (fun h => absurd h (by have := Hz.out; omega)))).mono ?_
    rintro e w6 ⟨v, rfl, ⟨Aa, ca, Ab, cb, rfl, own5, ops5, -⟩, hb6⟩
    try dsimp only at own5 ops5
    have hsz := hJ.size
    rw [HLd.out] at hsz
    replace hB := fun h => (hB h).below hb6
    have hJ' : Below L wd w6 ∧ OwnB L w6 (.slice Aa (qb).length ca) qb ∧ OwnPs L w6 (.slice Ab (qp).length cb) qp := ⟨hJ.trans (hb6.mono hsz), own_less own5 hsz, ops5.less hsz⟩
    refine hK.out _ _ (.inr (HP.out _ hJ'.1)) ?_
    clear hK K hb6 hsz hJ own5 ops5
    have hJ := hJ'
    clear hJ'
    simp only [Act.put, xs0, xs1, xs2]
    have hS0 := HP.out _ hJ.1
    apply wpF_take (z := z) 5 [7, 10]
    case hi => exact of_decide_eq_true (by kernel_rfl)
    case hl0 => kernel_rfl
    case hl1 => kernel_rfl
    case hs => kernel_rfl
    case hf0 => kernel_rfl
    case hf1 => kernel_rfl
    case hr0 => kernel_rfl
    case hr1 => kernel_rfl
    case hQ => exact fun _ _ _ h => h
    case hg => kernel_rfl
    case hS => exact hS0
    case hy =>
     intro w' hSw
     simp only [xg0, xg1, xg2]
     go_simp
     all_goals with_reducible rfl
    simp only [xg0, xg1, xg2, Act.put, xs0, xs1, xs2]
    apply wpF_take (z := z) 6 [9, 10]
    case hi => exact of_decide_eq_true (by kernel_rfl)
    case hl0 => kernel_rfl
    case hl1 => kernel_rfl
    case hs => kernel_rfl
    case hf0 => kernel_rfl
    case hf1 => kernel_rfl
    case hr0 => kernel_rfl
    case hr1 => kernel_rfl
    case hQ => exact fun _ _ _ h => h
    case hg => kernel_rfl
    case hS => exact hS0
    case hy =>
     intro w' hSw
     simp only [xg0, xg1, xg2]
     go_simp
     all_goals with_reducible rfl
    simp only [xg0, xg1, xg2, Act.put, xs0, xs1, xs2]
    apply wpF_take (z := z) 7 [10]
    case hi => exact of_decide_eq_true (by kernel_rfl)
    case hl0 => kernel_rfl
    case hl1 => kernel_rfl
    case hs => kernel_rfl
    case hf0 => kernel_rfl
    case hf1 => kernel_rfl
    case hr0 => kernel_rfl
    case hr1 => kernel_rfl
    case hQ => exact fun _ _ _ h => h
    case hg => kernel_rfl
    case hS => exact hS0
    case hy =>
     intro w' hSw
     simp only [xg0, xg1, xg2]
     go_simp
     all_goals with_reducible rfl
    simp only [xg0, xg1, xg2, Act.put, xs0, xs1, xs2]
    apply wpF_end (f := 8) (fl := fl) (z := z) (J := fun wx => Below L wd wx ∧ OwnB L wx (.slice Aa (qb).length ca) qb ∧ OwnPs L wx (.slice Ab (qp).length cb) qp) (B := fun z wx => CW L z wx)
    case hr0 => kernel_rfl
    case hL => kernel_rfl
    case hJ => exact hJ
    case hB => exact hB
    case hF =>
     refine floats_of (of_decide_eq_true (by kernel_rfl)) (by kernel_rfl) (by kernel_rfl) (fun wx h => HP.out wx h.1) ?_
     clear hJ hB hS0
     intro z wx hJ K hK
     simp only [xg0, xg1, xg2]
     go_simp
     exact hK.out _ _ ⟨hJ.1.trans (show Below L wx _ from (show Below wx.heap.size wx _ by go_grown).mono (by have := hJ.1.size; have := HLd.out; omega)), own_below hJ.2.1 (by go_grown), hJ.2.2.below (by go_grown)⟩ (cw_new (by have := hJ.1.size; have := HLd.out; omega))
    clear hJ hB hS0
    intro z wx hJ hB
    obtain ⟨V, rfl, hV, hVs, v0, v1, v2, vf, hbV⟩ := hB
    obtain ⟨hJ, own5, ops5⟩ := hJ
    have vf0 := vf 0
    have vf1 := vf 1
    have vf2 := vf 2
    obtain ⟨q0, q1, q2⟩ := three_cellsD (a := .int .i64 qn) (b := .slice Aa (qb).length ca) (d := .slice Ab (qp).length cb) v0 v1 v2
    have hbV1 := hbV.set 0 (.int .i64 qn)
    have hbV2 := hbV1.set 1 (.slice Aa (qb).length ca)
    have hJ9 : Below L wd (((wx.setCell ⟨V, 0, none⟩ (.int .i64 qn)).setCell ⟨V, 1, none⟩ (.slice Aa (qb).length ca)).setCell ⟨V, 2, none⟩ (.slice Ab (qp).length cb)) := ((hJ.setCell (p := ⟨V, 0, none⟩) hV _).setCell (p := ⟨V, 1, none⟩) hV _).setCell (p := ⟨V, 2, none⟩) hV _
    have own9 := ((own5.setBox hbV 0 (.int .i64 qn)).setBox hbV1 1 (.slice Aa (qb).length ca)).setBox hbV2 2 (.slice Ab (qp).length cb)
    have ops9 := ((ops5.setBox hbV 0 (.int .i64 qn)).setBox hbV1 1 (.slice Aa (qb).length ca)).setBox hbV2 2 (.slice Ab (qp).length cb)
    have hVs9 : V < (((wx.setCell ⟨V, 0, none⟩ (.int .i64 qn)).setCell ⟨V, 1, none⟩ (.slice Aa (qb).length ca)).setCell ⟨V, 2, none⟩ (.slice Ab (qp).length cb)).heap.size := by simpa using hVs
    refine wpE_step' 9 (of_decide_eq_true (by kernel_rfl)) (by kernel_rfl) (by kernel_rfl) (fun K hK => ?_)
    simp only [xg0, xg1, xg2]
    go_simp
    refine hK.out _ _ (.inr (HP.out _ hJ9)) ?_
    clear hK K v0 v1 v2 vf vf0 vf1 vf2 hJ own5 ops5 hbV hbV1 hbV2 hVs
    simp only [Act.put, xs0, xs1, xs2]
    generalize ((wx.setCell ⟨V, 0, none⟩ (.int .i64 qn)).setCell ⟨V, 1, none⟩ (.slice Aa (qb).length ca)).setCell ⟨V, 2, none⟩ (.slice Ab (qp).length cb) = w9 at q0 q1 q2 hJ9 own9 ops9 hVs9 ⊢
    refine wpE_step' 10 (of_decide_eq_true (by kernel_rfl)) (by kernel_rfl) (by kernel_rfl) (fun K hK => ?_)
    simp only [xg0, xg1, xg2]
    go_simp
    refine hK.out _ _ (.inl rfl) ?_
    clear hK K HP
    simp only [Act.put, xs0, xs1, xs2]
    refine wpE_done (by kernel_rfl) ?_ _
    obtain ⟨e1, hrA⟩ := own9.readsA
    obtain ⟨e2, hrB⟩ := ops9.reads
    clear own9 ops9
    have hC : DkB w w9 V qn e1 0 Aa ca qb e2 0 Ab cb qp := ⟨(HA.out _ hJ9).bel, Nat.le_trans hwL hV, hVs9, q0, q1, q2, hrA, hrB⟩
    have hQ := HQ.out _ hJ9
    clear q0 q1 q2 hrA hrB hVs9 hJ9 HA HL HQ HLd hV
    have c0 := hC.c0
    have c1 := hC.c1
    have c2 := hC.c2
    have y0 := hQ.c0
    have y1' := hQ.c1
    have y2' := hQ.c2
    go_wp2_with (first
     | (go_at_call 23; go_fit (deskOk_c qn qb qp A3 A4 g3 0 c3 g4 0 c4 _ _ (show qb.length ≤ 2000000 by omega) (show qp.length ≤ 2000000 by omega) Hql.out (Nat.le_refl _) hQ.rd hQ.rp); rintro e w10 ⟨rfl, hb10⟩; rw [Hxok.out]; replace hQ := hQ.below hb10; replace hC := hC.below hb10; clear c0 c1 c2 y0 y1' y2'; have c0 := hC.c0; have c1 := hC.c1; have c2 := hC.c2; have y0 := hQ.c0; have y1' := hQ.c1; have y2' := hQ.c2)
     | (go_at_call 19; refine (sameDesk_any qn qn qb qb qp qp Aa Ab A3 A4 _ _ _ _ _ _ g3 0 c3 g4 0 c4 _ _ (show qb.length ≤ 2000000 by omega) (show qp.length ≤ 2000000 by omega) Hql.out (Nat.le_refl _) hC.rd hC.rp hQ.rd hQ.rp).mono ?_; rintro e w11 ⟨rfl, hb11⟩; rw [Hqq.out]; replace hQ := hQ.below hb11))
    go_ret
    exact ⟨rfl, hQ.bel⟩
   ·have hck2 : ¬ cl - kk = 0 := by omega
    refine wp_regionE (fun w' => (w'.cell? ⟨V1, 0, none⟩ = some (.int .i64 an) ∧ w'.cell? ⟨V1, 1, none⟩ = some (.slice Aa ab.length ca) ∧ w'.cell? ⟨V1, 2, none⟩ = some (.slice Ab ap.length cb))) 10 (by kernel_rfl) ?_
    change wpE _ _ _ _ _ _ 11 #[false, false, false, false, false, false, false, false, false, false, false] _ _
    rw [hwd]
    clear hwd
    have hJ : Below L wd wd := Below.refl _ _
    have hS0 := HP.out _ hJ
    refine wpE_tk (v := ?_) 0 [4, 9, 10] (hy := ?_) (hS := hS0) (h := ?_)
    rotate_left
    ·intro w' hSw
     simp only [xg0, xg1, xg2]
     go_simp
     all_goals with_reducible rfl
    simp only [xg0, xg1, xg2, Act.put, xs0, xs1, xs2]
    refine wpE_tk (v := ?_) 1 [3, 4, 9, 10] (hy := ?_) (hS := hS0) (h := ?_)
    rotate_left
    ·intro w' hSw
     simp only [xg0, xg1, xg2]
     go_simp
     all_goals with_reducible rfl
    simp only [xg0, xg1, xg2, Act.put, xs0, xs1, xs2]
    refine wpE_tk (v := ?_) 2 [3, 4, 9, 10] (hy := ?_) (hS := hS0) (h := ?_)
    rotate_left
    ·intro w' hSw
     simp only [xg0, xg1, xg2]
     go_simp
     all_goals with_reducible rfl
    simp only [xg0, xg1, xg2, Act.put, xs0, xs1, xs2]
    refine wpE_tk (v := ?_) 3 [4, 9, 10] (hy := ?_) (hS := hS0) (h := ?_)
    rotate_left
    ·intro w' hSw
     simp only [xg0, xg1, xg2]
     go_simp
     all_goals with_reducible rfl
    simp only [xg0, xg1, xg2, Act.put, xs0, xs1, xs2]
    refine wpF_start 8 12 (fun wx => Below L wd wx) (fun z wx => CW L z wx) (of_decide_eq_true (by kernel_rfl)) rfl hJ (fun fl z hB => ?_)
    simp only [Act.put, xs0, xs1, xs2]
    apply wpF_step (f := 8) (fl := fl) (z := z) (J := fun wx => Below L wd wx) (B := fun z wx => CW L z wx) 4
    case hi => exact of_decide_eq_true (by kernel_rfl)
    case hg => kernel_rfl
    case hr0 => kernel_rfl
    case hr1 => kernel_rfl
    case hL => kernel_rfl
    case hJ => exact hJ
    case hB => exact hB
    case hF =>
     refine floats_of (of_decide_eq_true (by kernel_rfl)) (by kernel_rfl) (by kernel_rfl) HP.out ?_
     clear hS0 hJ hB
     intro z wx hJ K hK
     simp only [xg0, xg1, xg2]
     go_simp
     exact hK.out _ _ (hJ.trans (show Below L wx _ from (show Below wx.heap.size wx _ by go_grown).mono (by have := hJ.size; have := HLd.out; omega))) (cw_new (by have := hJ.size; have := HLd.out; omega))
    clear hS0 hJ hB
    intro fl z wx hJ hB K hK
    simp only [xg0, xg1, xg2]
    go_simp
    go_at_call 17
    refine (HimplB.out _ (some ⟨bl, kk * 5, none⟩) (cl - kk) (hv.below (HA.out _ hJ).bel) (HA.out _ hJ).rd (HA.out _ hJ).rp (DdR.drop (HL.out _ hJ) kk (fun _ => by rw [Nat.zero_add]))).mono ?_
    rintro e w6 ⟨v, rfl, ⟨Aa, ca, Ab, cb, rfl, own5, ops5, -⟩, hb6⟩
    try dsimp only at own5 ops5
    have hsz := hJ.size
    rw [HLd.out] at hsz
    replace hB := fun h => (hB h).below hb6
    have hJ' : Below L wd w6 ∧ OwnB L w6 (.slice Aa (qb).length ca) qb ∧ OwnPs L w6 (.slice Ab (qp).length cb) qp := ⟨hJ.trans (hb6.mono hsz), own_less own5 hsz, ops5.less hsz⟩
    refine hK.out _ _ (.inr (HP.out _ hJ'.1)) ?_
    clear hK K hb6 hsz hJ own5 ops5
    have hJ := hJ'
    clear hJ'
    simp only [Act.put, xs0, xs1, xs2]
    have hS0 := HP.out _ hJ.1
    apply wpF_take (z := z) 5 [7, 10]
    case hi => exact of_decide_eq_true (by kernel_rfl)
    case hl0 => kernel_rfl
    case hl1 => kernel_rfl
    case hs => kernel_rfl
    case hf0 => kernel_rfl
    case hf1 => kernel_rfl
    case hr0 => kernel_rfl
    case hr1 => kernel_rfl
    case hQ => exact fun _ _ _ h => h
    case hg => kernel_rfl
    case hS => exact hS0
    case hy =>
     intro w' hSw
     simp only [xg0, xg1, xg2]
     go_simp
     all_goals with_reducible rfl
    simp only [xg0, xg1, xg2, Act.put, xs0, xs1, xs2]
    apply wpF_take (z := z) 6 [9, 10]
    case hi => exact of_decide_eq_true (by kernel_rfl)
    case hl0 => kernel_rfl
    case hl1 => kernel_rfl
    case hs => kernel_rfl
    case hf0 => kernel_rfl
    case hf1 => kernel_rfl
    case hr0 => kernel_rfl
    case hr1 => kernel_rfl
    case hQ => exact fun _ _ _ h => h
    case hg => kernel_rfl
    case hS => exact hS0
    case hy =>
     intro w' hSw
     simp only [xg0, xg1, xg2]
     go_simp
     all_goals with_reducible rfl
    simp only [xg0, xg1, xg2, Act.put, xs0, xs1, xs2]
    apply wpF_take (z := z) 7 [10]
    case hi => exact of_decide_eq_true (by kernel_rfl)
    case hl0 => kernel_rfl
    case hl1 => kernel_rfl
    case hs => kernel_rfl
    case hf0 => kernel_rfl
    case hf1 => kernel_rfl
    case hr0 => kernel_rfl
    case hr1 => kernel_rfl
    case hQ => exact fun _ _ _ h => h
    case hg => kernel_rfl
    case hS => exact hS0
    case hy =>
     intro w' hSw
     simp only [xg0, xg1, xg2]
     go_simp
     all_goals with_reducible rfl
    simp only [xg0, xg1, xg2, Act.put, xs0, xs1, xs2]
    apply wpF_end (f := 8) (fl := fl) (z := z) (J := fun wx => Below L wd wx ∧ OwnB L wx (.slice Aa (qb).length ca) qb ∧ OwnPs L wx (.slice Ab (qp).length cb) qp) (B := fun z wx => CW L z wx)
    case hr0 => kernel_rfl
    case hL => kernel_rfl
    case hJ => exact hJ
    case hB => exact hB
    case hF =>
     refine floats_of (of_decide_eq_true (by kernel_rfl)) (by kernel_rfl) (by kernel_rfl) (fun wx h => HP.out wx h.1) ?_
     clear hJ hB hS0
     intro z wx hJ K hK
     simp only [xg0, xg1, xg2]
     go_simp
     exact hK.out _ _ ⟨hJ.1.trans (show Below L wx _ from (show Below wx.heap.size wx _ by go_grown).mono (by have := hJ.1.size; have := HLd.out; omega)), own_below hJ.2.1 (by go_grown), hJ.2.2.below (by go_grown)⟩ (cw_new (by have := hJ.1.size; have := HLd.out; omega))
    clear hJ hB hS0
    intro z wx hJ hB
    obtain ⟨V, rfl, hV, hVs, v0, v1, v2, vf, hbV⟩ := hB
    obtain ⟨hJ, own5, ops5⟩ := hJ
    have vf0 := vf 0
    have vf1 := vf 1
    have vf2 := vf 2
    obtain ⟨q0, q1, q2⟩ := three_cellsD (a := .int .i64 qn) (b := .slice Aa (qb).length ca) (d := .slice Ab (qp).length cb) v0 v1 v2
    have hbV1 := hbV.set 0 (.int .i64 qn)
    have hbV2 := hbV1.set 1 (.slice Aa (qb).length ca)
    have hJ9 : Below L wd (((wx.setCell ⟨V, 0, none⟩ (.int .i64 qn)).setCell ⟨V, 1, none⟩ (.slice Aa (qb).length ca)).setCell ⟨V, 2, none⟩ (.slice Ab (qp).length cb)) := ((hJ.setCell (p := ⟨V, 0, none⟩) hV _).setCell (p := ⟨V, 1, none⟩) hV _).setCell (p := ⟨V, 2, none⟩) hV _
    have own9 := ((own5.setBox hbV 0 (.int .i64 qn)).setBox hbV1 1 (.slice Aa (qb).length ca)).setBox hbV2 2 (.slice Ab (qp).length cb)
    have ops9 := ((ops5.setBox hbV 0 (.int .i64 qn)).setBox hbV1 1 (.slice Aa (qb).length ca)).setBox hbV2 2 (.slice Ab (qp).length cb)
    have hVs9 : V < (((wx.setCell ⟨V, 0, none⟩ (.int .i64 qn)).setCell ⟨V, 1, none⟩ (.slice Aa (qb).length ca)).setCell ⟨V, 2, none⟩ (.slice Ab (qp).length cb)).heap.size := by simpa using hVs
    refine wpE_step' 9 (of_decide_eq_true (by kernel_rfl)) (by kernel_rfl) (by kernel_rfl) (fun K hK => ?_)
    simp only [xg0, xg1, xg2]
    go_simp
    refine hK.out _ _ (.inr (HP.out _ hJ9)) ?_
    clear hK K v0 v1 v2 vf vf0 vf1 vf2 hJ own5 ops5 hbV hbV1 hbV2 hVs
    simp only [Act.put, xs0, xs1, xs2]
    generalize ((wx.setCell ⟨V, 0, none⟩ (.int .i64 qn)).setCell ⟨V, 1, none⟩ (.slice Aa (qb).length ca)).setCell ⟨V, 2, none⟩ (.slice Ab (qp).length cb) = w9 at q0 q1 q2 hJ9 own9 ops9 hVs9 ⊢
    refine wpE_step' 10 (of_decide_eq_true (by kernel_rfl)) (by kernel_rfl) (by kernel_rfl) (fun K hK => ?_)
    simp only [xg0, xg1, xg2]
    go_simp
    refine hK.out _ _ (.inl rfl) ?_
    clear hK K HP
    simp only [Act.put, xs0, xs1, xs2]
    refine wpE_done (by kernel_rfl) ?_ _
    obtain ⟨e1, hrA⟩ := own9.readsA
    obtain ⟨e2, hrB⟩ := ops9.reads
    clear own9 ops9
    have hC : DkB w w9 V qn e1 0 Aa ca qb e2 0 Ab cb qp := ⟨(HA.out _ hJ9).bel, Nat.le_trans hwL hV, hVs9, q0, q1, q2, hrA, hrB⟩
    have hQ := HQ.out _ hJ9
    clear q0 q1 q2 hrA hrB hVs9 hJ9 HA HL HQ HLd hV
    have c0 := hC.c0
    have c1 := hC.c1
    have c2 := hC.c2
    have y0 := hQ.c0
    have y1' := hQ.c1
    have y2' := hQ.c2
    go_wp2_with (first
     | (go_at_call 23; go_fit (deskOk_c qn qb qp A3 A4 g3 0 c3 g4 0 c4 _ _ (show qb.length ≤ 2000000 by omega) (show qp.length ≤ 2000000 by omega) Hql.out (Nat.le_refl _) hQ.rd hQ.rp); rintro e w10 ⟨rfl, hb10⟩; rw [Hxok.out]; replace hQ := hQ.below hb10; replace hC := hC.below hb10; clear c0 c1 c2 y0 y1' y2'; have c0 := hC.c0; have c1 := hC.c1; have c2 := hC.c2; have y0 := hQ.c0; have y1' := hQ.c1; have y2' := hQ.c2)
     | (go_at_call 19; refine (sameDesk_any qn qn qb qb qp qp Aa Ab A3 A4 _ _ _ _ _ _ g3 0 c3 g4 0 c4 _ _ (show qb.length ≤ 2000000 by omega) (show qp.length ≤ 2000000 by omega) Hql.out (Nat.le_refl _) hC.rd hC.rp hQ.rd hQ.rp).mono ?_; rintro e w11 ⟨rfl, hb11⟩; rw [Hqq.out]; replace hQ := hQ.below hb11))
    go_ret
    exact ⟨rfl, hQ.bel⟩
  ·have hbad := run_bad (rt := rt) hgood
   rw [HDD.out] at hbad
   injection hbad with hb1 hb2
   have hmz : (m : Int) = 0 := by omega
   have Hnd : Hid (sameD ⟨⟨qn, qb⟩, qp⟩ ⟨⟨0, []⟩, []⟩ = true) := by rw [hb1]; exact sameD_yes.2 rfl
   clear hb1 hb2 HDD Himpl Hspec
   have y0 := hQ.c0
   have y1' := hQ.c1
   have y2' := hQ.c2
   cases hok : deskOk ⟨⟨n, bs⟩, ps⟩
   ·have Hok := hide hok
    clear hok hgood
    go_wp2_with (first
     | (go_at_call 20; go_fit (sDeskOk_c n bs ps A A2 g1 0 c g2 0 c2 _ _ (show bs.length ≤ 2000000 by omega) (show ps.length ≤ 2000000 by omega) Hpl.out (Nat.le_refl _) hD.rd hD.rp); rintro e w5 ⟨rfl, hb5⟩; rw [Hok.out]; replace hQ := hQ.below hb5; clear y0 y1' y2'; have y0 := hQ.c0; have y1' := hQ.c1; have y2' := hQ.c2)
     | (go_at_call 21; refine (noDesk_c qn qb qp A3 A4 g3 0 c3 g4 0 c4 _ _ (show qb.length ≤ 2000000 by omega) (show qp.length ≤ 2000000 by omega) Hql.out (Nat.le_refl _) hQ.rd hQ.rp).mono ?_; rintro e w6 ⟨rfl, hb6⟩; rw [Hnd.out]; replace hQ := hQ.below hb6)
     | (go_at_call 22; refine (alive_c _).mono ?_; rintro e w7 ⟨rfl, hb7⟩; replace hQ := hQ.below hb7))
    go_ret
    exact ⟨rfl, hQ.bel⟩
   ·have h40z : (40 : Int) < (ds.length : Int) := by
     have : ¬ ds.length ≤ 40 := fun h => hgood ⟨hok, h⟩
     omega
    have Hok := hide hok
    clear hok hgood
    go_wp2_with (first
     | (go_at_call 20; go_fit (sDeskOk_c n bs ps A A2 g1 0 c g2 0 c2 _ _ (show bs.length ≤ 2000000 by omega) (show ps.length ≤ 2000000 by omega) Hpl.out (Nat.le_refl _) hD.rd hD.rp); rintro e w5 ⟨rfl, hb5⟩; rw [Hok.out]; replace hQ := hQ.below hb5; clear y0 y1' y2'; have y0 := hQ.c0; have y1' := hQ.c1; have y2' := hQ.c2)
     | (go_at_call 21; refine (noDesk_c qn qb qp A3 A4 g3 0 c3 g4 0 c4 _ _ (show qb.length ≤ 2000000 by omega) (show qp.length ≤ 2000000 by omega) Hql.out (Nat.le_refl _) hQ.rd hQ.rp).mono ?_; rintro e w6 ⟨rfl, hb6⟩; rw [Hnd.out]; replace hQ := hQ.below hb6)
     | (go_at_call 22; refine (alive_c _).mono ?_; rintro e w7 ⟨rfl, hb7⟩; replace hQ := hQ.below hb7))
    go_ret
    exact ⟨rfl, hQ.bel⟩
end Go.Proofs.YtmnajkhoacogjaaGreatDoor
