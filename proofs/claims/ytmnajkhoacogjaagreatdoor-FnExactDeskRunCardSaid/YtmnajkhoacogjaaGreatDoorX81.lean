/-
 The law of ExactDeskRun: its walk.
-/
import Derived.Test.YtmnajkhoacogjaaGreatDoorX80
import Derived.Test.YtmnajkhoacogjaaGreatDoorE83
import Derived.Test.YtmnajkhoacogjaaGreatDoorL9f
namespace Go.Proofs.YtmnajkhoacogjaaGreatDoor
set_option linter.unusedVariables false
set_option linter.unusedSimpArgs false
open Go Go.RowKit Pp

namespace Pp
theorem run_sz {rt : List UInt8 → Option (List Mk)} {d : Dk} {l : List Dd} : (deskRun rt d l).1.now.bs.length ≤ 16 ∧ (deskRun rt d l).1.past.length ≤ 8 ∧ (∀ p ∈ (deskRun rt d l).1.past, p.bs.length ≤ 16) ∧ (deskRun rt d l).2 ≤ 40 := by
 unfold deskRun
 split
 ·rename_i h
  obtain ⟨h1, h2, h3⟩ := deskOk_iff.1 (runD_ok rt l d h.1)
  have := runD_le rt l d
  exact ⟨(planOk_iff.1 h2).2.1, h3, fun p hp => (planOk_iff.1 (h1 p hp)).2.1, by omega⟩
 ·simp
end Pp
/-- The arguments, and what came in with them. -/
structure EM (w W : World) (n : Int) (A : Option Addr) (b o c : Nat) (bs : List Bd) (A2 : Option Addr) (b2 o2 c2 : Nat) (ps : List Pl) (AL : Option Addr) (bl ol : Nat) (ds : List Dd) : Prop where
 bel : Below w.heap.size w W
 d : BXd W w.heap.size 27 (.int .i64 n) (.slice A bs.length c) (.slice A2 ps.length c2)
 rd : BdsR W w.heap.size b o A bs
 rp : PlsR W w.heap.size b2 o2 A2 ps
 rl : DdR W w.heap.size bl ol AL ds
section
variable {lo hi : Nat} {w W W' : World} {n : Int} {A : Option Addr} {b o c : Nat} {bs : List Bd} {A2 : Option Addr} {b2 o2 c2 : Nat} {ps : List Pl} {AL : Option Addr} {bl ol : Nat} {ds : List Dd}
theorem EM.below (h : EM w W n A b o c bs A2 b2 o2 c2 ps AL bl ol ds) (hb : Below W.heap.size W W') : EM w W' n A b o c bs A2 b2 o2 c2 ps AL bl ol ds :=
 ⟨bthen h.bel hb, h.d.below hb, h.rd.below (hb.mono h.bel.size), h.rp.below (hb.mono h.bel.size), CsR.below h.rl (hb.mono h.bel.size)⟩
theorem EM.gi (h : EM w W n A b o c bs A2 b2 o2 c2 ps AL bl ol ds) (hg : GI lo hi W W') (hlo : w.heap.size ≤ lo) : EM w W' n A b o c bs A2 b2 o2 c2 ps AL bl ol ds :=
 ⟨GI.bel h.bel hg hlo h.bel.size, h.d.gi (by decide) (by decide) (by decide) hg, h.rd.below (hg.low hlo h.bel.size), h.rp.below (hg.low hlo h.bel.size), CsR.below h.rl (hg.low hlo h.bel.size)⟩
end
set_option maxHeartbeats 8000000 in
set_option maxRecDepth 100000 in
theorem exactDeskRun_c (n : Int) (A : Option Addr) (b o c : Nat) (bs : List Bd) (A2 : Option Addr) (b2 o2 c2 : Nat) (ps : List Pl) (AL : Option Addr) (bl ol cl : Nat) (ds : List Dd) (w : World) (hv : VR w) (hbl : bs.length ≤ 9223372036854775807) (hpl : ps.length ≤ 9223372036854775807) (hpl3 : ∀ p ∈ ps, p.bs.length ≤ 9223372036854775807) (hll : ds.length ≤ 9223372036854775807) (hll3 : ∀ d ∈ ds, d.ws.length ≤ 9223372036854775807) (hR : BdsR w w.heap.size b o A bs) (hP : PlsR w w.heap.size b2 o2 A2 ps) (hL : DdR w w.heap.size bl ol AL ds) :
  Calls Tryz.prog 5 #[.agg #[.int .i64 n, .slice A bs.length c, .slice A2 ps.length c2], .slice AL ds.length cl] w fun e w' => e = .returned (.bool true) ∧ Below w.heap.size w w' := by
 have hal : Below w.heap.size w (w.alloc (.cells #[.int .i64 n, .slice A bs.length c, .slice A2 ps.length c2] 27)) := by go_grown
 have hE : EM w (w.alloc (.cells #[.int .i64 n, .slice A bs.length c, .slice A2 ps.length c2] 27)) n A b o c bs A2 b2 o2 c2 ps AL bl ol ds := ⟨hal, bxd_new, hR.below hal, hP.below hal, CsR.below hL hal⟩
 clear hal hR hP hL
 obtain ⟨R, hRq⟩ : ∃ R : Int, (if (1048576 : Int) - (bs.length : Int) < 0 then -1 else szP (1048576 - bs.length) ps) = R := ⟨_, rfl⟩
 have hcs := szDesk_cases bs ps R hRq
 have HR := hide hRq
 clear hRq
 have Hp3 := hide hpl3
 have Hl3 := hide hll3
 clear hpl3 hll3
 rcases hcs with rfl | ⟨hR0, hR1, hb0, hp0, hs0⟩
 ·go_enter Tryz.func5, Tryz.ntmps5
  go_upto_region 1 with fail
  generalize w.alloc (.cells #[.int .i64 n, .slice A bs.length c, .slice A2 ps.length c2] 27) = W at hE ⊢
  have d0 := hE.d.c0
  have d1 := hE.d.c1
  have d2 := hE.d.c2
  go_wp2_with (go_at_call 7; go_fit (szDesk_c 1048576 n A A2 b o c b2 o2 c2 _ bs ps _ (by omega) hbl hpl Hp3.out hE.bel.size hE.rd hE.rp); rintro e w2 ⟨rfl, hb⟩; rw [HR.out])
  go_ret
  exact ⟨rfl, bthen hE.bel hb⟩
 ·have hRn : ¬ R < 0 := by omega
  obtain ⟨r1, hr1⟩ : ∃ r1, szQ R ds = r1 := ⟨_, rfl⟩
  have hcs2 := szDeedS_cases R ds r1 ⟨hR0, hR1⟩ hr1
  have H := hide hr1
  clear hr1
  rcases hcs2 with rfl | ⟨hq0, hdl⟩
  ·go_enter Tryz.func5, Tryz.ntmps5
   go_upto_region 1 with fail
   generalize w.alloc (.cells #[.int .i64 n, .slice A bs.length c, .slice A2 ps.length c2] 27) = W at hE ⊢
   have d0 := hE.d.c0
   have d1 := hE.d.c1
   have d2 := hE.d.c2
   go_upto_region 5 with (go_at_call 7; go_fit (szDesk_c 1048576 n A A2 b o c b2 o2 c2 _ bs ps _ (by omega) hbl hpl Hp3.out hE.bel.size hE.rd hE.rp); rintro e w2 ⟨rfl, hb⟩; rw [HR.out]; replace hE := hE.below hb)
   clear d0 d1 d2 hb
   go_wp2_with (go_at_call 24; go_fit (szDeedS_c R AL bl ol cl _ ds _ ⟨hR0, hR1⟩ hll Hl3.out hE.bel.size hE.rl); rintro e w3 ⟨rfl, hb⟩; rw [H.out])
   go_ret
   exact ⟨rfl, bthen hE.bel hb⟩
  ·have hr1n : ¬ r1 < 0 := by omega
   have hb1 : bs.length ≤ 2000000 := by omega
   have hp1 : ps.length ≤ 2000000 := by omega
   have hs1 : sumP ps ≤ 2000000 := by omega
   have hd1 : ds.length ≤ 2000000 := by omega
   have hp2 : ∀ p ∈ ps, p.bs.length ≤ 2000000 := fun p hp => by have := sumP_mem hp; omega
   have Hp2 := hide hp2
   clear hp2
   obtain ⟨rt, hrt⟩ := isRead_ex
   obtain ⟨⟨⟨⟨n', bs'⟩, ps'⟩, m⟩, hDD⟩ : ∃ D, deskRun rt ⟨⟨n, bs⟩, ps⟩ ds = D := ⟨_, rfl⟩
   have hsz := run_sz (rt := rt) (d := ⟨⟨n, bs⟩, ps⟩) (l := ds)
   rw [hDD] at hsz
   obtain ⟨z1, z2, z3, z5⟩ := hsz
   dsimp only at z1 z2 z3 z5
   have z4 := sumP_bound z3
   have hb'1 : bs'.length ≤ 2000000 := by omega
   have hp'1 : ps'.length ≤ 2000000 := by omega
   have hs'1 : sumP ps' ≤ 2000000 := by omega
   have Hp'2 := hide (show ∀ p ∈ ps', p.bs.length ≤ 2000000 from fun p hp => by have := z3 p hp; omega)
   have hspec := fun (wq : World) (A1 A3 A5 : Option Addr) (g1 c1 g2 c3 g3 c5 : Nat) (hR : BdsR wq wq.heap.size g1 0 A1 bs) (hP : PlsR wq wq.heap.size g2 0 A3 ps) (hL : DdR wq wq.heap.size g3 0 A5 ds) => sDeskRun_q rt hrt n bs ps ds A1 A3 A5 g1 0 c1 g2 0 c3 g3 0 c5 _ wq hb1 hp1 Hp2.out hd1 (Nat.le_refl _) hR hP hL
   have himpl := fun (wq : World) (hv : VR wq) (A1 A3 A5 : Option Addr) (g1 c1 g2 c3 g3 c5 : Nat) (hR : BdsR wq wq.heap.size g1 0 A1 bs) (hP : PlsR wq wq.heap.size g2 0 A3 ps) (hL : DdR wq wq.heap.size g3 0 A5 ds) => deskRun_w rt hrt n bs ps ds A1 A3 A5 g1 0 c1 g2 0 c3 g3 0 c5 _ wq hv hb1 hp1 Hp2.out hd1 (Nat.le_refl _) hR hP hL
   simp only [hDD] at hspec himpl
   have Hspec := hide hspec
   have Himpl := hide himpl
   clear hspec himpl hDD z1 z2 z3 z4 z5 hb0 hp0 hs0
   go_enter Tryz.func5, Tryz.ntmps5
   go_upto_region 1 with fail
   generalize w.alloc (.cells #[.int .i64 n, .slice A bs.length c, .slice A2 ps.length c2] 27) = W at hE ⊢
   have d0 := hE.d.c0
   have d1 := hE.d.c1
   have d2 := hE.d.c2
   go_upto_region 5 with (go_at_call 7; go_fit (szDesk_c 1048576 n A A2 b o c b2 o2 c2 _ bs ps _ (by omega) hbl hpl Hp3.out hE.bel.size hE.rd hE.rp); rintro e w2 ⟨rfl, hb⟩; rw [HR.out]; replace hE := hE.below hb)
   clear d0 d1 d2 hb
   go_upto_region 8 with (go_at_call 24; go_fit (szDeedS_c R AL bl ol cl _ ds _ ⟨hR0, hR1⟩ hll Hl3.out hE.bel.size hE.rl); rintro e w3 ⟨rfl, hb⟩; rw [H.out]; replace hE := hE.below hb)
   clear hb H HR Hp3 Hl3
   have d0 := hE.d.c0
   have d1 := hE.d.c1
   have d2 := hE.d.c2
   go_upto_region 9 with (first
    | (go_at_call 10; refine (toDesk_q n bs ps A A2 b o c b2 o2 c2 _ _ hb1 hp1 Hp2.out hE.bel.size hE.rd hE.rp).mono ?_; rintro e w4 ⟨A1, c1, A3, c3, rfl, hT1, hb4⟩; replace hE := hE.below hb4)
    | (go_at_call 25; refine (toDeedS_c AL bl ol cl _ ds _ hd1 hE.bel.size hE.rl).mono ?_; rintro e w5 ⟨A5, c5, rfl, hD1, hb5⟩; replace hE := hE.below hb5; replace hT1 := hT1.below hb5)
    | (go_at_call 18; obtain ⟨e1, hr1⟩ := hT1.own.readsA; obtain ⟨e2, hr2⟩ := hT1.ops.reads; obtain ⟨e3, hr3⟩ := OwnDd.reads hD1; refine (Hspec.out _ A1 A3 A5 e1 c1 e2 c3 e3 c5 hr1 hr2 hr3).mono ?_; rintro e w6 ⟨v, rfl, ⟨Au, cu, Aw, cw, rfl, own6, opt6⟩, hb6⟩; replace hE := hE.below hb6; try dsimp only at own6 opt6))
   try dsimp only at own6 opt6 ⊢
   clear d0 d1 d2 hb4 hb5 hb6 hT1 hD1 hr1 hr2 hr3
   have hal : Below w6.heap.size w6 (w6.alloc (.cells #[.int .i64 n', .slice Au bs'.length cu, .slice Aw ps'.length cw] 37)) := by go_grown
   replace hE := hE.below hal
   obtain ⟨g6, hr6⟩ := own6.readsA
   obtain ⟨g7, o7, hr7⟩ := opt6.reads
   have hU : ER (w6.alloc (.cells #[.int .i64 n', .slice Au bs'.length cu, .slice Aw ps'.length cw] 37)) w6.heap.size w6.heap.size n' Au g6 0 cu bs' Aw g7 o7 cw ps' := ⟨hal.size, bxd_new, hr6.below hal, hr7.below hal⟩
   have hwB := hE.bel.size
   have hwB6 : w.heap.size ≤ w6.heap.size := by
    have h1 := boxT_lt hE.d.bx
    simp only [World.size_alloc] at h1
    omega
   clear hr6 hr7 own6 opt6 hal hwB
   generalize w6.alloc (.cells #[.int .i64 n', .slice Au bs'.length cu, .slice Aw ps'.length cw] 37) = W6 at hE hU ⊢
   generalize w6.heap.size = B6 at hU hwB6 ⊢
   have d0 := hE.d.c0
   have d1 := hE.d.c1
   have d2 := hE.d.c2
   have hBW6 := hU.hB
   go_upto_region 10 with (go_at_call 10; refine (toDesk_q n bs ps A A2 b o c b2 o2 c2 _ _ hb1 hp1 Hp2.out hE.bel.size hE.rd hE.rp).mono ?_; rintro e w8 ⟨Ax, cx, Ay, cy, rfl, hT, hb8⟩)
   have hal : Below w8.heap.size w8 (w8.alloc (.cells #[.int .i64 n, .slice Ax bs.length cx, .slice Ay ps.length cy] 37)) := by go_grown
   replace hE := (hE.below hb8).below hal
   replace hU := (hU.below hb8).below hal
   replace hT := hT.below hal
   have hX8 : BXd (w8.alloc (.cells #[.int .i64 n, .slice Ax bs.length cx, .slice Ay ps.length cy] 37)) w8.heap.size 37 (.int .i64 n) (.slice Ax bs.length cx) (.slice Ay ps.length cy) := bxd_new
   have hBX8 := hb8.size
   clear d0 d1 d2 hb8 hal
   generalize w8.alloc (.cells #[.int .i64 n, .slice Ax bs.length cx, .slice Ay ps.length cy] 37) = W8 at hE hU hT hX8 ⊢
   generalize w8.heap.size = X8 at hT hX8 hBX8 ⊢
   generalize W6.heap.size = L6 at hT hBX8 hBW6 ⊢
   have hX8l := boxT_lt hX8.bx
   go_upto_region 11 with (go_at_call 25; refine (toDeedS_c AL bl ol cl _ ds _ hd1 hE.bel.size hE.rl).mono ?_; rintro e w9 ⟨Al, c9, rfl, hL1, hb9⟩)
   have h89 := hb9.size
   replace hE := hE.below hb9
   replace hU := hU.below hb9
   replace hT := hT.below hb9
   replace hX8 := hX8.below hb9
   clear hb9
   generalize W8.heap.size = L8 at hL1 hX8l h89 ⊢
   have x0 := hX8.c0
   have x1 := hX8.c1
   have x2 := hX8.c2
   obtain ⟨e1, hr1⟩ := hT.own.readsA
   obtain ⟨e2, hr2⟩ := hT.ops.reads
   obtain ⟨e3, hr3⟩ := OwnDd.reads hL1
   have hv9 := hv.below hE.bel
   have hL1hi : ∀ k, (Value.slice Al ds.length c9).ownBlock = some k → L8 ≤ k ∧ k < w9.heap.size := fun k hk => World.ownsRow.lt hL1 k hk
   go_upto_region 12 with (go_at_call 17; refine (Himpl.out _ hv9 Ax Ay Al e1 cx e2 cy e3 c9 hr1 hr2 hr3).mono ?_; rintro e w10 ⟨v, rfl, ⟨A7, c7, A8, c8, rfl, own7, ops7, M7, dif7⟩, hb10⟩; try dsimp only at own7 ops7 dif7)
   try dsimp only at own7 ops7 dif7 ⊢
   have hG := tk_of own7 ops7 dif7
   have h910 := hb10.size
   have hal : Below w10.heap.size w10 (w10.alloc (.cells #[.int .i64 n', .slice A7 bs'.length c7, .slice A8 ps'.length c8] 37)) := by go_grown
   have hBX : BXd (w10.alloc (.cells #[.int .i64 n', .slice A7 bs'.length c7, .slice A8 ps'.length c8] 37)) w10.heap.size 37 (.int .i64 n') (.slice A7 bs'.length c7) (.slice A8 ps'.length c8) := bxd_new
   replace hE := (hE.below hb10).below hal
   replace hU := (hU.below hb10).below hal
   replace hT := (hT.below hb10).below hal
   replace hX8 := (hX8.below hb10).below hal
   replace hL1 := OwnDd.below (OwnDd.below hL1 hb10) hal
   replace hG := hG.below hal
   clear x0 x1 x2 hr1 hr2 hr3 hv9 own7 ops7 dif7 hb10 hal
   generalize w10.alloc (.cells #[.int .i64 n', .slice A7 bs'.length c7, .slice A8 ps'.length c8] 37) = W10 at hE hU hT hX8 hL1 hG hBX ⊢
   generalize w10.heap.size = V at hG hBX h910 ⊢
   generalize w9.heap.size = L at hG hL1hi h910 h89 ⊢
   have g0 := hBX.c0
   have g1 := hBX.c1
   have g2 := hBX.c2
   have u0 := hU.d.c0
   have u1 := hU.d.c1
   have u2 := hU.d.c2
   have hu1 := hU.rd.more hU.hB
   have hu2 := hU.rp.more hU.hB
   obtain ⟨gg, hrg⟩ := hG.own.readsA
   obtain ⟨gg2, hrg2⟩ := hG.ops.reads
   go_upto_region 14 with (go_at_call 13; refine (eqDesk_yes n' bs' ps' _ _ _ _ _ _ _ _ _ _ _ _ _ _ _ _ _ _ hb'1 hp'1 Hp'2.out (Nat.le_refl _) hrg hu1 hrg2 hu2).mono ?_; rintro e w11 ⟨rfl, hb11⟩)
   replace hb11 := bthen hb11 (show Below w11.heap.size w11 w11.drew by go_grown)
   replace hE := hE.below hb11
   replace hU := hU.below hb11
   replace hT := hT.below hb11
   replace hX8 := hX8.below hb11
   replace hL1 := OwnDd.below hL1 hb11
   replace hG := hG.below hb11
   replace hBX := hBX.below hb11
   clear g0 g1 g2 u0 u1 u2 hu1 hu2 hrg hrg2 hb11
   refine wp_regionE (fun w' => ((w'.cell? ⟨X8, 0, none⟩ = some (.int .i64 n) ∧ w'.cell? ⟨X8, 1, none⟩ = some (.slice Ax bs.length cx) ∧ w'.cell? ⟨X8, 2, none⟩ = some (.slice Ay ps.length cy)) ∧ w'.cell? ⟨w.heap.size, 0, none⟩ = some (.int .i64 n) ∧ w'.cell? ⟨w.heap.size, 1, none⟩ = some (.slice A bs.length c) ∧ w'.cell? ⟨w.heap.size, 2, none⟩ = some (.slice A2 ps.length c2))) 4 (by kernel_rfl) ?_
   change wpE _ _ _ _ _ _ 5 #[false, false, false, false, false] _ _
   generalize w11.drew = wd at hE hU hT hX8 hL1 hG hBX ⊢
   have hS0 : ((wd.cell? ⟨X8, 0, none⟩ = some (.int .i64 n) ∧ wd.cell? ⟨X8, 1, none⟩ = some (.slice Ax bs.length cx) ∧ wd.cell? ⟨X8, 2, none⟩ = some (.slice Ay ps.length cy)) ∧ wd.cell? ⟨w.heap.size, 0, none⟩ = some (.int .i64 n) ∧ wd.cell? ⟨w.heap.size, 1, none⟩ = some (.slice A bs.length c) ∧ wd.cell? ⟨w.heap.size, 2, none⟩ = some (.slice A2 ps.length c2)) := ⟨⟨hX8.c0, hX8.c1, hX8.c2⟩, hE.d.c0, hE.d.c1, hE.d.c2⟩
   refine wpE_tk (v := ?_) 0 [3, 4] (hy := ?_) (hS := hS0) (h := ?_)
   rotate_left
   ·intro w' hSw
    simp only [xg0, xg1, xg2]
    go_simp
    all_goals with_reducible rfl
   simp only [xg0, xg1, xg2, Act.put, xs0, xs1, xs2]
   refine wpE_tk (v := ?_) 1 [2, 3, 4] (hy := ?_) (hS := hS0) (h := ?_)
   rotate_left
   ·intro w' hSw
    simp only [xg0, xg1, xg2]
    go_simp
    all_goals with_reducible rfl
   simp only [xg0, xg1, xg2, Act.put, xs0, xs1, xs2]
   refine wpE_step' 2 (of_decide_eq_true (by kernel_rfl)) (by kernel_rfl) (by kernel_rfl) (fun K hK => ?_)
   simp only [xg0, xg1, xg2]
   go_simp
   go_at_call 10
   refine (toDesk_q n bs ps A A2 b o c b2 o2 c2 _ _ hb1 hp1 Hp2.out hE.bel.size hE.rd hE.rp).mono ?_
   rintro e w12 ⟨A1, c1, A3, c3, rfl, hT2, hb12⟩
   replace hE := hE.below hb12
   replace hU := hU.below hb12
   replace hT := hT.below hb12
   replace hX8 := hX8.below hb12
   replace hL1 := OwnDd.below hL1 hb12
   replace hG := hG.below hb12
   replace hBX := hBX.below hb12
   refine hK.out _ _ (.inr ⟨⟨hX8.c0, hX8.c1, hX8.c2⟩, hE.d.c0, hE.d.c1, hE.d.c2⟩) ?_
   clear hK K hS0 hb12
   simp only [Act.put, xs0, xs1, xs2]
   refine wpE_step' 3 (of_decide_eq_true (by kernel_rfl)) (by kernel_rfl) (by kernel_rfl) (fun K hK => ?_)
   simp only [xg0, xg1, xg2]
   go_simp
   obtain ⟨gg, hrg⟩ := hT.own.readsA
   obtain ⟨gg2, hrg2⟩ := hT.ops.reads
   obtain ⟨hh, hrh⟩ := hT2.own.readsA
   obtain ⟨hh2, hrh2⟩ := hT2.ops.reads
   go_at_call 13
   refine (eqDesk_yes n bs ps _ _ _ _ _ _ _ _ _ _ _ _ _ _ _ _ _ _ hb1 hp1 Hp2.out (Nat.le_refl _) hrg hrh hrg2 hrh2).mono ?_
   rintro e w13 ⟨rfl, hb13⟩
   replace hE := hE.below hb13
   replace hU := hU.below hb13
   replace hT := hT.below hb13
   replace hX8 := hX8.below hb13
   replace hL1 := OwnDd.below hL1 hb13
   replace hG := hG.below hb13
   replace hBX := hBX.below hb13
   refine hK.out _ _ (.inr ⟨⟨hX8.c0, hX8.c1, hX8.c2⟩, hE.d.c0, hE.d.c1, hE.d.c2⟩) ?_
   clear hK K hb13 hrg hrg2 hrh hrh2 hT2
   simp only [Act.put, xs0, xs1, xs2]
   refine wpE_step' 4 (of_decide_eq_true (by kernel_rfl)) (by kernel_rfl) (by kernel_rfl) (fun K hK => ?_)
   simp only [xg0, xg1, xg2]
   go_simp
   refine hK.out _ _ (.inl rfl) ?_
   clear hK K
   simp only [Act.put, xs0, xs1, xs2]
   refine wpE_done (by kernel_rfl) ?_ _
   go_upto_region 18 with (first
    | (go_at_call 25; refine (toDeedS_c AL bl ol cl _ ds _ hd1 hE.bel.size hE.rl).mono ?_; rintro e w14 ⟨A5, c5, rfl, hD1, hb14⟩; replace hE := hE.below hb14; replace hU := hU.below hb14; replace hT := hT.below hb14; replace hX8 := hX8.below hb14; replace hL1 := OwnDd.below hL1 hb14; replace hG := hG.below hb14; replace hBX := hBX.below hb14)
    | (go_at_call 26; obtain ⟨e3, hr3⟩ := OwnDd.reads hL1; obtain ⟨e4, hr4⟩ := OwnDd.reads hD1; refine (eqDeedS_yes ds Al A5 e3 0 c9 e4 0 c5 _ _ hd1 (Nat.le_refl _) hr3 hr4).mono ?_; rintro e w15 ⟨rfl, hb15⟩; replace hE := hE.below hb15; replace hU := hU.below hb15; replace hT := hT.below hb15; replace hX8 := hX8.below hb15; replace hL1 := OwnDd.below hL1 hb15; replace hG := hG.below hb15; replace hBX := hBX.below hb15))
   clear hb14 hb15 hr3 hr4 hD1
   have x0 := hX8.c0
   have x1 := hX8.c1
   have x2 := hX8.c2
   have hc0 := cntP_le ps ps.length hp1 hs1
   rw [List.take_length] at hc0
   have hkn : ¬ 1 + 3 * (bs.length : Int) + cntP ps + 5 * (ds.length : Int) < 0 := by omega
   have hk1 : 0 ≤ 1 + 3 * (bs.length : Int) + cntP ps ∧ 1 + 3 * (bs.length : Int) + cntP ps ≤ 100000000 := by omega
   have hc'0 := cntP_le ps' ps'.length hp'1 hs'1
   rw [List.take_length] at hc'0
   have hkn' : ¬ 1 + 3 * (bs'.length : Int) + cntP ps' < 0 := by omega
   clear hc0 hc'0
   have hLw : L6 ≤ w15.heap.size := by
    have h1 := boxT_lt hX8.bx
    omega
   go_upto_region 20 with (go_at_call 14; refine (markDesk_q n 1 L6 X8 X8 Ax Ay cx cy bs ps _ ⟨by omega, by omega⟩ hb1 hp1 hs1 hT.own hT.ops hT.dif (Nat.le_refl _) hT.hp hT.hb hLw).mono ?_; rintro e w16 ⟨rfl, hg16, -⟩)
   replace hE := hE.gi hg16 (by omega)
   replace hU := hU.gi hg16 hBW6
   replace hG := hG.gi hg16 (by omega)
   replace hBX := hBX.gi (by decide) (by decide) (by decide) hg16
   replace hL1 : OwnDd L8 w16 (.slice Al ds.length c9) ds := own_gi hL1 hg16 (by omega)
   clear hT hX8 x0 x1 x2 hg16 hLw
   go_upto_region 21 with (go_at_call 27; refine (markDeedS_c (1 + 3 * bs.length + cntP ps) L8 ds.length Al c9 (ddCs ds) _ hk1 hd1 hL1).mono ?_; rintro e w17 ⟨rfl, hgr17⟩)
   have hg17 : GI L8 L w16 w17 := gi_grown hgr17 hL1hi (fun k hk => .inr (.inr (own_boxT hL1 hk)))
   replace hE := hE.gi hg17 (by omega)
   replace hU := hU.gi hg17 (by omega)
   replace hG := hG.gi hg17 (Nat.le_refl _)
   replace hBX := hBX.gi (by decide) (by decide) (by decide) hg17
   clear hL1 hgr17 hg17 hL1hi
   have g0 := hBX.c0
   have g1 := hBX.c1
   have g2 := hBX.c2
   have u0 := hU.d.c0
   have u1 := hU.d.c1
   have u2 := hU.d.c2
   have hu1 := hU.rd.more hU.hB
   have hu2 := hU.rp.more hU.hB
   obtain ⟨gg, hrg⟩ := hG.own.readsA
   obtain ⟨gg2, hrg2⟩ := hG.ops.reads
   go_upto_region 23 with (go_at_call 13; refine (eqDesk_yes n' bs' ps' _ _ _ _ _ _ _ _ _ _ _ _ _ _ _ _ _ _ hb'1 hp'1 Hp'2.out (Nat.le_refl _) hrg hu1 hrg2 hu2).mono ?_; rintro e w18 ⟨rfl, hb18⟩)
   replace hE := hE.below hb18
   replace hU := hU.below hb18
   replace hG := hG.below hb18
   replace hBX := hBX.below hb18
   clear g0 g1 g2 u0 u1 u2 hu1 hu2 hrg hrg2 hb18
   have g0 := hBX.c0
   have g1 := hBX.c1
   have g2 := hBX.c2
   have hLw : L ≤ w18.heap.size := by have := boxT_lt hBX.bx; omega
   go_upto_region 25 with (go_at_call 14; refine (markDesk_q n' 1 L _ _ A7 A8 c7 c8 bs' ps' _ ⟨by omega, by omega⟩ hb'1 hp'1 hs'1 hG.own hG.ops hG.dif (Nat.le_refl _) hG.hp hG.hb hLw).mono ?_; rintro e w19 ⟨rfl, hg19, own15, qs, hqs, ops15⟩)
   replace hE := hE.gi hg19 (by omega)
   replace hU := hU.gi hg19 (by omega)
   replace hBX := hBX.gi (by decide) (by decide) (by decide) hg19
   clear hG g0 g1 g2 hg19 hLw
   have g0 := hBX.c0
   have g1 := hBX.c1
   have g2 := hBX.c2
   obtain ⟨gm, hrm⟩ : ∃ g, BdsR w19 w19.heap.size g 0 A7 (marks 1 bs'.length) := OwnB.readsA (c := c7) (by rw [marks_length]; exact own15)
   obtain ⟨gq, hrq⟩ : ∃ g, PlsR w19 w19.heap.size g 0 A8 qs := OwnPs.reads (c := c8) (by rw [hqs.1]; exact ops15)
   have Hqs := hide hqs
   clear hqs
   go_upto_region 31 with (go_at_call 15; refine (heldDesk_c n' 1 A7 A8 gm 0 c7 gq 0 c8 bs'.length ps' qs _ ⟨by omega, by omega⟩ hb'1 hp'1 hs'1 Hqs.out hrm hrq).mono ?_; rintro e w20 ⟨rfl, hb20⟩)
   replace hE := hE.below hb20
   replace hU := hU.below hb20
   replace hBX := hBX.below hb20
   replace own15 := own_below own15 hb20
   replace ops15 := ops15.below hb20
   clear g0 g1 g2 hrm hrq hb20
   have d0 := hE.d.c0
   have d1 := hE.d.c1
   have d2 := hE.d.c2
   go_upto_region 32 with (first
    | (go_at_call 10; refine (toDesk_q n bs ps A A2 b o c b2 o2 c2 _ _ hb1 hp1 Hp2.out hE.bel.size hE.rd hE.rp).mono ?_; rintro e w21 ⟨A1, c1, A3, c3, rfl, hT1, hb21⟩; replace hE := hE.below hb21; replace hU := hU.below hb21; replace hBX := hBX.below hb21; replace own15 := own_below own15 hb21; replace ops15 := ops15.below hb21)
    | (go_at_call 25; refine (toDeedS_c AL bl ol cl _ ds _ hd1 hE.bel.size hE.rl).mono ?_; rintro e w22 ⟨A5, c5, rfl, hD1, hb22⟩; replace hE := hE.below hb22; replace hU := hU.below hb22; replace hBX := hBX.below hb22; replace own15 := own_below own15 hb22; replace ops15 := ops15.below hb22; replace hT1 := hT1.below hb22)
    | (go_at_call 17; obtain ⟨e1, hr1⟩ := hT1.own.readsA; obtain ⟨e2, hr2⟩ := hT1.ops.reads; obtain ⟨e3, hr3⟩ := OwnDd.reads hD1; refine (Himpl.out _ (hv.below hE.bel) A1 A3 A5 e1 c1 e2 c3 e3 c5 hr1 hr2 hr3).mono ?_; rintro e w23 ⟨v, rfl, ⟨Ah, ch, Aq, cq, rfl, own9, opt9, -⟩, hb23⟩; replace hE := hE.below hb23; replace hU := hU.below hb23; replace hBX := hBX.below hb23; replace own15 := own_below own15 hb23; replace ops15 := ops15.below hb23; try dsimp only at own9 opt9))
   try dsimp only at own9 opt9 ⊢
   have hal : Below w23.heap.size w23 (w23.alloc (.cells #[.int .i64 n', .slice Ah bs'.length ch, .slice Aq ps'.length cq] 37)) := by go_grown
   have hB9 := hBX.below hal
   have hC := bxd_new (W := w23) (t := 37) (v0 := .int .i64 n') (v1 := .slice Ah bs'.length ch) (v2 := .slice Aq ps'.length cq)
   replace hE := hE.below hal
   replace hU := hU.below hal
   replace own15 := own_below own15 hal
   replace ops15 := ops15.below hal
   obtain ⟨gg, hrg⟩ := (show OwnB _ _ (.slice Ah bs'.length ch) bs' from own_below own9 hal).readsA
   obtain ⟨gg2, hrg2⟩ := (opt9.below hal).reads
   clear d0 d1 d2 hb21 hb22 hb23 hT1 hD1 hr1 hr2 hr3 hBX own9 opt9 hal
   generalize w23.alloc (.cells #[.int .i64 n', .slice Ah bs'.length ch, .slice Aq ps'.length cq] 37) = W24 at hE hU hB9 hC own15 ops15 hrg hrg2 ⊢
   generalize w23.heap.size = X24 at hC ⊢
   have g0 := hC.c0
   have g1 := hC.c1
   have g2 := hC.c2
   have u0 := hU.d.c0
   have u1 := hU.d.c1
   have u2 := hU.d.c2
   have hu1 := hU.rd.more hU.hB
   have hu2 := hU.rp.more hU.hB
   go_upto_region 34 with (go_at_call 13; refine (eqDesk_yes n' bs' ps' _ _ _ _ _ _ _ _ _ _ _ _ _ _ _ _ _ _ hb'1 hp'1 Hp'2.out (Nat.le_refl _) hrg hu1 hrg2 hu2).mono ?_; rintro e w25 ⟨rfl, hb25⟩)
   have hbel := bthen hE.bel hb25
   replace hB9 := hB9.below hb25
   replace own15 := own_below own15 hb25
   replace ops15 := ops15.below hb25
   clear g0 g1 g2 u0 u1 u2 hu1 hu2 hrg hrg2 hb25 hU hC hE
   have g0 := hB9.c0
   have g1 := hB9.c1
   have g2 := hB9.c2
   obtain ⟨gm, hrm⟩ : ∃ g, BdsR w25 w25.heap.size g 0 A7 (marks 1 bs'.length) := OwnB.readsA (c := c7) (by rw [marks_length]; exact own15)
   obtain ⟨gq, hrq⟩ : ∃ g, PlsR w25 w25.heap.size g 0 A8 qs := OwnPs.reads (c := c8) (by rw [Hqs.out.1]; exact ops15)
   go_wp2_with (go_at_call 15; refine (heldDesk_c n' 1 A7 A8 gm 0 c7 gq 0 c8 bs'.length ps' qs _ ⟨by omega, by omega⟩ hb'1 hp'1 hs'1 Hqs.out hrm hrq).mono ?_; rintro e w26 ⟨rfl, hb26⟩)
   go_ret
   exact ⟨rfl, bthen hbel hb26⟩
end Go.Proofs.YtmnajkhoacogjaaGreatDoor
