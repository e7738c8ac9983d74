/-
 impl: a desk after deeds, DeskRun.
-/
import Derived.Test.YtmnajkhoacogjaaGreatDoorL9c
import Derived.Test.YtmnajkhoacogjaaGreatDoorS9m
namespace Go.Proofs.YtmnajkhoacogjaaGreatDoor
set_option linter.unusedVariables false
set_option linter.unusedSimpArgs false
open Go Go.RowKit Pp

namespace Pp
/-- A desk and a count that are handed back. -/
def DkT (w w' : World) (d : Dk) (m : Nat) (v : Value) : Prop := ∃ A c A2 c2, v = .tuple #[.agg #[.int .i64 d.now.n, .slice A d.now.bs.length c, .slice A2 d.past.length c2], .int .i64 m] ∧ OwnB w.heap.size w' (.slice A d.now.bs.length c) d.now.bs ∧ OwnPs w.heap.size w' (.slice A2 d.past.length c2) d.past ∧ ∃ M, DifW w.heap.size M w' (.slice A d.now.bs.length c) (.slice A2 d.past.length c2) d.past.length
end Pp
theorem dkt_of {w w' : World} {lo M c c2 m : Nat} {n : Int} {A A2 : Option Addr} {bs : List Bd} {ps : List Pl} (own : OwnB lo w' (.slice A bs.length c) bs) (ops : OwnPs lo w' (.slice A2 ps.length c2) ps) (dif : DifW lo M w' (.slice A bs.length c) (.slice A2 ps.length c2) ps.length) (h : w.heap.size ≤ lo) : DkT w w' ⟨⟨n, bs⟩, ps⟩ m (.tuple #[.agg #[.int .i64 n, .slice A bs.length c, .slice A2 ps.length c2], .int .i64 m]) :=
 ⟨A, c, A2, c2, rfl, own_less own h, ops.less h, M, dif.less h⟩
/-- Another desk is put into its box. -/
theorem MQ.put {M M' : Nat} {W wr : World} {X c c2 : Nat} {n : Int} {A A2 : Option Addr} {bs : List Bd} {ps : List Pl} {n' : Int} {A' A2' : Option Addr} {c' c2' : Nat} {bs' : List Bd} {ps' : List Pl} (h : MQ M W wr X n A c bs A2 c2 ps)
  (own : OwnB W.heap.size wr (.slice A' bs'.length c') bs') (ops : OwnPs W.heap.size wr (.slice A2' ps'.length c2') ps') (dif : DifW W.heap.size M' wr (.slice A' bs'.length c') (.slice A2' ps'.length c2') ps'.length) :
  MQ M' W (((wr.setCell ⟨X, 0, none⟩ (.int .i64 n')).setCell ⟨X, 1, none⟩ (.slice A' bs'.length c')).setCell ⟨X, 2, none⟩ (.slice A2' ps'.length c2')) X n' A' c' bs' A2' c2' ps' := by
 have hb0 := h.bx.set 0 (.int .i64 n')
 have hb1 := hb0.set 1 (.slice A' bs'.length c')
 obtain ⟨r0, r1, r2⟩ := three_cellsD (a := .int .i64 n') (b := .slice A' bs'.length c') (d := .slice A2' ps'.length c2') h.p0 h.p1 h.p2
 have hne : (Value.slice A2' ps'.length c2').ownBlock ≠ some X := by
  obtain ⟨cs, hrow, -⟩ := ops
  exact own_box hrow h.bx (by decide)
 exact ⟨⟨((h.bel.setCell (p := ⟨X, 0, none⟩) h.lo _).setCell (p := ⟨X, 1, none⟩) h.lo _).setCell (p := ⟨X, 2, none⟩) h.lo _, h.lo, by simpa using h.ex, r0, r1, r2, fun i => by rw [← h.cf i]; simp, hb1.set _ _,
  ((own.setBox h.bx _ _).setBox hb0 _ _).setBox hb1 _ _, ((ops.setBox h.bx _ _).setBox hb0 _ _).setBox hb1 _ _⟩, ((dif.set hne 0 _).set hne 1 _).set hne 2 _⟩

set_option maxHeartbeats 4000000 in
set_option maxRecDepth 100000 in
theorem after_q (rt : List UInt8 → Option (List Mk)) (hrt : IsRead rt) (n : Int) (bs : List Bd) (ps : List Pl) (l : List Dd) (hok : deskOk ⟨⟨n, bs⟩, ps⟩ = true) (hl : l.length ≤ 40) (A A2 AL : Option Addr) (b o c b2 o2 c2 bl ol cl B : Nat) (w : World) (hv : VR w) (hB : B ≤ w.heap.size) (hR : BdsR w B b o A bs) (hP : PlsR w B b2 o2 A2 ps) (hL : DdR w B bl ol AL l) :
  Calls Tryz.prog 55 #[.agg #[.int .i64 n, .slice A bs.length c, .slice A2 ps.length c2], .slice AL l.length cl] w fun e w' => ∃ v, e = .returned v ∧ DkT w w' (runD rt ⟨⟨n, bs⟩, ps⟩ l).1 (runD rt ⟨⟨n, bs⟩, ps⟩ l).2 v ∧ Below w.heap.size w w' := by
 obtain ⟨h1, h2, h3⟩ := deskOk_iff.1 hok
 dsimp only at h1 h2 h3
 obtain ⟨hn, h16, -⟩ := planOk_iff.1 h2
 dsimp only at hn h16
 have hpl : ∀ p ∈ ps, p.bs.length ≤ 2000000 := fun p hp => by have := (planOk_iff.1 (h1 p hp)).2.1; omega
 have Hpl := hide hpl
 have Hok := hide hok
 have hD := (dkb_new (t := 37) (n := n) (c := c) (c2 := c2) (Below.refl w.heap.size w) (hR.more hB) (hP.more hB)).alloc (.cells #[.int .i64 0, .slice none 0 0, .slice none 0 0] 37)
 have hY : ZD w ((w.alloc (.cells #[.int .i64 n, .slice A bs.length c, .slice A2 ps.length c2] 37)).alloc (.cells #[.int .i64 0, .slice none 0 0, .slice none 0 0] 37)) (w.heap.size + 1) := zd_at (by simp) (by simp)
 have hLB : DdR w w.heap.size bl ol AL l := CsR.more hL hB
 clear hR hP hB hpl hok h1 h2 hn hL
 go_enter Tryz.func55, Tryz.ntmps55
 go_upto_region 1 with fail
 generalize (w.alloc (.cells #[.int .i64 n, .slice A bs.length c, .slice A2 ps.length c2] 37)).alloc (.cells #[.int .i64 0, .slice none 0 0, .slice none 0 0] 37) = W at hD hY ⊢
 have p0 := hD.c0
 have p1 := hD.c1
 have p2 := hD.c2
 go_upto_region 2 with (go_at_call 41; refine (cloneD_q n bs ps A A2 b o c b2 o2 c2 _ _ (show bs.length ≤ 2000 by omega) (show ps.length ≤ 2000000 by omega) Hpl.out (Nat.le_refl _) hD.rd hD.rp).mono ?_; rintro e w3 ⟨v, rfl, ⟨A3, c3, A4, c4, rfl, own3, ops3, M3, dif3⟩, hb3⟩; try dsimp only at own3 ops3 dif3)
 try dsimp only at own3 ops3 dif3 ⊢
 have hQ0 := mq_of (n := n) (W := W) hb3 own3 ops3 dif3
 have hbW := hD.bel
 have hYl := hY.ex
 have hyw : w.heap.size + 1 < W.heap.size := hYl
 clear p0 p1 p2 own3 ops3 dif3 hD hb3
 generalize w3.alloc (.cells #[.int .i64 n, .slice A3 bs.length c3, .slice A4 ps.length c4] 37) = W1 at hQ0 ⊢
 generalize w3.heap.size = X at hQ0 ⊢
 go_wp2_with fail
 go_loopg [7, 16] l.length (fun gh s7 s16 wr => ∃ (k m : Nat) (n' : Int) (bs' : List Bd) (ps' : List Pl) (A5 : Option Addr) (c5 : Nat) (A6 : Option Addr) (c6 M5 : Nat), k ≤ l.length ∧ gh = l.length - k ∧ s7 = .int .i64 m ∧ s16 = .int .i64 k ∧ Hid (runD rt ⟨⟨n, bs⟩, ps⟩ (l.take k) = (⟨⟨n', bs'⟩, ps'⟩, m)) ∧ MQ M5 W wr X n' A5 c5 bs' A6 c6 ps')
 case atStart => exact ⟨0, 0, n, bs, ps, A3, c3, A4, c4, M3, Nat.zero_le _, rfl, rfl, rfl, by simp [Hid, runD], hQ0⟩
 case round =>
  clear hQ0
  obtain ⟨k, m, n', bs', ps', A5, c5, A6, c6, M5, hk, rfl, rfl, rfl, hRk, hQ⟩ := hrel
  have hmok : deskOk ⟨⟨n', bs'⟩, ps'⟩ = true := by
   have := runD_ok rt (l.take k) ⟨⟨n, bs⟩, ps⟩ Hok.out
   rw [hRk.out] at this; exact this
  have hmk : m ≤ k := by
   have := runD_le rt (l.take k) ⟨⟨n, bs⟩, ps⟩
   rw [hRk.out, List.length_take] at this
   dsimp only at this; omega
  obtain ⟨g1, g2, g3⟩ := deskOk_iff.1 hmok
  dsimp only at g1 g2 g3
  obtain ⟨gn, g16, -⟩ := planOk_iff.1 g2
  dsimp only at gn g16
  have gpl : ∀ p ∈ ps', p.bs.length ≤ 2000000 := fun p hp => by have := (planOk_iff.1 (g1 p hp)).2.1; omega
  have Gpl := hide gpl
  clear g1 g2 gn gpl hmok
  by_cases hlt : k < l.length
  ·have hlt' : (k : Int) < (l.length : Int) := by omega
   obtain rfl := hLB.addr (by omega)
   have hx := List.getElem?_eq_getElem hlt
   have hLw := CsR.below hLB (hbW.trans (hQ.bel.mono hbW.size))
   obtain ⟨d0, d1, d2, d3, d4⟩ := dd_cells hLw hx
   generalize l[k] = x at hx d0 d1 d2 d3 d4
   obtain ⟨⟨⟨⟨n2, bs2⟩, ps2⟩, r⟩, hDD⟩ : ∃ D, deskDo rt ⟨⟨n', bs'⟩, ps'⟩ x = D := ⟨_, rfl⟩
   have hnext := run_next' hx hRk.out hDD
   have Hn := hide hnext
   have hi := fun (wq : World) (hv : VR wq) (gq gp : Nat) (hR : BdsR wq wq.heap.size gq 0 A5 bs') (hP : PlsR wq wq.heap.size gp 0 A6 ps') => deskDo_w rt hrt n' bs' ps' x.k x.a x.b x.c (byts x.ws) x.ws (byts_list _) A5 A6 gq 0 c5 gp 0 c6 _ wq hv (show bs'.length ≤ 2000000 by omega) (show ps'.length ≤ 2000000 by omega) Gpl.out (Nat.le_refl _) hR hP
   obtain ⟨xk, xa, xb, xc, xw⟩ := x
   dsimp only at hi d0 d1 d2 d3 d4
   simp only [hDD] at hi
   have Hi := hide hi
   clear hx hnext hDD hi hLw hRk
   have hE : DeB w (wr.alloc (.cells #[.int .i64 xk, .int .i64 xa, .int .i64 xb, .int .i64 xc, .string (byts xw)] 41)) wr.heap.size xk xa xb xc (byts xw) := deb_new rfl (Nat.le_trans hbW.size hQ.bel.size)
   have hQ1 := hQ.alloc (.cells #[.int .i64 xk, .int .i64 xa, .int .i64 xb, .int .i64 xc, .string (byts xw)] 41)
   go_upto_region 6 with fail
   generalize wr.alloc (.cells #[.int .i64 xk, .int .i64 xa, .int .i64 xb, .int .i64 xc, .string (byts xw)] 41) = W2 at hE hQ1 ⊢
   generalize wr.heap.size = E at hE ⊢
   clear hQ d0 d1 d2 d3 d4
   obtain ⟨gq, hrq⟩ := hQ1.own.readsA
   obtain ⟨gp, hrp⟩ := hQ1.ops.reads
   have x0 := hQ1.p0
   have x1 := hQ1.p1
   have x2 := hQ1.p2
   have e0 := hE.c0
   have e1 := hE.c1
   have e2 := hE.c2
   have e3 := hE.c3
   have e4 := hE.c4
   have hv2 : VR W2 := hv.below (hbW.trans (hQ1.bel.mono hbW.size))
   have hbs := hQ1.bel.size
   go_upto_region 7 with (go_at_call 12; refine (Hi.out _ hv2 gq gp hrq hrp).mono ?_; rintro e w4 ⟨v, rfl, ⟨A7, c7, A8, c8, rfl, own4, ops4, M4, dif4⟩, hb4⟩; try dsimp only at own4 ops4 dif4)
   try dsimp only at own4 ops4 dif4 ⊢
   have hal : Below w4.heap.size w4 (w4.alloc (.cells #[.int .i64 n2, .slice A7 bs2.length c7, .slice A8 ps2.length c8] 37)) := by go_grown
   have hQ3 := (hQ1.below hb4).below hal
   have own5 : OwnB W.heap.size (w4.alloc (.cells #[.int .i64 n2, .slice A7 bs2.length c7, .slice A8 ps2.length c8] 37)) (.slice A7 bs2.length c7) bs2 := own_less (own_below own4 hal) hbs
   have ops5 := (ops4.below hal).less hbs
   have dif5 := (dif4.below hal).less hbs
   obtain ⟨z0, z1, z2⟩ : (w4.alloc (.cells #[.int .i64 n2, .slice A7 bs2.length c7, .slice A8 ps2.length c8] 37)).cell? ⟨w4.heap.size, 0, none⟩ = some (.int .i64 n2) ∧ (w4.alloc (.cells #[.int .i64 n2, .slice A7 bs2.length c7, .slice A8 ps2.length c8] 37)).cell? ⟨w4.heap.size, 1, none⟩ = some (.slice A7 bs2.length c7) ∧ (w4.alloc (.cells #[.int .i64 n2, .slice A7 bs2.length c7, .slice A8 ps2.length c8] 37)).cell? ⟨w4.heap.size, 2, none⟩ = some (.slice A8 ps2.length c8) := ⟨by simp [go_sem], by simp [go_sem], by simp [go_sem]⟩
   clear x0 x1 x2 e0 e1 e2 e3 e4 hrq hrp hv2 hQ1 hE own4 ops4 dif4 hal hb4 hbs
   generalize w4.alloc (.cells #[.int .i64 n2, .slice A7 bs2.length c7, .slice A8 ps2.length c8] 37) = W3 at hQ3 own5 ops5 dif5 z0 z1 z2 ⊢
   generalize w4.heap.size = Z at z0 z1 z2 ⊢
   have hQ9 := hQ3.put (n' := n2) own5 ops5 dif5
   have x0 := hQ3.p0
   have x1 := hQ3.p1
   have x2 := hQ3.p2
   have xf0 := hQ3.cf 0
   have xf1 := hQ3.cf 1
   have xf2 := hQ3.cf 2
   cases r
   ·go_upto_region 10 with fail
    clear x0 x1 x2 xf0 xf1 xf2 z0 z1 z2 own5 ops5 dif5 hQ3
    generalize ((W3.setCell ⟨X, 0, none⟩ (.int .i64 n2)).setCell ⟨X, 1, none⟩ (.slice A7 bs2.length c7)).setCell ⟨X, 2, none⟩ (.slice A8 ps2.length c8) = W9 at hQ9 ⊢
    go_wp2_with fail
    go_roundg (l.length - (k + 1))
    case measure => go_light; omega
    case rel => go_light; exact ⟨k + 1, m, n2, bs2, ps2, A7, c7, A8, c8, M4, by omega, rfl, rfl, by go_num, Hn, hQ9⟩
   ·go_upto_region 10 with fail
    clear x0 x1 x2 xf0 xf1 xf2 z0 z1 z2 own5 ops5 dif5 hQ3
    generalize ((W3.setCell ⟨X, 0, none⟩ (.int .i64 n2)).setCell ⟨X, 1, none⟩ (.slice A7 bs2.length c7)).setCell ⟨X, 2, none⟩ (.slice A8 ps2.length c8) = W9 at hQ9 ⊢
    go_wp2_with fail
    go_roundg (l.length - (k + 1))
    case measure => go_light; omega
    case rel => go_light; exact ⟨k + 1, m + 1, n2, bs2, ps2, A7, c7, A8, c8, M4, by omega, rfl, by go_num, by go_num, Hn, hQ9⟩
  ·obtain rfl : k = l.length := by omega
   have hRl := hRk.out
   rw [List.take_length] at hRl
   have HRl := hide hRl
   have hY1 := hY.below hQ.bel
   have q0 := hQ.p0
   have q1 := hQ.p1
   have q2 := hQ.p2
   have z0 := hY1.z0
   have z1 := hY1.z1
   have z2 := hY1.z2
   have zf0 := hY1.zf 0
   have zf1 := hY1.zf 1
   have zf2 := hY1.zf 2
   have hbel := hbW.trans (hQ.bel.mono hbW.size)
   have hlo := hbW.size
   have own9 := ((hQ.own.setLow hyw 0 (.int .i64 n')).setLow hyw 1 (.slice A5 bs'.length c5)).setLow hyw 2 (.slice A6 ps'.length c6)
   have ops9 := ((hQ.ops.setLow hyw 0 (.int .i64 n')).setLow hyw 1 (.slice A5 bs'.length c5)).setLow hyw 2 (.slice A6 ps'.length c6)
   have dif9 := ((hQ.dif.setLow hyw 0 (.int .i64 n')).setLow hyw 1 (.slice A5 bs'.length c5)).setLow hyw 2 (.slice A6 ps'.length c6)
   obtain ⟨r0, r1, r2⟩ := three_cellsD (a := .int .i64 n') (b := .slice A5 bs'.length c5) (d := .slice A6 ps'.length c6) z0 z1 z2
   have hb9 := ((hbel.setCell (p := ⟨w.heap.size + 1, 0, none⟩) hY.lo (.int .i64 n')).setCell (p := ⟨w.heap.size + 1, 1, none⟩) hY.lo (.slice A5 bs'.length c5)).setCell (p := ⟨w.heap.size + 1, 2, none⟩) hY.lo (.slice A6 ps'.length c6)
   clear hRk hRl
   go_wp2_with fail
   refine bodyPost_ret (v := .tuple #[.agg #[.int .i64 n', .slice A5 bs'.length c5, .slice A6 ps'.length c6], .int .i64 m]) (by simp [results, Tryz.results55, go_sem, r0, r1, r2]) rfl ?_
   rw [HRl.out]
   exact ⟨_, rfl, dkt_of own9 ops9 dif9 hlo, hb9⟩
theorem dkt_zero (w w' : World) : DkT w w' ⟨⟨0, []⟩, []⟩ 0 (.tuple #[.agg #[.int .i64 0, .slice none 0 0, .slice none 0 0], .int .i64 0]) :=
 ⟨none, 0, none, 0, rfl, World.ownsRow_nil _ _ _ _, OwnPs.nil _ _, 0, DifW.nil _ _ _ _ _ _⟩
set_option maxHeartbeats 4000000 in
set_option maxRecDepth 100000 in
theorem deskRun_w (rt : List UInt8 → Option (List Mk)) (hrt : IsRead rt) (n : Int) (bs : List Bd) (ps : List Pl) (l : List Dd) (A A2 AL : Option Addr) (b o c b2 o2 c2 bl ol cl B : Nat) (w : World) (hv : VR w) (h16 : bs.length ≤ 2000000) (hps : ps.length ≤ 2000000) (hpl : ∀ p ∈ ps, p.bs.length ≤ 2000000) (hl : l.length ≤ 2000000) (hB : B ≤ w.heap.size) (hR : BdsR w B b o A bs) (hP : PlsR w B b2 o2 A2 ps) (hL : DdR w B bl ol AL l) :
  Calls Tryz.prog 17 #[.agg #[.int .i64 n, .slice A bs.length c, .slice A2 ps.length c2], .slice AL l.length cl] w fun e w' => ∃ v, e = .returned v ∧ DkT w w' (deskRun rt ⟨⟨n, bs⟩, ps⟩ l).1 (deskRun rt ⟨⟨n, bs⟩, ps⟩ l).2 v ∧ Below w.heap.size w w' := by
 have hD := (dkb_new (t := 37) (n := n) (c := c) (c2 := c2) (Below.refl w.heap.size w) (hR.more hB) (hP.more hB)).alloc (.cells #[.int .i64 0, .slice none 0 0, .slice none 0 0] 37)
 have hY : ZD w ((w.alloc (.cells #[.int .i64 n, .slice A bs.length c, .slice A2 ps.length c2] 37)).alloc (.cells #[.int .i64 0, .slice none 0 0, .slice none 0 0] 37)) (w.heap.size + 1) := zd_at (by simp) (by simp)
 have hLB : DdR w w.heap.size bl ol AL l := CsR.more hL hB
 have Hpl := hide hpl
 clear hR hP hB hpl hL
 cases hok : deskOk ⟨⟨n, bs⟩, ps⟩
 ·rw [run_bad (by rw [hok]; rintro ⟨h, -⟩; cases h)]
  have Hok := hide hok
  clear hok hLB
  go_enter Tryz.func17, Tryz.ntmps17
  go_upto_region 1 with fail
  generalize (w.alloc (.cells #[.int .i64 n, .slice A bs.length c, .slice A2 ps.length c2] 37)).alloc (.cells #[.int .i64 0, .slice none 0 0, .slice none 0 0] 37) = W at hD hY ⊢
  have p0 := hD.c0
  have p1 := hD.c1
  have p2 := hD.c2
  go_upto_region 2 with (go_at_call 23; go_fit (deskOk_c n bs ps A A2 b o c b2 o2 c2 _ _ h16 hps Hpl.out (Nat.le_refl _) hD.rd hD.rp); rintro e w2 ⟨rfl, hb⟩; rw [Hok.out]; replace hD := hD.below hb; replace hY := hY.below hb)
  have hbel := hD.bel
  clear p0 p1 p2 hb hD
  have z0 := hY.z0
  have z1 := hY.z1
  have z2 := hY.z2
  have zf0 := hY.zf 0
  have zf1 := hY.zf 1
  have zf2 := hY.zf 2
  have hlo2 := hY.lo
  obtain ⟨r0, r1, r2⟩ := three_cellsD (a := .int .i64 0) (b := .slice none 0 0) (d := .slice none 0 0) z0 z1 z2
  have hb9 := ((hbel.setCell (p := ⟨w.heap.size + 1, 0, none⟩) hlo2 (.int .i64 0)).setCell (p := ⟨w.heap.size + 1, 1, none⟩) hlo2 (.slice none 0 0)).setCell (p := ⟨w.heap.size + 1, 2, none⟩) hlo2 (.slice none 0 0)
  go_wp2_with fail
  refine bodyPost_ret (v := .tuple #[.agg #[.int .i64 0, .slice none 0 0, .slice none 0 0], .int .i64 0]) (by simp [results, Tryz.results17, go_sem, r0, r1, r2]) rfl ?_
  exact ⟨_, rfl, dkt_zero _ _, hb9⟩
 ·by_cases h40 : l.length ≤ 40
  ·rw [run_good ⟨hok, h40⟩]
   have hcall := fun (wq : World) (hv : VR wq) (hR : BdsR wq wq.heap.size b o A bs) (hP : PlsR wq wq.heap.size b2 o2 A2 ps) (hL : DdR wq wq.heap.size bl ol AL l) => after_q rt hrt n bs ps l hok h40 A A2 AL b o c b2 o2 c2 bl ol cl _ wq hv (Nat.le_refl _) hR hP hL
   obtain ⟨⟨⟨⟨n', bs'⟩, ps'⟩, m⟩, hDD⟩ : ∃ D, runD rt ⟨⟨n, bs⟩, ps⟩ l = D := ⟨_, rfl⟩
   simp only [hDD] at hcall
   rw [hDD]
   have Hcall := hide hcall
   have Hok := hide hok
   clear hok hcall hDD
   have h40z : ¬ (40 : Int) < (l.length : Int) := by omega
   go_enter Tryz.func17, Tryz.ntmps17
   go_upto_region 1 with fail
   generalize (w.alloc (.cells #[.int .i64 n, .slice A bs.length c, .slice A2 ps.length c2] 37)).alloc (.cells #[.int .i64 0, .slice none 0 0, .slice none 0 0] 37) = W at hD hY ⊢
   have p0 := hD.c0
   have p1 := hD.c1
   have p2 := hD.c2
   go_upto_region 3 with (go_at_call 23; go_fit (deskOk_c n bs ps A A2 b o c b2 o2 c2 _ _ h16 hps Hpl.out (Nat.le_refl _) hD.rd hD.rp); rintro e w2 ⟨rfl, hb⟩; rw [Hok.out]; replace hD := hD.below hb; replace hY := hY.below hb)
   clear p0 p1 p2 hb
   have p0 := hD.c0
   have p1 := hD.c1
   have p2 := hD.c2
   have hYl := hY.ex
   have hyw : w.heap.size + 1 < w2.heap.size := hYl
   go_wp2_with (go_at_call 55; refine (Hcall.out _ (hv.below hD.bel) hD.rd hD.rp ((CsR.below hLB hD.bel).more hD.bel.size)).mono ?_; rintro e w3 ⟨v, rfl, ⟨A3, c3, A4, c4, rfl, own3, ops3, M3, dif3⟩, hb3⟩; try dsimp only at own3 ops3 dif3; have hY3 := hY.below hb3; have z0 := hY3.z0; have z1 := hY3.z1; have z2 := hY3.z2; have zf0 := hY3.zf 0; have zf1 := hY3.zf 1; have zf2 := hY3.zf 2)
   have hbel := bthen hD.bel hb3
   clear p0 p1 p2
   try dsimp only at own3 ops3 dif3 ⊢
   obtain ⟨r0, r1, r2⟩ := three_cellsD (a := .int .i64 n') (b := .slice A3 bs'.length c3) (d := .slice A4 ps'.length c4) z0 z1 z2
   have hlo2 := hY3.lo
   have hlo := hD.bel.size
   have own9 := ((own3.setLow hyw 0 (.int .i64 n')).setLow hyw 1 (.slice A3 bs'.length c3)).setLow hyw 2 (.slice A4 ps'.length c4)
   have ops9 := ((ops3.setLow hyw 0 (.int .i64 n')).setLow hyw 1 (.slice A3 bs'.length c3)).setLow hyw 2 (.slice A4 ps'.length c4)
   have dif9 := ((dif3.setLow hyw 0 (.int .i64 n')).setLow hyw 1 (.slice A3 bs'.length c3)).setLow hyw 2 (.slice A4 ps'.length c4)
   have hb9 := ((hbel.setCell (p := ⟨w.heap.size + 1, 0, none⟩) hlo2 (.int .i64 n')).setCell (p := ⟨w.heap.size + 1, 1, none⟩) hlo2 (.slice A3 bs'.length c3)).setCell (p := ⟨w.heap.size + 1, 2, none⟩) hlo2 (.slice A4 ps'.length c4)
   refine bodyPost_ret (v := .tuple #[.agg #[.int .i64 n', .slice A3 bs'.length c3, .slice A4 ps'.length c4], .int .i64 m]) (by simp [results, Tryz.results17, go_sem, r0, r1, r2]) rfl ?_
   exact ⟨_, rfl, dkt_of own9 ops9 dif9 hlo, hb9⟩
  ·rw [run_bad (fun h => h40 h.2)]
   have Hok := hide hok
   have h40z : (40 : Int) < (l.length : Int) := by omega
   clear hok hLB
   go_enter Tryz.func17, Tryz.ntmps17
   go_upto_region 1 with fail
   generalize (w.alloc (.cells #[.int .i64 n, .slice A bs.length c, .slice A2 ps.length c2] 37)).alloc (.cells #[.int .i64 0, .slice none 0 0, .slice none 0 0] 37) = W at hD hY ⊢
   have p0 := hD.c0
   have p1 := hD.c1
   have p2 := hD.c2
   go_upto_region 2 with (go_at_call 23; go_fit (deskOk_c n bs ps A A2 b o c b2 o2 c2 _ _ h16 hps Hpl.out (Nat.le_refl _) hD.rd hD.rp); rintro e w2 ⟨rfl, hb⟩; rw [Hok.out]; replace hD := hD.below hb; replace hY := hY.below hb)
   have hbel := hD.bel
   clear p0 p1 p2 hb hD
   have z0 := hY.z0
   have z1 := hY.z1
   have z2 := hY.z2
   have zf0 := hY.zf 0
   have zf1 := hY.zf 1
   have zf2 := hY.zf 2
   have hlo2 := hY.lo
   obtain ⟨r0, r1, r2⟩ := three_cellsD (a := .int .i64 0) (b := .slice none 0 0) (d := .slice none 0 0) z0 z1 z2
   have hb9 := ((hbel.setCell (p := ⟨w.heap.size + 1, 0, none⟩) hlo2 (.int .i64 0)).setCell (p := ⟨w.heap.size + 1, 1, none⟩) hlo2 (.slice none 0 0)).setCell (p := ⟨w.heap.size + 1, 2, none⟩) hlo2 (.slice none 0 0)
   go_wp2_with fail
   refine bodyPost_ret (v := .tuple #[.agg #[.int .i64 0, .slice none 0 0, .slice none 0 0], .int .i64 0]) (by simp [results, Tryz.results17, go_sem, r0, r1, r2]) rfl ?_
   exact ⟨_, rfl, dkt_zero _ _, hb9⟩
end Go.Proofs.YtmnajkhoacogjaaGreatDoor
