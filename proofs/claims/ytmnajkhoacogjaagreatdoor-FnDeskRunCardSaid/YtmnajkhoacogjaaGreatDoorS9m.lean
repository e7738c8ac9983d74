/-
 spec: l15Run, DeskRun.
-/
import Derived.Test.YtmnajkhoacogjaaGreatDoorR80
import Derived.Test.YtmnajkhoacogjaaGreatDoorS9h
namespace Go.Proofs.YtmnajkhoacogjaaGreatDoor
set_option linter.unusedVariables false
set_option linter.unusedSimpArgs false
open Go Go.RowKit Pp

namespace Pp
theorem run_next' {rt : List UInt8 → Option (List Mk)} {d D D' : Dk} {l : List Dd} {k m : Nat} {x : Dd} {r : Bool} (hx : l[k]? = some x) (h : runD rt d (l.take k) = (D, m)) (h2 : deskDo rt D x = (D', r)) : runD rt d (l.take (k + 1)) = (D', m + if r then 1 else 0) := by
 have e : l.take (k + 1) = l.take k ++ [x] := by rw [List.take_add_one, hx]; rfl
 rw [e, runD_snoc, h]
 dsimp only
 rw [h2]
/-- A desk and a count that are handed back: they are read. -/
def DkRT (w w' : World) (d : Dk) (m : Nat) (v : Value) : Prop := ∃ A c A2 c2, v = .tuple #[.agg #[.int .i64 d.now.n, .slice A d.now.bs.length c, .slice A2 d.past.length c2], .int .i64 m] ∧ OwnB w.heap.size w' (.slice A d.now.bs.length c) d.now.bs ∧ OwnT w.heap.size w' A2 d.past
end Pp
theorem OwnT.setLow {lo Y : Nat} {w : World} {A2 : Option Addr} {ps : List Pl} (h : OwnT lo w A2 ps) (hY : Y < lo) (i : Nat) (x : Value) : OwnT lo (w.setCell ⟨Y, i, none⟩ x) A2 ps := by
 rcases h with ⟨c, h⟩ | ⟨q, g, c, e, h⟩
 ·exact .inl ⟨c, h.setLow hY i x⟩
 ·exact .inr ⟨q, g, c, e, h.setLow hY i x⟩
/-- A desk in a box of the run's own. -/
structure SQ (W wr : World) (X : Nat) (n : Int) (A : Option Addr) (c : Nat) (bs : List Bd) (A2 : Option Addr) (c2 : Nat) (ps : List Pl) : Prop where
 bel : Below W.heap.size W wr
 lo : W.heap.size ≤ X
 ex : X < wr.heap.size
 p0 : wr.cell? ⟨X, 0, none⟩ = some (.int .i64 n)
 p1 : wr.cell? ⟨X, 1, none⟩ = some (.slice A bs.length c)
 p2 : wr.cell? ⟨X, 2, none⟩ = some (.slice A2 ps.length c2)
 cf : ∀ i, wr.frozen? ⟨X, i, none⟩ = false
 bx : BoxT wr X 37
 own : OwnB W.heap.size wr (.slice A bs.length c) bs
 ops : OwnT W.heap.size wr A2 ps
section
variable {W wr w' : World} {X c c2 : Nat} {n : Int} {A A2 : Option Addr} {bs : List Bd} {ps : List Pl}
theorem SQ.below (h : SQ W wr X n A c bs A2 c2 ps) (hb : Below wr.heap.size wr w') : SQ W w' X n A c bs A2 c2 ps :=
 ⟨bthen h.bel hb, h.lo, Nat.lt_of_lt_of_le h.ex hb.size, ((bcell hb).1 _ _ h.ex).trans h.p0, ((bcell hb).1 _ _ h.ex).trans h.p1, ((bcell hb).1 _ _ h.ex).trans h.p2, fun i => ((bcell hb).2 _ _ h.ex).trans (h.cf i), h.bx.below h.ex hb, own_below h.own hb, h.ops.below hb⟩
theorem SQ.alloc (h : SQ W wr X n A c bs A2 c2 ps) (x : Obj) : SQ W (wr.alloc x) X n A c bs A2 c2 ps := h.below (by go_grown)
theorem sq_of (h : MD W wr X n A c bs A2 c2 ps) : SQ W wr X n A c bs A2 c2 ps := ⟨h.bel, h.lo, h.ex, h.p0, h.p1, h.p2, h.cf, h.bx, h.own, .inl ⟨c2, h.ops⟩⟩
theorem SQ.put {n' : Int} {A' A2' : Option Addr} {c' c2' : Nat} {bs' : List Bd} {ps' : List Pl} (h : SQ W wr X n A c bs A2 c2 ps) (own : OwnB W.heap.size wr (.slice A' bs'.length c') bs') (ops : OwnT W.heap.size wr A2' ps') :
  SQ W (((wr.setCell ⟨X, 0, none⟩ (.int .i64 n')).setCell ⟨X, 1, none⟩ (.slice A' bs'.length c')).setCell ⟨X, 2, none⟩ (.slice A2' ps'.length c2')) X n' A' c' bs' A2' c2' ps' := by
 have hb0 := h.bx.set 0 (.int .i64 n')
 have hb1 := hb0.set 1 (.slice A' bs'.length c')
 obtain ⟨r0, r1, r2⟩ := three_cellsD (a := .int .i64 n') (b := .slice A' bs'.length c') (d := .slice A2' ps'.length c2') h.p0 h.p1 h.p2
 exact ⟨((h.bel.setCell (p := ⟨X, 0, none⟩) h.lo _).setCell (p := ⟨X, 1, none⟩) h.lo _).setCell (p := ⟨X, 2, none⟩) h.lo _, h.lo, by simpa using h.ex, r0, r1, r2, fun i => by rw [← h.cf i]; simp, hb1.set _ _,
  ((own.setBox h.bx _ _).setBox hb0 _ _).setBox hb1 _ _, ((ops.setBox h.bx _ _).setBox hb0 _ _).setBox hb1 _ _⟩
/-- A store in another box of a desk. -/
theorem SQ.setV {V : Nat} (h : SQ W wr X n A c bs A2 c2 ps) (hV : X < V) (hbV : BoxT wr V 37) (i : Nat) (v : Value) : SQ W (wr.setCell ⟨V, i, none⟩ v) X n A c bs A2 c2 ps := by
 have hg := grown_set wr ⟨V, i, none⟩ v
 have hX : some X ≠ some (⟨V, i, none⟩ : Addr).block := fun e => by injection e with e; exact Nat.ne_of_lt hV e
 have hlo := h.lo
 refine ⟨h.bel.setCell (p := ⟨V, i, none⟩) (by show W.heap.size ≤ V; omega) _, h.lo, by simpa using h.ex, (hg.cell_far ⟨X, 0, none⟩ h.ex hX).trans h.p0, (hg.cell_far ⟨X, 1, none⟩ h.ex hX).trans h.p1, (hg.cell_far ⟨X, 2, none⟩ h.ex hX).trans h.p2,
  fun i => (hg.frozen_far ⟨X, i, none⟩ h.ex hX).trans (h.cf i), h.bx.grown h.ex hg (fun e => hX e.symm), h.own.setBox hbV _ _, h.ops.setBox hbV _ _⟩
end
/-- The floating box of a desk. -/
def CU (X : Nat) (z : Value) (wx : World) : Prop := ∃ V, z = .pointer (some ⟨V, 0, none⟩) ∧ X < V ∧ V < wx.heap.size ∧ wx.cell? ⟨V, 0, none⟩ = some (.int .i64 0) ∧ wx.cell? ⟨V, 1, none⟩ = some (.slice none 0 0) ∧ wx.cell? ⟨V, 2, none⟩ = some (.slice none 0 0) ∧ (∀ i, wx.frozen? ⟨V, i, none⟩ = false) ∧ BoxT wx V 37
theorem CU.below {X : Nat} {z : Value} {wx w' : World} (h : CU X z wx) (hb : Below wx.heap.size wx w') : CU X z w' := by
 obtain ⟨V, h1, h2, h3, c0, c1, c2, cf, hbx⟩ := h
 exact ⟨V, h1, h2, Nat.lt_of_lt_of_le h3 hb.size, ((bcell hb).1 _ _ h3).trans c0, ((bcell hb).1 _ _ h3).trans c1, ((bcell hb).1 _ _ h3).trans c2, fun i => ((bcell hb).2 _ _ h3).trans (cf i), hbx.below h3 hb⟩
theorem cu_new {X : Nat} {wx : World} (hX : X < wx.heap.size) : CU X (.pointer (some ⟨wx.heap.size, 0, none⟩)) (wx.alloc (.cells #[.int .i64 0, .slice none 0 0, .slice none 0 0] 37)) :=
 ⟨wx.heap.size, rfl, hX, by simp, by simp [go_sem], by simp [go_sem], by simp [go_sem], fun i => by simp [go_sem], ⟨_, at_new rfl⟩⟩

set_option maxHeartbeats 4000000 in
set_option maxRecDepth 100000 in
theorem sRun_q (rt : List UInt8 → Option (List Mk)) (hrt : IsRead rt) (n : Int) (bs : List Bd) (ps : List Pl) (l : List Dd) (hok : deskOk ⟨⟨n, bs⟩, ps⟩ = true) (hl : l.length ≤ 40) (A A2 AL : Option Addr) (b o c b2 o2 c2 bl ol cl B : Nat) (w : World) (hB : B ≤ w.heap.size) (hR : BdsR w B b o A bs) (hP : PlsR w B b2 o2 A2 ps) (hL : DdR w B bl ol AL l) :
  Calls Tryz.prog 56 #[.agg #[.int .i64 n, .slice A bs.length c, .slice A2 ps.length c2], .slice AL l.length cl] w fun e w' => ∃ v, e = .returned v ∧ DkRT w w' (runD rt ⟨⟨n, bs⟩, ps⟩ l).1 (runD rt ⟨⟨n, bs⟩, ps⟩ l).2 v ∧ Below w.heap.size w w' := by
 obtain ⟨h1, h2, h3⟩ := deskOk_iff.1 hok
 dsimp only at h1 h2 h3
 obtain ⟨hn, h16, -⟩ := planOk_iff.1 h2
 dsimp only at hn h16
 have hpl : ∀ p ∈ ps, p.bs.length ≤ 100 := fun p hp => by have := (planOk_iff.1 (h1 p hp)).2.1; omega
 have Hpl := hide hpl
 have Hok := hide hok
 have hD := (dkb_new (t := 37) (n := n) (c := c) (c2 := c2) (Below.refl w.heap.size w) (hR.more hB) (hP.more hB)).alloc (.cells #[.int .i64 0, .slice none 0 0, .slice none 0 0] 37)
 have hY : ZD w ((w.alloc (.cells #[.int .i64 n, .slice A bs.length c, .slice A2 ps.length c2] 37)).alloc (.cells #[.int .i64 0, .slice none 0 0, .slice none 0 0] 37)) (w.heap.size + 1) := zd_at (by simp) (by simp)
 have hLB : DdR w w.heap.size bl ol AL l := CsR.more hL hB
 clear hR hP hB hpl hok h1 h2 hn hL
 go_enter Tryz.func56, Tryz.ntmps56
 go_upto_region 1 with fail
 generalize (w.alloc (.cells #[.int .i64 n, .slice A bs.length c, .slice A2 ps.length c2] 37)).alloc (.cells #[.int .i64 0, .slice none 0 0, .slice none 0 0] 37) = W at hD hY ⊢
 have p0 := hD.c0
 have p1 := hD.c1
 have p2 := hD.c2
 go_upto_region 2 with (go_at_call 34; refine (l15Copy_q n bs ps A A2 b o c b2 o2 c2 _ _ (show bs.length ≤ 100 by omega) (show ps.length ≤ 100 by omega) Hpl.out (Nat.le_refl _) hD.rd hD.rp).mono ?_; rintro e w3 ⟨v, rfl, ⟨A3, c3, A4, c4, rfl, own3, ops3⟩, hb3⟩; try dsimp only at own3 ops3)
 try dsimp only at own3 ops3 ⊢
 have hQ0 := sq_of (md_of (n := n) (W := W) hb3 own3 ops3)
 have hbW := hD.bel
 have hYl := hY.ex
 have hyw : w.heap.size + 1 < W.heap.size := hYl
 clear p0 p1 p2 own3 ops3 hD hb3
 generalize w3.alloc (.cells #[.int .i64 n, .slice A3 bs.length c3, .slice A4 ps.length c4] 37) = W1 at hQ0 ⊢
 generalize w3.heap.size = X at hQ0 ⊢
 go_wp2_with fail
 go_loopg [7, 8] l.length (fun gh s7 s8 wr => ∃ (k m : Nat) (n' : Int) (bs' : List Bd) (ps' : List Pl) (A5 : Option Addr) (c5 : Nat) (A6 : Option Addr) (c6 : Nat), k ≤ l.length ∧ gh = l.length - k ∧ s7 = .int .i64 m ∧ s8 = .int .i64 k ∧ Hid (runD rt ⟨⟨n, bs⟩, ps⟩ (l.take k) = (⟨⟨n', bs'⟩, ps'⟩, m)) ∧ SQ W wr X n' A5 c5 bs' A6 c6 ps')
 case atStart => exact ⟨0, 0, n, bs, ps, A3, c3, A4, c4, Nat.zero_le _, rfl, rfl, rfl, by simp [Hid, runD], hQ0⟩
 case round =>
  clear hQ0
  obtain ⟨k, m, n', bs', ps', A5, c5, A6, c6, hk, rfl, rfl, rfl, hRk, hQ⟩ := hrel
  have hmok : deskOk ⟨⟨n', bs'⟩, ps'⟩ = true := by
   have := runD_ok rt (l.take k) ⟨⟨n, bs⟩, ps⟩ Hok.out
   rw [hRk.out] at this; exact this
  have hmk : m ≤ k := by
   have := runD_le rt (l.take k) ⟨⟨n, bs⟩, ps⟩
   rw [hRk.out, List.length_take] at this
   dsimp only at this; omega
  obtain ⟨g1, g2, g3⟩ := deskOk_iff.1 hmok
  dsimp only at g1 g2 g3
  obtain ⟨gn, g16, -⟩ := planOk_iff.1 g2
  dsimp only at gn g16
  have gpl : ∀ p ∈ ps', p.bs.length ≤ 2000000 := fun p hp => by have := (planOk_iff.1 (g1 p hp)).2.1; omega
  have Gpl := hide gpl
  clear g1 g2 gn gpl hmok
  by_cases hlt : k < l.length
  ·have hlt' : (k : Int) < (l.length : Int) := by omega
   obtain rfl := hLB.addr (by omega)
   have hx := List.getElem?_eq_getElem hlt
   have HSd : ∀ wx, Below W.heap.size W wx → wx.cell? ⟨bl, ol + k * 5, none⟩ = some (.int .i64 (l[k]).k) ∧ wx.cell? ⟨bl, ol + k * 5 + 1, none⟩ = some (.int .i64 (l[k]).a) ∧ wx.cell? ⟨bl, ol + k * 5 + 2, none⟩ = some (.int .i64 (l[k]).b) ∧ wx.cell? ⟨bl, ol + k * 5 + 3, none⟩ = some (.int .i64 (l[k]).c) ∧ wx.cell? ⟨bl, ol + k * 5 + 4, none⟩ = some (.string (byts (l[k]).ws)) :=
    fun wx h => dd_cells (CsR.below hLB (hbW.trans (h.mono hbW.size))) hx
   generalize l[k] = x at hx HSd
   obtain ⟨⟨⟨⟨n2, bs2⟩, ps2⟩, r⟩, hDD⟩ : ∃ D, deskDo rt ⟨⟨n', bs'⟩, ps'⟩ x = D := ⟨_, rfl⟩
   have hnext := run_next' hx hRk.out hDD
   have hsame : r = false → (⟨⟨n2, bs2⟩, ps2⟩ : Dk) = ⟨⟨n', bs'⟩, ps'⟩ := fun h => by
    have := do_no (rt := rt) (a := x) (d := ⟨⟨n', bs'⟩, ps'⟩) (by rw [hDD]; exact h) (by have := runD_ok rt (l.take k) ⟨⟨n, bs⟩, ps⟩ Hok.out; rw [hRk.out] at this; exact this)
    rw [hDD] at this
    exact congrArg Prod.fst this
   have Hsame := hide hsame
   clear hsame
   have Hn := hide hnext
   have hi := fun (wq : World) (gq gp op : Nat) (hcap : bs'.length ≤ c5) (hc63 : c5 ≤ 9223372036854775807) (hR : BdsR wq wq.heap.size gq 0 A5 bs') (hP : PlsR wq wq.heap.size gp op A6 ps') => sDeskDo_q rt hrt n' bs' ps' x.k x.a x.b x.c (byts x.ws) x.ws (byts_list _) A5 A6 gq 0 c5 gp op c6 _ wq (show bs'.length ≤ 2000000 by omega) (show ps'.length ≤ 2000000 by omega) Gpl.out hcap hc63 (Nat.le_refl _) hR hP
   obtain ⟨xk, xa, xb, xc, xw⟩ := x
   dsimp only at hi HSd
   simp only [hDD] at hi
   have Hi := hide hi
   have HS := hide HSd
   clear hx hnext hDD hi hRk HSd
   go_upto_region 6 with fail
   refine wp_regionE (fun w' => (w'.cell? ⟨X, 0, none⟩ = some (.int .i64 n') ∧ w'.cell? ⟨X, 1, none⟩ = some (.slice A5 bs'.length c5) ∧ w'.cell? ⟨X, 2, none⟩ = some (.slice A6 ps'.length c6)) ∧ w'.cell? ⟨bl, ol + k * 5, none⟩ = some (.int .i64 xk) ∧ w'.cell? ⟨bl, ol + k * 5 + 1, none⟩ = some (.int .i64 xa) ∧ w'.cell? ⟨bl, ol + k * 5 + 2, none⟩ = some (.int .i64 xb) ∧ w'.cell? ⟨bl, ol + k * 5 + 3, none⟩ = some (.int .i64 xc) ∧ w'.cell? ⟨bl, ol + k * 5 + 4, none⟩ = some (.string (byts xw))) 11 (by kernel_rfl) ?_
   change wpE _ _ _ _ _ _ 12 #[false, false, false, false, false, false, false, false, false, false, false, false] _ _
   have hdr : Below wr.heap.size wr wr.drew := by go_grown
   replace hQ := hQ.below hdr
   clear hdr
   generalize wr.drew = wd at hQ ⊢
   have hJ := hQ
   have HP : Hid (∀ wx, SQ W wx X n' A5 c5 bs' A6 c6 ps' → (wx.cell? ⟨X, 0, none⟩ = some (.int .i64 n') ∧ wx.cell? ⟨X, 1, none⟩ = some (.slice A5 bs'.length c5) ∧ wx.cell? ⟨X, 2, none⟩ = some (.slice A6 ps'.length c6)) ∧ wx.cell? ⟨bl, ol + k * 5, none⟩ = some (.int .i64 xk) ∧ wx.cell? ⟨bl, ol + k * 5 + 1, none⟩ = some (.int .i64 xa) ∧ wx.cell? ⟨bl, ol + k * 5 + 2, none⟩ = some (.int .i64 xb) ∧ wx.cell? ⟨bl, ol + k * 5 + 3, none⟩ = some (.int .i64 xc) ∧ wx.cell? ⟨bl, ol + k * 5 + 4, none⟩ = some (.string (byts xw))) := fun wx h => ⟨⟨h.p0, h.p1, h.p2⟩, HS.out wx h.bel⟩
   have hS0 := HP.out _ hQ
   clear hQ
   refine wpE_tk (v := ?_) 0 [5, 10, 11] (hy := ?_) (hS := hS0) (h := ?_)
   rotate_left
   ·intro w' hSw
    simp only [xg0, xg1, xg2]
    go_simp
    all_goals with_reducible rfl
   simp only [xg0, xg1, xg2, Act.put, xs0, xs1, xs2]
   refine wpE_tk (v := ?_) 1 [3, 4, 5, 10, 11] (hy := ?_) (hS := hS0) (h := ?_)
   rotate_left
   ·intro w' hSw
    simp only [xg0, xg1, xg2]
    go_simp
    all_goals with_reducible rfl
   simp only [xg0, xg1, xg2, Act.put, xs0, xs1, xs2]
   refine wpE_tk (v := ?_) 2 [3, 4, 5, 10, 11] (hy := ?_) (hS := hS0) (h := ?_)
   rotate_left
   ·intro w' hSw
    simp only [xg0, xg1, xg2]
    go_simp
    all_goals with_reducible rfl
   simp only [xg0, xg1, xg2, Act.put, xs0, xs1, xs2]
   refine wpE_tk (v := ?_) 3 [4, 5, 10, 11] (hy := ?_) (hS := hS0) (h := ?_)
   rotate_left
   ·intro w' hSw
    simp only [xg0, xg1, xg2]
    go_simp
    all_goals with_reducible rfl
   simp only [xg0, xg1, xg2, Act.put, xs0, xs1, xs2]
   refine wpE_tk (v := ?_) 4 [5, 10, 11] (hy := ?_) (hS := hS0) (h := ?_)
   rotate_left
   ·intro w' hSw
    simp only [xg0, xg1, xg2]
    go_simp
    all_goals with_reducible rfl
   simp only [xg0, xg1, xg2, Act.put, xs0, xs1, xs2]
   refine wpF_start 9 9 (fun wx => SQ W wx X n' A5 c5 bs' A6 c6 ps') (fun z wx => CU X z wx) (of_decide_eq_true (by kernel_rfl)) rfl hJ (fun fl z hB => ?_)
   simp only [Act.put, xs0, xs1, xs2]
   apply wpF_step (f := 9) (fl := fl) (z := z) (J := fun wx => SQ W wx X n' A5 c5 bs' A6 c6 ps') (B := fun z wx => CU X z wx) 5
   case hi => exact of_decide_eq_true (by kernel_rfl)
   case hg => kernel_rfl
   case hr0 => kernel_rfl
   case hr1 => kernel_rfl
   case hL => kernel_rfl
   case hJ => exact hJ
   case hB => exact hB
   case hF =>
    refine floats_of (of_decide_eq_true (by kernel_rfl)) (by kernel_rfl) (by kernel_rfl) HP.out ?_
    (try clear hS0)
    clear hJ hB
    intro z wx hJ K hK
    simp only [xg0, xg1, xg2]
    go_simp
    exact hK.out _ _ (hJ.alloc _) (cu_new hJ.ex)
   (try clear hS0)
   clear hJ hB
   intro fl z wx hJ hB K hK
   simp only [xg0, xg1, xg2]
   go_simp
   go_at_call 9
   obtain ⟨g1, hr1⟩ := OwnB.readsA hJ.own
   obtain ⟨g2', o2', hr2⟩ := hJ.ops.reads
   have hcp := own_cap hJ.own
   refine (Hi.out _ g1 g2' o2' hcp.1 hcp.2 hr1 hr2).mono ?_
   clear hr1 hr2 hcp
   rintro e w5 ⟨v, rfl, ⟨A7, c7, A8, c8, b8, o8, rfl, own5, -, -, opt5⟩, hb5⟩
   have hlw := hJ.bel.size
   replace hB := fun h => (hB h).below hb5
   replace hJ := hJ.below hb5
   replace own5 : OwnB W.heap.size w5 (.slice A7 bs2.length c7) bs2 := own_less own5 hlw
   replace opt5 : OwnT W.heap.size w5 A8 ps2 := opt5.less hlw
   refine hK.out _ _ (.inr (HP.out _ hJ)) ?_
   clear hK K hlw hb5
   simp only [Act.put, xs0, xs1, xs2]
   have hS0 := HP.out _ hJ
   apply wpF_take (z := z) 6 [8, 11]
   case hi => exact of_decide_eq_true (by kernel_rfl)
   case hl0 => kernel_rfl
   case hl1 => kernel_rfl
   case hs => kernel_rfl
   case hf0 => kernel_rfl
   case hf1 => kernel_rfl
   case hr0 => kernel_rfl
   case hr1 => kernel_rfl
   case hQ => exact fun _ _ _ h => h
   case hg => kernel_rfl
   case hS => exact hS0
   case hy =>
    intro w' hSw
    simp only [xg0, xg1, xg2]
    go_simp
    all_goals with_reducible rfl
   simp only [xg0, xg1, xg2, Act.put, xs0, xs1, xs2]
   apply wpF_take (z := z) 7 [10, 11]
   case hi => exact of_decide_eq_true (by kernel_rfl)
   case hl0 => kernel_rfl
   case hl1 => kernel_rfl
   case hs => kernel_rfl
   case hf0 => kernel_rfl
   case hf1 => kernel_rfl
   case hr0 => kernel_rfl
   case hr1 => kernel_rfl
   case hQ => exact fun _ _ _ h => h
   case hg => kernel_rfl
   case hS => exact hS0
   case hy =>
    intro w' hSw
    simp only [xg0, xg1, xg2]
    go_simp
    all_goals with_reducible rfl
   simp only [xg0, xg1, xg2, Act.put, xs0, xs1, xs2]
   apply wpF_take (z := z) 8 [11]
   case hi => exact of_decide_eq_true (by kernel_rfl)
   case hl0 => kernel_rfl
   case hl1 => kernel_rfl
   case hs => kernel_rfl
   case hf0 => kernel_rfl
   case hf1 => kernel_rfl
   case hr0 => kernel_rfl
   case hr1 => kernel_rfl
   case hQ => exact fun _ _ _ h => h
   case hg => kernel_rfl
   case hS => exact hS0
   case hy =>
    intro w' hSw
    simp only [xg0, xg1, xg2]
    go_simp
    all_goals with_reducible rfl
   simp only [xg0, xg1, xg2, Act.put, xs0, xs1, xs2]
   apply wpF_end (f := 9) (fl := fl) (z := z) (J := fun wx => SQ W wx X n' A5 c5 bs' A6 c6 ps' ∧ OwnB W.heap.size wx (.slice A7 bs2.length c7) bs2 ∧ OwnT W.heap.size wx A8 ps2) (B := fun z wx => CU X z wx)
   case hr0 => kernel_rfl
   case hL => kernel_rfl
   case hJ => exact ⟨hJ, own5, opt5⟩
   case hB => exact hB
   case hF =>
    refine floats_of (of_decide_eq_true (by kernel_rfl)) (by kernel_rfl) (by kernel_rfl) (fun _ h => HP.out _ h.1) ?_
    clear hJ hB own5 opt5 hS0
    intro z wx hJ K hK
    simp only [xg0, xg1, xg2]
    go_simp
    exact hK.out _ _ ⟨hJ.1.alloc _, own_below hJ.2.1 (by go_grown), hJ.2.2.below (by go_grown)⟩ (cu_new hJ.1.ex)
   clear hJ hB own5 opt5 hS0
   intro z wx hJ hB
   obtain ⟨V, rfl, hV, hVs, v0, v1, v2, vf, hbV⟩ := hB
   obtain ⟨hQ, own5, opt5⟩ := hJ
   have vf0 := vf 0
   have vf1 := vf 1
   have vf2 := vf 2
   obtain ⟨q0, q1, q2⟩ := three_cellsD (a := .int .i64 n2) (b := .slice A7 bs2.length c7) (d := .slice A8 ps2.length c8) v0 v1 v2
   have hbV1 := hbV.set 0 (.int .i64 n2)
   have hbV2 := hbV1.set 1 (.slice A7 bs2.length c7)
   have hQ9 := ((hQ.setV hV hbV 0 (.int .i64 n2)).setV hV hbV1 1 (.slice A7 bs2.length c7)).setV hV hbV2 2 (.slice A8 ps2.length c8)
   have own9 := ((own5.setBox hbV 0 (.int .i64 n2)).setBox hbV1 1 (.slice A7 bs2.length c7)).setBox hbV2 2 (.slice A8 ps2.length c8)
   have opt9 := ((opt5.setBox hbV 0 (.int .i64 n2)).setBox hbV1 1 (.slice A7 bs2.length c7)).setBox hbV2 2 (.slice A8 ps2.length c8)
   refine wpE_step' 10 (of_decide_eq_true (by kernel_rfl)) (by kernel_rfl) (by kernel_rfl) (fun K hK => ?_)
   simp only [xg0, xg1, xg2]
   go_simp
   refine hK.out _ _ (.inr (HP.out _ hQ9)) ?_
   clear hK K v0 v1 v2 vf vf0 vf1 vf2 hQ own5 opt5 hbV hbV1 hbV2 hVs
   simp only [Act.put, xs0, xs1, xs2]
   generalize ((wx.setCell ⟨V, 0, none⟩ (.int .i64 n2)).setCell ⟨V, 1, none⟩ (.slice A7 bs2.length c7)).setCell ⟨V, 2, none⟩ (.slice A8 ps2.length c8) = w9 at q0 q1 q2 hQ9 own9 opt9 ⊢
   refine wpE_step' 11 (of_decide_eq_true (by kernel_rfl)) (by kernel_rfl) (by kernel_rfl) (fun K hK => ?_)
   simp only [xg0, xg1, xg2]
   go_simp
   refine hK.out _ _ (.inl rfl) ?_
   clear hK K HP
   simp only [Act.put, xs0, xs1, xs2]
   refine wpE_done (by kernel_rfl) ?_ _
   cases r
   ·have he1 := Hsame.out rfl
    go_wp2_with fail
    go_roundg (l.length - (k + 1))
    case measure => go_light; omega
    case rel => go_light; exact ⟨k + 1, m, n', bs', ps', A5, c5, A6, c6, by omega, rfl, rfl, by go_num, by rw [← he1]; exact Hn, hQ9⟩
   ·have hQ10 := hQ9.put (n' := n2) (c2' := c8) own9 opt9
    have x0 := hQ9.p0
    have x1 := hQ9.p1
    have x2 := hQ9.p2
    have xf0 := hQ9.cf 0
    have xf1 := hQ9.cf 1
    have xf2 := hQ9.cf 2
    go_upto_region 9 with fail
    clear x0 x1 x2 xf0 xf1 xf2 q0 q1 q2 own9 opt9 hQ9
    generalize ((w9.setCell ⟨X, 0, none⟩ (.int .i64 n2)).setCell ⟨X, 1, none⟩ (.slice A7 bs2.length c7)).setCell ⟨X, 2, none⟩ (.slice A8 ps2.length c8) = W9 at hQ10 ⊢
    go_wp2_with fail
    go_roundg (l.length - (k + 1))
    case measure => go_light; omega
    case rel => go_light; exact ⟨k + 1, m + 1, n2, bs2, ps2, A7, c7, A8, c8, by omega, rfl, by go_num, by go_num, Hn, hQ10⟩
  ·obtain rfl : k = l.length := by omega
   have hRl := hRk.out
   rw [List.take_length] at hRl
   have HRl := hide hRl
   have hY1 := hY.below hQ.bel
   have q0 := hQ.p0
   have q1 := hQ.p1
   have q2 := hQ.p2
   have z0 := hY1.z0
   have z1 := hY1.z1
   have z2 := hY1.z2
   have zf0 := hY1.zf 0
   have zf1 := hY1.zf 1
   have zf2 := hY1.zf 2
   have hbel := hbW.trans (hQ.bel.mono hbW.size)
   have hlo := hbW.size
   have own9 := ((hQ.own.setLow hyw 0 (.int .i64 n')).setLow hyw 1 (.slice A5 bs'.length c5)).setLow hyw 2 (.slice A6 ps'.length c6)
   have ops9 := ((hQ.ops.setLow hyw 0 (.int .i64 n')).setLow hyw 1 (.slice A5 bs'.length c5)).setLow hyw 2 (.slice A6 ps'.length c6)
   obtain ⟨r0, r1, r2⟩ := three_cellsD (a := .int .i64 n') (b := .slice A5 bs'.length c5) (d := .slice A6 ps'.length c6) z0 z1 z2
   have hb9 := ((hbel.setCell (p := ⟨w.heap.size + 1, 0, none⟩) hY.lo (.int .i64 n')).setCell (p := ⟨w.heap.size + 1, 1, none⟩) hY.lo (.slice A5 bs'.length c5)).setCell (p := ⟨w.heap.size + 1, 2, none⟩) hY.lo (.slice A6 ps'.length c6)
   clear hRk hRl
   go_wp2_with fail
   refine bodyPost_ret (v := .tuple #[.agg #[.int .i64 n', .slice A5 bs'.length c5, .slice A6 ps'.length c6], .int .i64 m]) (by simp [results, Tryz.results56, go_sem, r0, r1, r2]) rfl ?_
   rw [HRl.out]
   exact ⟨_, rfl, ⟨A5, c5, A6, c6, rfl, own_less own9 hlo, ops9.less hlo⟩, hb9⟩

namespace Pp
theorem run_bad {rt : List UInt8 → Option (List Mk)} {d : Dk} {l : List Dd} (h : ¬ (deskOk d = true ∧ l.length ≤ 40)) : deskRun rt d l = (⟨⟨0, []⟩, []⟩, 0) := by unfold deskRun; rw [if_neg h]
theorem run_good {rt : List UInt8 → Option (List Mk)} {d : Dk} {l : List Dd} (h : deskOk d = true ∧ l.length ≤ 40) : deskRun rt d l = runD rt d l := by unfold deskRun; rw [if_pos h]
end Pp
theorem dkrt_zero (w w' : World) : DkRT w w' ⟨⟨0, []⟩, []⟩ 0 (.tuple #[.agg #[.int .i64 0, .slice none 0 0, .slice none 0 0], .int .i64 0]) :=
 ⟨none, 0, none, 0, rfl, World.ownsRow_nil _ _ _ _, .inl ⟨0, OwnPs.nil _ _⟩⟩
set_option maxHeartbeats 4000000 in
set_option maxRecDepth 100000 in
theorem sDeskRun_q (rt : List UInt8 → Option (List Mk)) (hrt : IsRead rt) (n : Int) (bs : List Bd) (ps : List Pl) (l : List Dd) (A A2 AL : Option Addr) (b o c b2 o2 c2 bl ol cl B : Nat) (w : World) (h16 : bs.length ≤ 2000000) (hps : ps.length ≤ 2000000) (hpl : ∀ p ∈ ps, p.bs.length ≤ 2000000) (hl : l.length ≤ 2000000) (hB : B ≤ w.heap.size) (hR : BdsR w B b o A bs) (hP : PlsR w B b2 o2 A2 ps) (hL : DdR w B bl ol AL l) :
  Calls Tryz.prog 18 #[.agg #[.int .i64 n, .slice A bs.length c, .slice A2 ps.length c2], .slice AL l.length cl] w fun e w' => ∃ v, e = .returned v ∧ DkRT w w' (deskRun rt ⟨⟨n, bs⟩, ps⟩ l).1 (deskRun rt ⟨⟨n, bs⟩, ps⟩ l).2 v ∧ Below w.heap.size w w' := by
 have hD := (dkb_new (t := 37) (n := n) (c := c) (c2 := c2) (Below.refl w.heap.size w) (hR.more hB) (hP.more hB)).alloc (.cells #[.int .i64 0, .slice none 0 0, .slice none 0 0] 37)
 have hY : ZD w ((w.alloc (.cells #[.int .i64 n, .slice A bs.length c, .slice A2 ps.length c2] 37)).alloc (.cells #[.int .i64 0, .slice none 0 0, .slice none 0 0] 37)) (w.heap.size + 1) := zd_at (by simp) (by simp)
 have hLB : DdR w w.heap.size bl ol AL l := CsR.more hL hB
 have Hpl := hide hpl
 clear hR hP hB hpl hL
 cases hok : deskOk ⟨⟨n, bs⟩, ps⟩
 ·rw [run_bad (by rw [hok]; rintro ⟨h, -⟩; cases h)]
  have Hok := hide hok
  clear hok hLB
  go_enter Tryz.func18, Tryz.ntmps18
  go_upto_region 1 with fail
  generalize (w.alloc (.cells #[.int .i64 n, .slice A bs.length c, .slice A2 ps.length c2] 37)).alloc (.cells #[.int .i64 0, .slice none 0 0, .slice none 0 0] 37) = W at hD hY ⊢
  have p0 := hD.c0
  have p1 := hD.c1
  have p2 := hD.c2
  go_upto_region 2 with (go_at_call 20; go_fit (sDeskOk_c n bs ps A A2 b o c b2 o2 c2 _ _ h16 hps Hpl.out (Nat.le_refl _) hD.rd hD.rp); rintro e w2 ⟨rfl, hb⟩; rw [Hok.out]; replace hD := hD.below hb; replace hY := hY.below hb)
  have hbel := hD.bel
  clear p0 p1 p2 hb hD
  have z0 := hY.z0
  have z1 := hY.z1
  have z2 := hY.z2
  have zf0 := hY.zf 0
  have zf1 := hY.zf 1
  have zf2 := hY.zf 2
  have hlo2 := hY.lo
  obtain ⟨r0, r1, r2⟩ := three_cellsD (a := .int .i64 0) (b := .slice none 0 0) (d := .slice none 0 0) z0 z1 z2
  have hb9 := ((hbel.setCell (p := ⟨w.heap.size + 1, 0, none⟩) hlo2 (.int .i64 0)).setCell (p := ⟨w.heap.size + 1, 1, none⟩) hlo2 (.slice none 0 0)).setCell (p := ⟨w.heap.size + 1, 2, none⟩) hlo2 (.slice none 0 0)
  go_wp2_with fail
  refine bodyPost_ret (v := .tuple #[.agg #[.int .i64 0, .slice none 0 0, .slice none 0 0], .int .i64 0]) (by simp [results, Tryz.results18, go_sem, r0, r1, r2]) rfl ?_
  exact ⟨_, rfl, dkrt_zero _ _, hb9⟩
 ·by_cases h40 : l.length ≤ 40
  ·rw [run_good ⟨hok, h40⟩]
   have hcall := fun (wq : World) (hR : BdsR wq wq.heap.size b o A bs) (hP : PlsR wq wq.heap.size b2 o2 A2 ps) (hL : DdR wq wq.heap.size bl ol AL l) => sRun_q rt hrt n bs ps l hok h40 A A2 AL b o c b2 o2 c2 bl ol cl _ wq (Nat.le_refl _) hR hP hL
   obtain ⟨⟨⟨⟨n', bs'⟩, ps'⟩, m⟩, hDD⟩ : ∃ D, runD rt ⟨⟨n, bs⟩, ps⟩ l = D := ⟨_, rfl⟩
   simp only [hDD] at hcall
   rw [hDD]
   have Hcall := hide hcall
   have Hok := hide hok
   clear hok hcall hDD
   have h40z : ¬ (40 : Int) < (l.length : Int) := by omega
   go_enter Tryz.func18, Tryz.ntmps18
   go_upto_region 1 with fail
   generalize (w.alloc (.cells #[.int .i64 n, .slice A bs.length c, .slice A2 ps.length c2] 37)).alloc (.cells #[.int .i64 0, .slice none 0 0, .slice none 0 0] 37) = W at hD hY ⊢
   have p0 := hD.c0
   have p1 := hD.c1
   have p2 := hD.c2
   go_upto_region 3 with (go_at_call 20; go_fit (sDeskOk_c n bs ps A A2 b o c b2 o2 c2 _ _ h16 hps Hpl.out (Nat.le_refl _) hD.rd hD.rp); rintro e w2 ⟨rfl, hb⟩; rw [Hok.out]; replace hD := hD.below hb; replace hY := hY.below hb)
   clear p0 p1 p2 hb
   have p0 := hD.c0
   have p1 := hD.c1
   have p2 := hD.c2
   have hYl := hY.ex
   have hyw : w.heap.size + 1 < w2.heap.size := hYl
   go_wp2_with (go_at_call 56; refine (Hcall.out _ hD.rd hD.rp ((CsR.below hLB hD.bel).more hD.bel.size)).mono ?_; rintro e w3 ⟨v, rfl, ⟨A3, c3, A4, c4, rfl, own3, ops3⟩, hb3⟩; try dsimp only at own3 ops3; have hY3 := hY.below hb3; have z0 := hY3.z0; have z1 := hY3.z1; have z2 := hY3.z2; have zf0 := hY3.zf 0; have zf1 := hY3.zf 1; have zf2 := hY3.zf 2)
   have hbel := bthen hD.bel hb3
   clear p0 p1 p2
   try dsimp only at own3 ops3 ⊢
   obtain ⟨r0, r1, r2⟩ := three_cellsD (a := .int .i64 n') (b := .slice A3 bs'.length c3) (d := .slice A4 ps'.length c4) z0 z1 z2
   have hlo2 := hY3.lo
   have hlo := hD.bel.size
   have own9 := ((own3.setLow hyw 0 (.int .i64 n')).setLow hyw 1 (.slice A3 bs'.length c3)).setLow hyw 2 (.slice A4 ps'.length c4)
   have ops9 := ((ops3.setLow hyw 0 (.int .i64 n')).setLow hyw 1 (.slice A3 bs'.length c3)).setLow hyw 2 (.slice A4 ps'.length c4)
   have hb9 := ((hbel.setCell (p := ⟨w.heap.size + 1, 0, none⟩) hlo2 (.int .i64 n')).setCell (p := ⟨w.heap.size + 1, 1, none⟩) hlo2 (.slice A3 bs'.length c3)).setCell (p := ⟨w.heap.size + 1, 2, none⟩) hlo2 (.slice A4 ps'.length c4)
   refine bodyPost_ret (v := .tuple #[.agg #[.int .i64 n', .slice A3 bs'.length c3, .slice A4 ps'.length c4], .int .i64 m]) (by simp [results, Tryz.results18, go_sem, r0, r1, r2]) rfl ?_
   exact ⟨_, rfl, ⟨A3, c3, A4, c4, rfl, own_less own9 hlo, ops9.less hlo⟩, hb9⟩
  ·rw [run_bad (fun h => h40 h.2)]
   have Hok := hide hok
   have h40z : (40 : Int) < (l.length : Int) := by omega
   clear hok hLB
   go_enter Tryz.func18, Tryz.ntmps18
   go_upto_region 1 with fail
   generalize (w.alloc (.cells #[.int .i64 n, .slice A bs.length c, .slice A2 ps.length c2] 37)).alloc (.cells #[.int .i64 0, .slice none 0 0, .slice none 0 0] 37) = W at hD hY ⊢
   have p0 := hD.c0
   have p1 := hD.c1
   have p2 := hD.c2
   go_upto_region 2 with (go_at_call 20; go_fit (sDeskOk_c n bs ps A A2 b o c b2 o2 c2 _ _ h16 hps Hpl.out (Nat.le_refl _) hD.rd hD.rp); rintro e w2 ⟨rfl, hb⟩; rw [Hok.out]; replace hD := hD.below hb; replace hY := hY.below hb)
   have hbel := hD.bel
   clear p0 p1 p2 hb hD
   have z0 := hY.z0
   have z1 := hY.z1
   have z2 := hY.z2
   have zf0 := hY.zf 0
   have zf1 := hY.zf 1
   have zf2 := hY.zf 2
   have hlo2 := hY.lo
   obtain ⟨r0, r1, r2⟩ := three_cellsD (a := .int .i64 0) (b := .slice none 0 0) (d := .slice none 0 0) z0 z1 z2
   have hb9 := ((hbel.setCell (p := ⟨w.heap.size + 1, 0, none⟩) hlo2 (.int .i64 0)).setCell (p := ⟨w.heap.size + 1, 1, none⟩) hlo2 (.slice none 0 0)).setCell (p := ⟨w.heap.size + 1, 2, none⟩) hlo2 (.slice none 0 0)
   go_wp2_with fail
   refine bodyPost_ret (v := .tuple #[.agg #[.int .i64 0, .slice none 0 0, .slice none 0 0], .int .i64 0]) (by simp [results, Tryz.results18, go_sem, r0, r1, r2]) rfl ?_
   exact ⟨_, rfl, dkrt_zero _ _, hb9⟩
end Go.Proofs.YtmnajkhoacogjaaGreatDoor
