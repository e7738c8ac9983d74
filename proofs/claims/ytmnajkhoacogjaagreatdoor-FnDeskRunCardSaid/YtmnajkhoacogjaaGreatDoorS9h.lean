/-
 spec: DeskDo.
 spec: DeskDo, of any desk.
-/
import Derived.Test.YtmnajkhoacogjaaGreatDoorR75
import Derived.Test.YtmnajkhoacogjaaGreatDoorS9d
import Derived.Test.YtmnajkhoacogjaaGreatDoorS9e
import Derived.Test.YtmnajkhoacogjaaGreatDoorS91
import Derived.Test.YtmnajkhoacogjaaGreatDoorP60
namespace Go.Proofs.YtmnajkhoacogjaaGreatDoor
set_option linter.unusedVariables false
set_option linter.unusedSimpArgs false
open Go Go.RowKit Pp

set_option maxHeartbeats 4000000 in
set_option maxRecDepth 100000 in
theorem sDeskDo_back (rt : List UInt8 → Option (List Mk)) (n : Int) (bs : List Bd) (ps : List Pl) (hok : deskOk ⟨⟨n, bs⟩, ps⟩ = true) (hne : 0 < ps.length) (A A2 : Option Addr) (b o c b2 o2 c2 B : Nat) (w : World) (hB : B ≤ w.heap.size) (hR : BdsR w B b o A bs) (hP : PlsR w B b2 o2 A2 ps) :
  Calls Tryz.prog 9 #[.agg #[.int .i64 n, .slice A bs.length c, .slice A2 ps.length c2], .agg #[.int .i64 6, .int .i64 0, .int .i64 0, .int .i64 0, .string ⟨#[]⟩]] w fun e w' => ∃ v, e = .returned v ∧ DkR w w' ⟨ps.getLastD ⟨0, []⟩, ps.dropLast⟩ true v ∧ Below w.heap.size w w' := by
 obtain ⟨h1, h2, h3⟩ := deskOk_iff.1 hok
 dsimp only at h1 h2 h3
 obtain ⟨hn, h16, -⟩ := planOk_iff.1 h2
 dsimp only at hn h16
 have hpl : ∀ p ∈ ps, p.bs.length ≤ 2000000 := fun p hp => by have := (planOk_iff.1 (h1 p hp)).2.1; omega
 have hpl2 : ∀ p ∈ ps, p.bs.length ≤ 100 := fun p hp => by have := (planOk_iff.1 (h1 p hp)).2.1; omega
 have Hpl := hide hpl
 have Hpl2 := hide hpl2
 have Hok := hide hok
 have H1 := hide h1
 have H2 := hide h2
 clear hok hpl hpl2 h1 h2
 have hD := ((dkb_new (t := 37) (n := n) (c := c) (c2 := c2) (Below.refl w.heap.size w) (hR.more hB) (hP.more hB)).alloc (.cells #[.int .i64 6, .int .i64 0, .int .i64 0, .int .i64 0, .string ⟨#[]⟩] 41)).alloc (.cells #[.int .i64 0, .slice none 0 0, .slice none 0 0] 37)
 have hE : DeB w (((w.alloc (.cells #[.int .i64 n, .slice A bs.length c, .slice A2 ps.length c2] 37)).alloc (.cells #[.int .i64 6, .int .i64 0, .int .i64 0, .int .i64 0, .string ⟨#[]⟩] 41)).alloc (.cells #[.int .i64 0, .slice none 0 0, .slice none 0 0] 37)) (w.heap.size + 1) 6 0 0 0 ⟨#[]⟩ := DeB.alloc (deb_new (by simp) (by simp)) _
 have hY : ZD w (((w.alloc (.cells #[.int .i64 n, .slice A bs.length c, .slice A2 ps.length c2] 37)).alloc (.cells #[.int .i64 6, .int .i64 0, .int .i64 0, .int .i64 0, .string ⟨#[]⟩] 41)).alloc (.cells #[.int .i64 0, .slice none 0 0, .slice none 0 0] 37)) (w.heap.size + 1 + 1) := zd_at (by simp) (by simp; omega)
 clear hR hP hB
 go_enter Tryz.func9, Tryz.ntmps9
 go_upto_region 1 with fail
 generalize ((w.alloc (.cells #[.int .i64 n, .slice A bs.length c, .slice A2 ps.length c2] 37)).alloc (.cells #[.int .i64 6, .int .i64 0, .int .i64 0, .int .i64 0, .string ⟨#[]⟩] 41)).alloc (.cells #[.int .i64 0, .slice none 0 0, .slice none 0 0] 37) = W at hD hE hY ⊢
 have p0 := hD.c0
 have p1 := hD.c1
 have p2 := hD.c2
 go_upto_region 3 with (go_at_call 20; go_fit (sDeskOk_c n bs ps A A2 b o c b2 o2 c2 _ _ (show bs.length ≤ 2000000 by omega) (show ps.length ≤ 2000000 by omega) Hpl.out (Nat.le_refl _) hD.rd hD.rp); rintro e w2 ⟨rfl, hb⟩; rw [Hok.out]; replace hD := hD.below hb; replace hE := hE.below hb; replace hY := hY.below hb)
 clear p0 p1 p2 hb
 have p0 := hD.c0
 have p1 := hD.c1
 have p2 := hD.c2
 go_upto_region 4 with (go_at_call 34; refine (l15Copy_q n bs ps A A2 b o c b2 o2 c2 _ _ (show bs.length ≤ 100 by omega) (show ps.length ≤ 100 by omega) Hpl2.out (Nat.le_refl _) hD.rd hD.rp).mono ?_; rintro e w3 ⟨v, rfl, ⟨A3, c3, A4, c4, rfl, own3, ops3⟩, hb3⟩; try dsimp only at own3 ops3)
 try dsimp only at own3 ops3 ⊢
 have hQ := md_of (n := n) (W := w2) hb3 own3 ops3
 have hal : Below w2.heap.size w2 (w3.alloc (.cells #[.int .i64 n, .slice A3 bs.length c3, .slice A4 ps.length c4] 37)) := bthen hb3 (by go_grown)
 replace hD := hD.below hal
 replace hE := hE.below hal
 replace hYl := hY.ex
 replace hY := hY.below hal
 have hxl := hb3.size
 clear p0 p1 p2 own3 ops3 hal
 generalize w3.alloc (.cells #[.int .i64 n, .slice A3 bs.length c3, .slice A4 ps.length c4] 37) = W1 at hQ hD hE hY ⊢
 generalize w3.heap.size = X at hQ hxl ⊢
 clear hb3
 have hYX : w.heap.size + 1 + 1 < X := by omega
 clear hxl
 have p0 := hD.c0
 have p1 := hD.c1
 have p2 := hD.c2
 have d0 := hE.c0
 have d1 := hE.c1
 have d2 := hE.c2
 have d3 := hE.c3
 have d4 := hE.c4
 have hlz : (0 : Int) < (ps.length : Int) := by omega
 have x0 := hQ.p0
 have x1 := hQ.p1
 have x2 := hQ.p2
 obtain ⟨m, hm⟩ : ∃ m, ps.length = m + 1 := ⟨ps.length - 1, by omega⟩
 have hmm : m ≤ ps.length := by omega
 have hmz : (ps.length : Int) - 1 = (m : Int) := by omega
 have hmi : (m : Int) < (ps.length : Int) := by omega
 have hx := List.getElem?_eq_getElem (show m < ps.length by omega)
 have hlast : Hid (ps.getLastD ⟨0, []⟩ = ps[m]'(by omega)) := by
  unfold Hid
  rw [List.getLastD_eq_getLast?, List.getLast?_eq_getElem?, show ps.length - 1 = m by omega, hx]
  rfl
 have hdl : Hid (ps.dropLast = ps.take m) := by
  unfold Hid
  rw [List.dropLast_eq_take, show ps.length - 1 = m by omega]
 obtain ⟨g, Aq, cq, rfl, hgl, e0, e1, ownq⟩ := hQ.ops.at hx
 have hcap := own_cap ownq
 obtain ⟨hcr, hcr63⟩ : ps.length ≤ c4 ∧ c4 ≤ 9223372036854775807 := by
  obtain ⟨cs, hrow, -⟩ := hQ.ops
  exact own_cap hrow
 have hmc : m ≤ c4 := by omega
 have hmcz : (m : Int) ≤ (c4 : Int) := by omega
 have hc40 : ¬ c4 = 0 := by omega
 have Hx := hide hx
 clear hx
 generalize ps[m] = q at hlast e0 e1 ownq hcap Hx
 have hlt : Hid ((ps.take m).length = m) := by unfold Hid; simp; omega
 clear hm
 have xf0 := hQ.cf 0
 have xf1 := hQ.cf 1
 have xf2 := hQ.cf 2
 go_upto_region 6 with fail
 go_upto_region 8 with fail
 have hQ5 := (hQ.putNow (n' := q.n) ownq).cut m hmm
 have hb5 : Below w2.heap.size W1 (((W1.setCell ⟨X, 0, none⟩ (.int .i64 q.n)).setCell ⟨X, 1, none⟩ (.slice Aq q.bs.length cq)).setCell ⟨X, 2, none⟩ (.slice (some ⟨g, 0, none⟩) m c4)) := (((Below.refl _ _).setCell hQ.lo _).setCell hQ.lo _).setCell hQ.lo _
 replace hY := hY.belowX hYl hb5
 have hbel := hD.bel.trans (hb5.mono (show w.heap.size ≤ w2.heap.size by omega))
 clear x0 x1 x2 xf0 xf1 xf2 e0 e1 hD hE p0 p1 p2 d0 d1 d2 d3 d4 hQ hb5 ownq
 generalize ((W1.setCell ⟨X, 0, none⟩ (.int .i64 q.n)).setCell ⟨X, 1, none⟩ (.slice Aq q.bs.length cq)).setCell ⟨X, 2, none⟩ (.slice (some ⟨g, 0, none⟩) m c4) = W5 at hQ5 hY hbel ⊢
 have x0 := hQ5.p0
 have x1 := hQ5.p1
 have x2 := hQ5.p2
 rw [hlt.out] at x2
 have z0 := hY.z0
 have z1 := hY.z1
 have z2 := hY.z2
 have zf0 := hY.zf 0
 have zf1 := hY.zf 1
 have zf2 := hY.zf 2
 have hYe := hY.ex
 have hlo2 := hY.lo
 obtain ⟨r0, r1, r2⟩ := three_cellsD (a := .int .i64 q.n) (b := .slice Aq q.bs.length cq) (d := .slice (some ⟨g, 0, none⟩) m c4) z0 z1 z2
 have own9 := ((hQ5.own.setLow hYl 0 (.int .i64 q.n)).setLow hYl 1 (.slice Aq q.bs.length cq)).setLow hYl 2 (.slice (some ⟨g, 0, none⟩) m c4)
 have ops9 := ((hQ5.ops.setLow hYl 0 (.int .i64 q.n)).setLow hYl 1 (.slice Aq q.bs.length cq)).setLow hYl 2 (.slice (some ⟨g, 0, none⟩) m c4)
 have hb9 := ((hbel.setCell (p := ⟨w.heap.size + 1 + 1, 0, none⟩) hlo2 (.int .i64 q.n)).setCell (p := ⟨w.heap.size + 1 + 1, 1, none⟩) hlo2 (.slice Aq q.bs.length cq)).setCell (p := ⟨w.heap.size + 1 + 1, 2, none⟩) hlo2 (.slice (some ⟨g, 0, none⟩) m c4)
 go_wp2_with fail
 refine bodyPost_ret (v := .tuple #[.agg #[.int .i64 q.n, .slice Aq q.bs.length cq, .slice (some ⟨g, 0, none⟩) m c4], .bool true]) (by simp [results, Tryz.results9, go_sem, r0, r1, r2]) rfl ?_
 have hfin := dkr_of (n := q.n) own9 ops9 (show w.heap.size ≤ w2.heap.size by omega) true
 rw [hlt.out] at hfin
 rw [hlast.out, hdl.out]
 exact ⟨_, rfl, hfin, hb9⟩
theorem ownT_drop {lo g c : Nat} {w : World} {qs : List Pl} (h : OwnPs lo w (.slice (some ⟨g, 0, none⟩) qs.length c) qs) (hl : 1 ≤ qs.length) : OwnT lo w (some ⟨g, 2, none⟩) (qs.drop 1) := by
 cases qs with
 | nil => simp at hl
 | cons q l => exact .inr ⟨q, g, c, rfl, h⟩
theorem text_ne {a b : List UInt8} (h : a ≠ b) : (a == b) = false := by simpa using h
set_option maxHeartbeats 4000000 in
set_option maxRecDepth 100000 in
theorem sDeskDo_do (rt : List UInt8 → Option (List Mk)) (hrt : IsRead rt) (n : Int) (bs : List Bd) (ps : List Pl) (k a1 a2 a3 : Int) (s : ByteArray) (L : List UInt8) (hL : s.data.toList = L) (hok : deskOk ⟨⟨n, bs⟩, ps⟩ = true) (hT : ((k == 6) && ((a1 == 0) && ((a2 == 0) && ((a3 == 0) && s.toList.isEmpty)))) = false ∨ (ps = [] ∧ k = 6 ∧ a1 = 0 ∧ a2 = 0 ∧ a3 = 0 ∧ s = ⟨#[]⟩)) (A A2 : Option Addr) (b o c b2 o2 c2 B : Nat) (w : World) (hcap : bs.length ≤ c) (hc63 : c ≤ 9223372036854775807) (hB : B ≤ w.heap.size) (hR : BdsR w B b o A bs) (hP : PlsR w B b2 o2 A2 ps) :
  Calls Tryz.prog 9 #[.agg #[.int .i64 n, .slice A bs.length c, .slice A2 ps.length c2], .agg #[.int .i64 k, .int .i64 a1, .int .i64 a2, .int .i64 a3, .string s]] w fun e w' => ∃ v, e = .returned v ∧ DkR w w' (deskDo rt ⟨⟨n, bs⟩, ps⟩ ⟨k, a1, a2, a3, L⟩).1 (deskDo rt ⟨⟨n, bs⟩, ps⟩ ⟨k, a1, a2, a3, L⟩).2 v ∧ Below w.heap.size w w' := by
 have hres : deskDo rt ⟨⟨n, bs⟩, ps⟩ ⟨k, a1, a2, a3, L⟩ = if planOk (madeP rt ⟨n, bs⟩ ⟨k, a1, a2, a3, L⟩) = true ∧ planText (madeP rt ⟨n, bs⟩ ⟨k, a1, a2, a3, L⟩) ≠ planText ⟨n, bs⟩ then (⟨madeP rt ⟨n, bs⟩ ⟨k, a1, a2, a3, L⟩, pushP ps ⟨n, bs⟩⟩, true) else (⟨⟨n, bs⟩, ps⟩, false) := by
  unfold deskDo
  rw [if_pos hok, if_neg]
  rintro ⟨⟨rfl, rfl, rfl, rfl, rfl⟩, h2⟩
  rcases hT with hT | hT
  ·rw [str_list hL] at hT
   simp at hT
  ·rw [hT.1] at h2
   simp at h2
 have hml := madeP_len rt ⟨n, bs⟩ (deskOk_iff.1 hok).2.1 ⟨k, a1, a2, a3, L⟩
 have hmc := fun (wq : World) (hB : w.heap.size ≤ wq.heap.size) (hq : BdsR wq w.heap.size b o A bs) => l15Made_q rt hrt ⟨n, bs⟩ (deskOk_iff.1 hok).2.1 k a1 a2 a3 s L hL A b o c _ wq hcap hc63 hB hq
 obtain ⟨j0, hj0, hy0, hy1, hy2⟩ := info_parts infoPl
 have HR0 := hide (hR.more hB)
 obtain ⟨m, hm⟩ : ∃ m, madeP rt ⟨n, bs⟩ ⟨k, a1, a2, a3, L⟩ = m := ⟨_, rfl⟩
 rw [hm] at hres hml
 simp only [hm] at hmc
 (try dsimp only at hmc)
 have Hmc := hide hmc
 obtain ⟨D, hDk⟩ : ∃ D, deskDo rt ⟨⟨n, bs⟩, ps⟩ ⟨k, a1, a2, a3, L⟩ = D := ⟨_, rfl⟩
 rw [hDk] at hres ⊢
 have Hres := hide hres
 clear hmc hm hDk hres
 obtain ⟨h1, h2, h3⟩ := deskOk_iff.1 hok
 dsimp only at h1 h2 h3
 obtain ⟨hn, h16, -⟩ := planOk_iff.1 h2
 dsimp only at hn h16
 have hpl : ∀ p ∈ ps, p.bs.length ≤ 2000000 := fun p hp => by have := (planOk_iff.1 (h1 p hp)).2.1; omega
 have hpl2 : ∀ p ∈ ps, p.bs.length ≤ 100 := fun p hp => by have := (planOk_iff.1 (h1 p hp)).2.1; omega
 have Hpl := hide hpl
 have Hpl2 := hide hpl2
 have Hok := hide hok
 have H1 := hide h1
 have H2 := hide h2
 clear hok hpl hpl2 h1 h2
 have hD := ((dkb_new (t := 37) (n := n) (c := c) (c2 := c2) (Below.refl w.heap.size w) (hR.more hB) (hP.more hB)).alloc (.cells #[.int .i64 k, .int .i64 a1, .int .i64 a2, .int .i64 a3, .string s] 41)).alloc (.cells #[.int .i64 0, .slice none 0 0, .slice none 0 0] 37)
 have hE : DeB w (((w.alloc (.cells #[.int .i64 n, .slice A bs.length c, .slice A2 ps.length c2] 37)).alloc (.cells #[.int .i64 k, .int .i64 a1, .int .i64 a2, .int .i64 a3, .string s] 41)).alloc (.cells #[.int .i64 0, .slice none 0 0, .slice none 0 0] 37)) (w.heap.size + 1) k a1 a2 a3 s := DeB.alloc (deb_new (by simp) (by simp)) _
 have hY : ZD w (((w.alloc (.cells #[.int .i64 n, .slice A bs.length c, .slice A2 ps.length c2] 37)).alloc (.cells #[.int .i64 k, .int .i64 a1, .int .i64 a2, .int .i64 a3, .string s] 41)).alloc (.cells #[.int .i64 0, .slice none 0 0, .slice none 0 0] 37)) (w.heap.size + 1 + 1) := zd_at (by simp) (by simp; omega)
 clear hR hP hB
 go_enter Tryz.func9, Tryz.ntmps9
 go_upto_region 1 with fail
 generalize ((w.alloc (.cells #[.int .i64 n, .slice A bs.length c, .slice A2 ps.length c2] 37)).alloc (.cells #[.int .i64 k, .int .i64 a1, .int .i64 a2, .int .i64 a3, .string s] 41)).alloc (.cells #[.int .i64 0, .slice none 0 0, .slice none 0 0] 37) = W at hD hE hY ⊢
 have p0 := hD.c0
 have p1 := hD.c1
 have p2 := hD.c2
 go_upto_region 3 with (go_at_call 20; go_fit (sDeskOk_c n bs ps A A2 b o c b2 o2 c2 _ _ (show bs.length ≤ 2000000 by omega) (show ps.length ≤ 2000000 by omega) Hpl.out (Nat.le_refl _) hD.rd hD.rp); rintro e w2 ⟨rfl, hb⟩; rw [Hok.out]; replace hD := hD.below hb; replace hE := hE.below hb; replace hY := hY.below hb)
 clear p0 p1 p2 hb
 have p0 := hD.c0
 have p1 := hD.c1
 have p2 := hD.c2
 go_upto_region 4 with (go_at_call 34; refine (l15Copy_q n bs ps A A2 b o c b2 o2 c2 _ _ (show bs.length ≤ 100 by omega) (show ps.length ≤ 100 by omega) Hpl2.out (Nat.le_refl _) hD.rd hD.rp).mono ?_; rintro e w3 ⟨v, rfl, ⟨A3, c3, A4, c4, rfl, own3, ops3⟩, hb3⟩; try dsimp only at own3 ops3)
 try dsimp only at own3 ops3 ⊢
 have hQ := md_of (n := n) (W := w2) hb3 own3 ops3
 have hal : Below w2.heap.size w2 (w3.alloc (.cells #[.int .i64 n, .slice A3 bs.length c3, .slice A4 ps.length c4] 37)) := bthen hb3 (by go_grown)
 replace hD := hD.below hal
 replace hE := hE.below hal
 replace hYl := hY.ex
 replace hY := hY.below hal
 have hxl := hb3.size
 clear p0 p1 p2 own3 ops3 hal
 generalize w3.alloc (.cells #[.int .i64 n, .slice A3 bs.length c3, .slice A4 ps.length c4] 37) = W1 at hQ hD hE hY ⊢
 generalize w3.heap.size = X at hQ hxl ⊢
 clear hb3
 have hYX : w.heap.size + 1 + 1 < X := by omega
 clear hxl
 have p0 := hD.c0
 have p1 := hD.c1
 have p2 := hD.c2
 have d0 := hE.c0
 have d1 := hE.c1
 have d2 := hE.c2
 have d3 := hE.c3
 have d4 := hE.c4
 go_cut [1, 15, 16, 17, 18, 19, 20, 21, 22, 23] (fun u1 u15 u16 u17 u18 u19 u20 u21 u22 s23 wx => s23 = .bool false ∧ wx = W1)
 case first =>
  rcases hT with hT | ⟨rfl, rfl, rfl, rfl, rfl, rfl⟩
  ·go_wp2_with fail
   all_goals
    go_meet
    case rel => first | exact ⟨rfl, rfl⟩ | (exfalso; simp_all; done)
  ·go_wp2_with fail
   go_meet
   case rel => exact ⟨rfl, rfl⟩
 case rest =>
  obtain ⟨rfl, rfl⟩ := hcut
  go_upto_region 10 with (go_at_call 35; refine (Hmc.out _ hD.bel.size (HR0.out.below hD.bel)).mono ?_; rintro e w4 ⟨v, rfl, ⟨A5, c5, g5, o5, rfl, hr5, hge5⟩, hb4⟩)
  have hXc := hQ.ex
  have hXl := hQ.lo
  have hVc := hb4.size
  have hrw : ∀ k, (Value.slice A4 ps.length c4).ownBlock = some k → w2.heap.size ≤ k ∧ k < wc.heap.size := fun k hk => by
   obtain ⟨cs, hrow, -⟩ := hQ.ops
   exact hrow.lt k hk
  have Hfar : Hid (w4.heap.size ≠ X ∧ (some w4.heap.size ≠ (Value.slice A4 ps.length c4).ownBlock) ∧ (0 < m.bs.length → g5 ≠ X ∧ some g5 ≠ (Value.slice A4 ps.length c4).ownBlock)) := by
   refine ⟨by omega, fun e => by have := hrw _ e.symm; omega, fun hl => ⟨?_, fun e => ?_⟩⟩
   ·have := hge5 hl; omega
   ·have := hge5 hl; have := hrw _ e.symm; omega
  clear hge5 hrw
  have hM := po_new (t := 34) (n := m.n) (c := c5) (Below.refl w4.heap.size w4) hr5
  have hal4 : Below wc.heap.size wc (w4.alloc (.cells #[.int .i64 m.n, .slice A5 m.bs.length c5] 34)) := bthen hb4 (by go_grown)
  replace hD := hD.below hal4
  replace hY := hY.below hal4
  replace hQ := hQ.below hal4
  clear p0 p1 p2 d0 d1 d2 d3 d4 hE hr5
  clear hb4 hal4
  generalize w4.alloc (.cells #[.int .i64 m.n, .slice A5 m.bs.length c5] 34) = W5 at hD hY hQ hM ⊢
  clear hVc
  generalize w4.heap.size = V at hM Hfar ⊢
  refine wp_regionE (fun w' => w'.cell? ⟨V, 0, none⟩ = some (.int .i64 m.n) ∧ w'.cell? ⟨V, 1, none⟩ = some (.slice A5 m.bs.length c5) ∧ w'.cell? ⟨w.heap.size, 0, none⟩ = some (.int .i64 n) ∧ w'.cell? ⟨w.heap.size, 1, none⟩ = some (.slice A bs.length c)) 10 (by kernel_rfl) ?_
  change wpE _ _ _ _ _ _ 11 #[false, false, false, false, false, false, false, false, false, false, false] _ _
  have hdr : Below W5.heap.size W5 W5.drew := by go_grown
  replace hD := hD.below hdr
  replace hY := hY.below hdr
  replace hQ := hQ.below hdr
  replace hM := hM.below hdr
  generalize W5.drew = wd at hD hY hQ hM ⊢
  have hS0 : wd.cell? ⟨V, 0, none⟩ = some (.int .i64 m.n) ∧ wd.cell? ⟨V, 1, none⟩ = some (.slice A5 m.bs.length c5) ∧ wd.cell? ⟨w.heap.size, 0, none⟩ = some (.int .i64 n) ∧ wd.cell? ⟨w.heap.size, 1, none⟩ = some (.slice A bs.length c) := ⟨hM.c0, hM.c1, hD.c0, hD.c1⟩
  refine wpE_tk (v := ?_) 0 [1, 3, 10] (hy := ?_) (hS := hS0) (h := ?_)
  rotate_left
  ·intro w' hSw
   simp only [xg0, xg1, xg2]
   go_simp
   all_goals with_reducible rfl
  simp only [xg0, xg1, xg2, Act.put, xs0, xs1, xs2]
  cases hpm : planOk m
  ·have Hpm := hide hpm
   have Hno : ∀ w' v, DkR w w' ⟨⟨n, bs⟩, ps⟩ false v → DkR w w' D.1 D.2 v := fun w' v h => by
    rw [Hres.out, if_neg (fun h => by rw [Hpm.out] at h; cases h.1)]
    exact h
   clear hpm
   refine wpE_step' 1 (of_decide_eq_true (by kernel_rfl)) (by kernel_rfl) (by kernel_rfl) (fun K hK => ?_)
   simp only [xg0, xg1, xg2]
   go_simp
   go_at_call 36
   refine (sPlanOk_c m A5 g5 o5 c5 _ _ (show m.bs.length ≤ 2000000 by omega) (Nat.le_refl _) hM.rd).mono ?_
   rintro e w6 ⟨rfl, hb6⟩
   rw [Hpm.out]
   replace hD := hD.below hb6
   replace hY := hY.below hb6
   replace hQ := hQ.below hb6
   replace hM := hM.below hb6
   refine hK.out _ _ (.inr ⟨hM.c0, hM.c1, hD.c0, hD.c1⟩) ?_
   clear hK K hS0
   simp only [Act.put, xs0, xs1, xs2]
   have hS0 : w6.cell? ⟨V, 0, none⟩ = some (.int .i64 m.n) ∧ w6.cell? ⟨V, 1, none⟩ = some (.slice A5 m.bs.length c5) ∧ w6.cell? ⟨w.heap.size, 0, none⟩ = some (.int .i64 n) ∧ w6.cell? ⟨w.heap.size, 1, none⟩ = some (.slice A bs.length c) := ⟨hM.c0, hM.c1, hD.c0, hD.c1⟩
   refine wpE_tk (v := ?_) 2 [3, 10] (hy := ?_) (hS := hS0) (h := ?_)
   rotate_left
   ·intro w' hSw
    simp only [xg0, xg1, xg2]
    go_simp
    all_goals with_reducible rfl
   simp only [xg0, xg1, xg2, Act.put, xs0, xs1, xs2]
   refine wpE_tk (v := ?_) 3 [10] (hy := ?_) (hS := hS0) (h := ?_)
   rotate_left
   ·intro w' hSw
    simp only [xg0, xg1, xg2]
    go_simp
    all_goals with_reducible rfl
   simp only [xg0, xg1, xg2, Act.put, xs0, xs1, xs2]
   refine wpE_skip' 4 [5, 9, 10] (of_decide_eq_true (by kernel_rfl)) (by kernel_rfl) (by kernel_rfl) (by kernel_rfl) (by kernel_rfl) (fun _ _ _ h => h) rfl hS0 ?_
   simp only [xg0, xg1, xg2, Act.put, xs0, xs1, xs2]
   refine wpE_skip' 6 [7, 8, 9, 10] (of_decide_eq_true (by kernel_rfl)) (by kernel_rfl) (by kernel_rfl) (by kernel_rfl) (by kernel_rfl) (fun _ _ _ h => h) rfl hS0 ?_
   simp only [xg0, xg1, xg2, Act.put, xs0, xs1, xs2]
   refine wpE_skip' 7 [8, 9, 10] (of_decide_eq_true (by kernel_rfl)) (by kernel_rfl) (by kernel_rfl) (by kernel_rfl) (by kernel_rfl) (fun _ _ _ h => h) rfl hS0 ?_
   simp only [xg0, xg1, xg2, Act.put, xs0, xs1, xs2]
   refine wpE_skip' 5 [9, 10] (of_decide_eq_true (by kernel_rfl)) (by kernel_rfl) (by kernel_rfl) (by kernel_rfl) (by kernel_rfl) (fun _ _ _ h => h) rfl hS0 ?_
   simp only [xg0, xg1, xg2, Act.put, xs0, xs1, xs2]
   refine wpE_skip' 8 [9, 10] (of_decide_eq_true (by kernel_rfl)) (by kernel_rfl) (by kernel_rfl) (by kernel_rfl) (by kernel_rfl) (fun _ _ _ h => h) rfl hS0 ?_
   simp only [xg0, xg1, xg2, Act.put, xs0, xs1, xs2]
   refine wpE_skip' 9 [10] (of_decide_eq_true (by kernel_rfl)) (by kernel_rfl) (by kernel_rfl) (by kernel_rfl) (by kernel_rfl) (fun _ _ _ h => h) rfl hS0 ?_
   simp only [xg0, xg1, xg2, Act.put, xs0, xs1, xs2]
   refine wpE_step' 10 (of_decide_eq_true (by kernel_rfl)) (by kernel_rfl) (by kernel_rfl) (fun K hK => ?_)
   simp only [xg0, xg1, xg2]
   go_simp
   refine hK.out _ _ (.inl rfl) ?_
   clear hK K
   simp only [Act.put, xs0, xs1, xs2]
   refine wpE_done (by kernel_rfl) ?_ _
   clear hS0 hM
   have x0 := hQ.p0
   have x1 := hQ.p1
   have x2 := hQ.p2
   go_upto_region 11 with fail
   clear x0 x1 x2
   have hQ5 := hQ
   have hlt : Hid (ps.length = ps.length) := rfl
   have hbel := hD.bel
   clear hD hQ
   have x0 := hQ5.p0
   have x1 := hQ5.p1
   have x2 := hQ5.p2
   rw [hlt.out] at x2
   have z0 := hY.z0
   have z1 := hY.z1
   have z2 := hY.z2
   have zf0 := hY.zf 0
   have zf1 := hY.zf 1
   have zf2 := hY.zf 2
   have hYe := hY.ex
   have hlo2 := hY.lo
   obtain ⟨r0, r1, r2⟩ := three_cellsD (a := .int .i64 n) (b := .slice A3 bs.length c3) (d := .slice A4 ps.length c4) z0 z1 z2
   have own9 := ((hQ5.own.setLow hYl 0 (.int .i64 n)).setLow hYl 1 (.slice A3 bs.length c3)).setLow hYl 2 (.slice A4 ps.length c4)
   have ops9 := ((hQ5.ops.setLow hYl 0 (.int .i64 n)).setLow hYl 1 (.slice A3 bs.length c3)).setLow hYl 2 (.slice A4 ps.length c4)
   have hb9 := ((hbel.setCell (p := ⟨w.heap.size + 1 + 1, 0, none⟩) hlo2 (.int .i64 n)).setCell (p := ⟨w.heap.size + 1 + 1, 1, none⟩) hlo2 (.slice A3 bs.length c3)).setCell (p := ⟨w.heap.size + 1 + 1, 2, none⟩) hlo2 (.slice A4 ps.length c4)
   go_wp2_with fail
   refine bodyPost_ret (v := .tuple #[.agg #[.int .i64 n, .slice A3 bs.length c3, .slice A4 ps.length c4], .bool false]) (by simp [results, Tryz.results9, go_sem, r0, r1, r2]) rfl ?_
   have hfin := dkr_of (w := w) (n := n) own9 ops9 (show w.heap.size ≤ w2.heap.size by omega) false
   exact ⟨_, rfl, Hno _ _ hfin, hb9⟩
  ·have hcall1 := fun wq hq => sPlanText_c m hpm A5 g5 o5 c5 _ wq (Nat.le_refl _) hq
   have hcall2 := fun (wq : World) (hq : BdsR wq wq.heap.size b o A bs) => sPlanText_c ⟨n, bs⟩ H2.out A b o c _ wq (Nat.le_refl _) hq
   dsimp only at hcall2
   obtain ⟨t1, ht1⟩ : ∃ t1, planText m = t1 := ⟨_, rfl⟩
   obtain ⟨t2, ht2⟩ : ∃ t2, planText ⟨n, bs⟩ = t2 := ⟨_, rfl⟩
   simp only [ht1] at hcall1
   simp only [ht2] at hcall2
   have hres := Hres.out
   rw [hpm, ht1, ht2] at hres
   have Hcall1 := hide hcall1
   have Hcall2 := hide hcall2
   have Hpm := hide hpm
   clear hcall1 hcall2 ht1 ht2 hpm
   by_cases htt : t1 = t2
   ·have Hno : ∀ w' v, DkR w w' ⟨⟨n, bs⟩, ps⟩ false v → DkR w w' D.1 D.2 v := fun w' v h => by
     rw [hres, if_neg (fun h => h.2 htt)]
     exact h
    have hcmp : (t1 == t2) = true := by simpa using htt
    clear hres htt
    refine wpE_step' 1 (of_decide_eq_true (by kernel_rfl)) (by kernel_rfl) (by kernel_rfl) (fun K hK => ?_)
    simp only [xg0, xg1, xg2]
    go_simp
    go_at_call 36
    refine (sPlanOk_c m A5 g5 o5 c5 _ _ (show m.bs.length ≤ 2000000 by omega) (Nat.le_refl _) hM.rd).mono ?_
    rintro e w6 ⟨rfl, hb6⟩
    rw [Hpm.out]
    replace hD := hD.below hb6
    replace hY := hY.below hb6
    replace hQ := hQ.below hb6
    replace hM := hM.below hb6
    refine hK.out _ _ (.inr ⟨hM.c0, hM.c1, hD.c0, hD.c1⟩) ?_
    clear hK K hS0
    simp only [Act.put, xs0, xs1, xs2]
    have hS0 : w6.cell? ⟨V, 0, none⟩ = some (.int .i64 m.n) ∧ w6.cell? ⟨V, 1, none⟩ = some (.slice A5 m.bs.length c5) ∧ w6.cell? ⟨w.heap.size, 0, none⟩ = some (.int .i64 n) ∧ w6.cell? ⟨w.heap.size, 1, none⟩ = some (.slice A bs.length c) := ⟨hM.c0, hM.c1, hD.c0, hD.c1⟩
    refine wpE_tk (v := ?_) 2 [3, 10] (hy := ?_) (hS := hS0) (h := ?_)
    rotate_left
    ·intro w' hSw
     simp only [xg0, xg1, xg2]
     go_simp
     all_goals with_reducible rfl
    simp only [xg0, xg1, xg2, Act.put, xs0, xs1, xs2]
    refine wpE_tk (v := ?_) 3 [10] (hy := ?_) (hS := hS0) (h := ?_)
    rotate_left
    ·intro w' hSw
     simp only [xg0, xg1, xg2]
     go_simp
     all_goals with_reducible rfl
    simp only [xg0, xg1, xg2, Act.put, xs0, xs1, xs2]
    refine wpE_takeG' (v := ?_) 4 [5, 9, 10] (of_decide_eq_true (by kernel_rfl)) (by kernel_rfl) (by kernel_rfl) (by kernel_rfl) (by kernel_rfl) (fun _ _ _ h => h) rfl ?_ hS0 ?_
    rotate_left
    ·intro w' hSw
     simp only [xg0, xg1, xg2]
     go_simp
     all_goals with_reducible rfl
    simp only [xg0, xg1, xg2, Act.put, xs0, xs1, xs2]
    refine wpE_takeG' (v := ?_) 6 [7, 8, 9, 10] (of_decide_eq_true (by kernel_rfl)) (by kernel_rfl) (by kernel_rfl) (by kernel_rfl) (by kernel_rfl) (fun _ _ _ h => h) rfl ?_ hS0 ?_
    rotate_left
    ·intro w' hSw
     simp only [xg0, xg1, xg2]
     go_simp
     all_goals with_reducible rfl
    simp only [xg0, xg1, xg2, Act.put, xs0, xs1, xs2]
    refine wpE_takeG' (v := ?_) 7 [8, 9, 10] (of_decide_eq_true (by kernel_rfl)) (by kernel_rfl) (by kernel_rfl) (by kernel_rfl) (by kernel_rfl) (fun _ _ _ h => h) rfl ?_ hS0 ?_
    rotate_left
    ·intro w' hSw
     simp only [xg0, xg1, xg2]
     go_simp
     all_goals with_reducible rfl
    simp only [xg0, xg1, xg2, Act.put, xs0, xs1, xs2]
    refine wpE_stepG' 5 (of_decide_eq_true (by kernel_rfl)) rfl (by kernel_rfl) (fun K hK => ?_)
    simp only [xg0, xg1, xg2]
    go_simp
    go_at_call 37
    refine (Hcall1.out _ hM.rd).mono ?_
    rintro e w7 ⟨rfl, hb7⟩
    unfold txt
    replace hD := hD.below hb7
    replace hY := hY.below hb7
    replace hQ := hQ.below hb7
    replace hM := hM.below hb7
    refine hK.out _ _ (.inr ⟨hM.c0, hM.c1, hD.c0, hD.c1⟩) ?_
    clear hK K hS0
    simp only [Act.put, xs0, xs1, xs2]
    refine wpE_stepG' 8 (of_decide_eq_true (by kernel_rfl)) rfl (by kernel_rfl) (fun K hK => ?_)
    simp only [xg0, xg1, xg2]
    go_simp
    go_at_call 37
    refine (Hcall2.out _ hD.rd).mono ?_
    rintro e w8 ⟨rfl, hb8⟩
    unfold txt
    replace hD := hD.below hb8
    replace hY := hY.below hb8
    replace hQ := hQ.below hb8
    replace hM := hM.below hb8
    refine hK.out _ _ (.inr ⟨hM.c0, hM.c1, hD.c0, hD.c1⟩) ?_
    clear hK K
    simp only [Act.put, xs0, xs1, xs2]
    have hS0 : w8.cell? ⟨V, 0, none⟩ = some (.int .i64 m.n) ∧ w8.cell? ⟨V, 1, none⟩ = some (.slice A5 m.bs.length c5) ∧ w8.cell? ⟨w.heap.size, 0, none⟩ = some (.int .i64 n) ∧ w8.cell? ⟨w.heap.size, 1, none⟩ = some (.slice A bs.length c) := ⟨hM.c0, hM.c1, hD.c0, hD.c1⟩
    refine wpE_takeG' (v := ?_) 9 [10] (of_decide_eq_true (by kernel_rfl)) (by kernel_rfl) (by kernel_rfl) (by kernel_rfl) (by kernel_rfl) (fun _ _ _ h => h) rfl ?_ hS0 ?_
    rotate_left
    ·intro w' hSw
     simp only [xg0, xg1, xg2]
     go_simp
     all_goals with_reducible rfl
    simp only [xg0, xg1, xg2, Act.put, xs0, xs1, xs2]
    refine wpE_step' 10 (of_decide_eq_true (by kernel_rfl)) (by kernel_rfl) (by kernel_rfl) (fun K hK => ?_)
    simp only [xg0, xg1, xg2]
    go_simp
    refine hK.out _ _ (.inl rfl) ?_
    clear hK K
    simp only [Act.put, xs0, xs1, xs2]
    refine wpE_done (by kernel_rfl) ?_ _
    clear hS0
    clear hcmp
    have x0 := hQ.p0
    have x1 := hQ.p1
    have x2 := hQ.p2
    go_upto_region 11 with fail
    clear x0 x1 x2
    have hQ5 := hQ
    have hlt : Hid (ps.length = ps.length) := rfl
    have hbel := hD.bel
    clear hD hQ
    have x0 := hQ5.p0
    have x1 := hQ5.p1
    have x2 := hQ5.p2
    rw [hlt.out] at x2
    have z0 := hY.z0
    have z1 := hY.z1
    have z2 := hY.z2
    have zf0 := hY.zf 0
    have zf1 := hY.zf 1
    have zf2 := hY.zf 2
    have hYe := hY.ex
    have hlo2 := hY.lo
    obtain ⟨r0, r1, r2⟩ := three_cellsD (a := .int .i64 n) (b := .slice A3 bs.length c3) (d := .slice A4 ps.length c4) z0 z1 z2
    have own9 := ((hQ5.own.setLow hYl 0 (.int .i64 n)).setLow hYl 1 (.slice A3 bs.length c3)).setLow hYl 2 (.slice A4 ps.length c4)
    have ops9 := ((hQ5.ops.setLow hYl 0 (.int .i64 n)).setLow hYl 1 (.slice A3 bs.length c3)).setLow hYl 2 (.slice A4 ps.length c4)
    have hb9 := ((hbel.setCell (p := ⟨w.heap.size + 1 + 1, 0, none⟩) hlo2 (.int .i64 n)).setCell (p := ⟨w.heap.size + 1 + 1, 1, none⟩) hlo2 (.slice A3 bs.length c3)).setCell (p := ⟨w.heap.size + 1 + 1, 2, none⟩) hlo2 (.slice A4 ps.length c4)
    go_wp2_with fail
    refine bodyPost_ret (v := .tuple #[.agg #[.int .i64 n, .slice A3 bs.length c3, .slice A4 ps.length c4], .bool false]) (by simp [results, Tryz.results9, go_sem, r0, r1, r2]) rfl ?_
    have hfin := dkr_of (w := w) (n := n) own9 ops9 (show w.heap.size ≤ w2.heap.size by omega) false
    exact ⟨_, rfl, Hno _ _ hfin, hb9⟩
   ·have Hyes : ∀ w' v, DkR w w' ⟨m, pushP ps ⟨n, bs⟩⟩ true v → DkR w w' D.1 D.2 v := fun w' v h => by
     rw [hres, if_pos ⟨rfl, htt⟩]
     exact h
    have hcmp : (t1 == t2) = false := text_ne htt
    clear hres htt
    refine wpE_step' 1 (of_decide_eq_true (by kernel_rfl)) (by kernel_rfl) (by kernel_rfl) (fun K hK => ?_)
    simp only [xg0, xg1, xg2]
    go_simp
    go_at_call 36
    refine (sPlanOk_c m A5 g5 o5 c5 _ _ (show m.bs.length ≤ 2000000 by omega) (Nat.le_refl _) hM.rd).mono ?_
    rintro e w6 ⟨rfl, hb6⟩
    rw [Hpm.out]
    replace hD := hD.below hb6
    replace hY := hY.below hb6
    replace hQ := hQ.below hb6
    replace hM := hM.below hb6
    refine hK.out _ _ (.inr ⟨hM.c0, hM.c1, hD.c0, hD.c1⟩) ?_
    clear hK K hS0
    simp only [Act.put, xs0, xs1, xs2]
    have hS0 : w6.cell? ⟨V, 0, none⟩ = some (.int .i64 m.n) ∧ w6.cell? ⟨V, 1, none⟩ = some (.slice A5 m.bs.length c5) ∧ w6.cell? ⟨w.heap.size, 0, none⟩ = some (.int .i64 n) ∧ w6.cell? ⟨w.heap.size, 1, none⟩ = some (.slice A bs.length c) := ⟨hM.c0, hM.c1, hD.c0, hD.c1⟩
    refine wpE_tk (v := ?_) 2 [3, 10] (hy := ?_) (hS := hS0) (h := ?_)
    rotate_left
    ·intro w' hSw
     simp only [xg0, xg1, xg2]
     go_simp
     all_goals with_reducible rfl
    simp only [xg0, xg1, xg2, Act.put, xs0, xs1, xs2]
    refine wpE_tk (v := ?_) 3 [10] (hy := ?_) (hS := hS0) (h := ?_)
    rotate_left
    ·intro w' hSw
     simp only [xg0, xg1, xg2]
     go_simp
     all_goals with_reducible rfl
    simp only [xg0, xg1, xg2, Act.put, xs0, xs1, xs2]
    refine wpE_takeG' (v := ?_) 4 [5, 9, 10] (of_decide_eq_true (by kernel_rfl)) (by kernel_rfl) (by kernel_rfl) (by kernel_rfl) (by kernel_rfl) (fun _ _ _ h => h) rfl ?_ hS0 ?_
    rotate_left
    ·intro w' hSw
     simp only [xg0, xg1, xg2]
     go_simp
     all_goals with_reducible rfl
    simp only [xg0, xg1, xg2, Act.put, xs0, xs1, xs2]
    refine wpE_takeG' (v := ?_) 6 [7, 8, 9, 10] (of_decide_eq_true (by kernel_rfl)) (by kernel_rfl) (by kernel_rfl) (by kernel_rfl) (by kernel_rfl) (fun _ _ _ h => h) rfl ?_ hS0 ?_
    rotate_left
    ·intro w' hSw
     simp only [xg0, xg1, xg2]
     go_simp
     all_goals with_reducible rfl
    simp only [xg0, xg1, xg2, Act.put, xs0, xs1, xs2]
    refine wpE_takeG' (v := ?_) 7 [8, 9, 10] (of_decide_eq_true (by kernel_rfl)) (by kernel_rfl) (by kernel_rfl) (by kernel_rfl) (by kernel_rfl) (fun _ _ _ h => h) rfl ?_ hS0 ?_
    rotate_left
    ·intro w' hSw
     simp only [xg0, xg1, xg2]
     go_simp
     all_goals with_reducible rfl
    simp only [xg0, xg1, xg2, Act.put, xs0, xs1, xs2]
    refine wpE_stepG' 5 (of_decide_eq_true (by kernel_rfl)) rfl (by kernel_rfl) (fun K hK => ?_)
    simp only [xg0, xg1, xg2]
    go_simp
    go_at_call 37
    refine (Hcall1.out _ hM.rd).mono ?_
    rintro e w7 ⟨rfl, hb7⟩
    unfold txt
    replace hD := hD.below hb7
    replace hY := hY.below hb7
    replace hQ := hQ.below hb7
    replace hM := hM.below hb7
    refine hK.out _ _ (.inr ⟨hM.c0, hM.c1, hD.c0, hD.c1⟩) ?_
    clear hK K hS0
    simp only [Act.put, xs0, xs1, xs2]
    refine wpE_stepG' 8 (of_decide_eq_true (by kernel_rfl)) rfl (by kernel_rfl) (fun K hK => ?_)
    simp only [xg0, xg1, xg2]
    go_simp
    go_at_call 37
    refine (Hcall2.out _ hD.rd).mono ?_
    rintro e w8 ⟨rfl, hb8⟩
    unfold txt
    replace hD := hD.below hb8
    replace hY := hY.below hb8
    replace hQ := hQ.below hb8
    replace hM := hM.below hb8
    refine hK.out _ _ (.inr ⟨hM.c0, hM.c1, hD.c0, hD.c1⟩) ?_
    clear hK K
    simp only [Act.put, xs0, xs1, xs2]
    have hS0 : w8.cell? ⟨V, 0, none⟩ = some (.int .i64 m.n) ∧ w8.cell? ⟨V, 1, none⟩ = some (.slice A5 m.bs.length c5) ∧ w8.cell? ⟨w.heap.size, 0, none⟩ = some (.int .i64 n) ∧ w8.cell? ⟨w.heap.size, 1, none⟩ = some (.slice A bs.length c) := ⟨hM.c0, hM.c1, hD.c0, hD.c1⟩
    refine wpE_takeG' (v := ?_) 9 [10] (of_decide_eq_true (by kernel_rfl)) (by kernel_rfl) (by kernel_rfl) (by kernel_rfl) (by kernel_rfl) (fun _ _ _ h => h) rfl ?_ hS0 ?_
    rotate_left
    ·intro w' hSw
     simp only [xg0, xg1, xg2]
     go_simp
     all_goals with_reducible rfl
    simp only [xg0, xg1, xg2, Act.put, xs0, xs1, xs2]
    refine wpE_step' 10 (of_decide_eq_true (by kernel_rfl)) (by kernel_rfl) (by kernel_rfl) (fun K hK => ?_)
    simp only [xg0, xg1, xg2]
    go_simp
    refine hK.out _ _ (.inl rfl) ?_
    clear hK K
    simp only [Act.put, xs0, xs1, xs2]
    refine wpE_done (by kernel_rfl) ?_ _
    clear hS0
    clear hcmp
    have hV : VB w8 V g5 o5 m.n A5 c5 m.bs := ⟨hM.ex, hM.c0, hM.c1, hM.rd⟩
    have hbel := hD.bel
    clear hD hM hXc hXl
    have hQa := hQ.alloc (.cells #[.int .i64 n, .slice A3 bs.length c3] 34)
    have hala : Below w8.heap.size w8 (w8.alloc (.cells #[.int .i64 n, .slice A3 bs.length c3] 34)) := by go_grown
    have hYa := hY.below hala
    have hVa := hV.below hala
    have hbela := bthen hbel hala
    obtain ⟨cs, hrow, hplc⟩ := hQa.ops
    have x0 := hQ.p0
    have x1 := hQ.p1
    have x2 := hQ.p2
    have hcf2 := hQ.cf 2
    go_upto_region 12 with fail
    go_upto_region 13 with (at_builtin; refine app_list _ rfl (.tmp 57) (.tmp 60) _ rfl w2.heap.size 34 j0 _ 2 32 Tryz.underlying35 hj0 hy0 hy1 hy2 rfl (by omega) (.slice A4 ps.length c4) ps.length cs rfl hrow _ 1 _ [.int .i64 n, .slice A3 bs.length c3] rfl rfl (NewsAt.block (cs := #[.int .i64 n, .slice A3 bs.length c3]) (at_new rfl)) (by simp [Value.oneCell']) (by omega) (by omega) hQa.bel.size ?_; intro A7 c7 w7 hown7 hg7 hat7; obtain ⟨z2, zf, hQ7, hb7⟩ := hQa.app (p := ⟨n, bs⟩) (A2' := A7) (c2' := c7) hrow hplc hQa.own hg7 hown7)
    have hY7 := (hYa.grown hg7 (fun k hk => by have := (hrow.lt k hk).1; omega)).grown (grown_set w7 ⟨X, 2, none⟩ (.slice A7 (ps.length + 1) c7)) (fun q hq => by cases hq; dsimp only; omega)
    have hV7 := (hVa.grown hg7 Hfar.out.2.1 (fun h => (Hfar.out.2.2 h).2)).set (i := 2) Hfar.out.1 (fun h => (Hfar.out.2.2 h).1) (.slice A7 (ps.length + 1) c7)
    have hbel7 : Below w.heap.size w (w7.setCell ⟨X, 2, none⟩ (.slice A7 (ps.length + 1) c7)) := (below_app hbela hrow hg7 (by omega) hQa.bel.size).setCell (p := ⟨X, 2, none⟩) (by show w.heap.size ≤ X; omega) _
    have hX7 := hQ7.toX
    obtain ⟨hcr, hcr63⟩ := own_cap hown7
    clear hown7 hg7 hat7 z2 zf hQ7 hb7 hrow hplc x0 x1 x2 hcf2 hQa hala hYa hVa hbela hbel hV hQ hY
    obtain ⟨qs, hqs⟩ : ∃ qs, ps ++ [(⟨n, bs⟩ : Pl)] = qs := ⟨_, rfl⟩
    rw [hqs] at hX7
    have hql : qs.length = ps.length + 1 := by rw [← hqs]; simp
    have Hql := hide hql
    rw [hql] at hX7
    have Hqs := hide hqs
    clear hql hqs
    generalize w7.setCell ⟨X, 2, none⟩ (.slice A7 (ps.length + 1) c7) = W8 at hY7 hV7 hbel7 hX7 ⊢
    have x2 := hX7.p2
    have hcf2 := hX7.cf 2
    have hops := hX7.ops
    rw [← Hql.out] at hops
    obtain ⟨g7, hrp7⟩ := hops.reads
    obtain rfl := hrp7.addr (by rw [Hql.out]; omega)
    clear hops hrp7
    have v0 := hV7.c0
    have v1 := hV7.c1
    by_cases h8 : ps.length + 1 ≤ 8
    ·have h8z : ¬ (8 : Int) < (ps.length : Int) + 1 := by omega
     have hpush : Hid (pushP ps ⟨n, bs⟩ = qs) := by
      unfold Hid pushP
      rw [Hqs.out, if_neg (by rw [Hql.out]; omega)]
     go_upto_region 15 with fail
     clear x2 hcf2
     go_upto_region 16 with (go_at_call 38; refine (l15Plan_q m A5 g5 o5 c5 _ _ (show m.bs.length ≤ 100 by omega) (Nat.le_refl _) hV7.rd).mono ?_; rintro e w9 ⟨A9, c9, g9, rfl, hr9, own9, hb9⟩; have hX8 := hX7.below hb9; have y0 := hX8.p0; have y1 := hX8.p1; have yf0 := hX8.cf 0; have yf1 := hX8.cf 1)
     have hlo9 := hX7.bel.size
     have hX9 := hX8.putNow (n' := m.n) (own_less own9 hlo9)
     have hb10 : Below w2.heap.size w9 ((w9.setCell ⟨X, 0, none⟩ (.int .i64 m.n)).setCell ⟨X, 1, none⟩ (.slice A9 m.bs.length c9)) := ((Below.refl _ _).setCell hX8.lo _).setCell hX8.lo _
     have hY9 := (hY7.below hb9).belowX hYl hb10
     have hbel9 := (bthen hbel7 hb9).trans (hb10.mono (show w.heap.size ≤ w2.heap.size by omega))
     clear y0 y1 yf0 yf1 hX8 hX7 hY7 hV7 hbel7 hb9 hb10 own9 hr9 v0 v1 hlo9
     generalize (w9.setCell ⟨X, 0, none⟩ (.int .i64 m.n)).setCell ⟨X, 1, none⟩ (.slice A9 m.bs.length c9) = W9 at hX9 hY9 hbel9 ⊢
     have x0 := hX9.p0
     have x1 := hX9.p1
     have x2 := hX9.p2
     have z0 := hY9.z0
     have z1 := hY9.z1
     have z2 := hY9.z2
     have zf0 := hY9.zf 0
     have zf1 := hY9.zf 1
     have zf2 := hY9.zf 2
     have hlo2 := hY9.lo
     obtain ⟨r0, r1, r2⟩ := three_cellsD (a := .int .i64 m.n) (b := .slice A9 m.bs.length c9) (d := .slice (some ⟨g7, 0, none⟩) (ps.length + 1) c7) z0 z1 z2
     have own11 := ((hX9.own.setLow hYl 0 (.int .i64 m.n)).setLow hYl 1 (.slice A9 m.bs.length c9)).setLow hYl 2 (.slice (some ⟨g7, 0, none⟩) (ps.length + 1) c7)
     have hb11 := ((hbel9.setCell (p := ⟨w.heap.size + 1 + 1, 0, none⟩) hlo2 (.int .i64 m.n)).setCell (p := ⟨w.heap.size + 1 + 1, 1, none⟩) hlo2 (.slice A9 m.bs.length c9)).setCell (p := ⟨w.heap.size + 1 + 1, 2, none⟩) hlo2 (.slice (some ⟨g7, 0, none⟩) (ps.length + 1) c7)
     go_wp2_with fail
     refine bodyPost_ret (v := .tuple #[.agg #[.int .i64 m.n, .slice A9 m.bs.length c9, .slice (some ⟨g7, 0, none⟩) (ps.length + 1) c7], .bool true]) (by simp [results, Tryz.results9, go_sem, r0, r1, r2]) rfl ?_
     have hops9 := hX9.ops
     rw [← Hql.out] at hops9
     have ops9 := ((hops9.setLow hYl 0 (.int .i64 m.n)).setLow hYl 1 (.slice A9 m.bs.length c9)).setLow hYl 2 (.slice (some ⟨g7, 0, none⟩) (ps.length + 1) c7)
     have hfin := dkr_of (w := w) (n := m.n) own11 ops9 (show w.heap.size ≤ w2.heap.size by omega) true
     rw [Hql.out] at hfin
     obtain ⟨m1, m2⟩ := m
     exact ⟨_, rfl, Hyes _ _ (by rw [hpush.out]; exact hfin), hb11⟩
    ·have h8z : (8 : Int) < (ps.length : Int) + 1 := by omega
     have h1 : ¬ c7 = 1 := by omega
     have h1z : (1 : Int) ≤ (ps.length : Int) + 1 := by omega
     have hpush : Hid (pushP ps ⟨n, bs⟩ = qs.drop 1) := by
      unfold Hid pushP
      rw [Hqs.out, if_pos (by rw [Hql.out]; omega)]
     have hdl : Hid ((qs.drop 1).length = ps.length) := by unfold Hid; rw [List.length_drop, Hql.out]; omega
     have hX8 := hX7.set2 (.slice (some ⟨g7, 2, none⟩) ps.length (c7 - 1))
     have hb8' : Below w2.heap.size W8 (W8.setCell ⟨X, 2, none⟩ (.slice (some ⟨g7, 2, none⟩) ps.length (c7 - 1))) := (Below.refl _ _).setCell hX7.lo _
     have hY8 := hY7.belowX hYl hb8'
     have hV8 := hV7.set (i := 2) Hfar.out.1 (fun h => (Hfar.out.2.2 h).1) (.slice (some ⟨g7, 2, none⟩) ps.length (c7 - 1))
     have hbel8 := hbel7.trans (hb8'.mono (show w.heap.size ≤ w2.heap.size by omega))
     go_upto_region 15 with fail
     clear x2 hcf2 hX7 hY7 hV7 hbel7 hb8' v0 v1
     generalize W8.setCell ⟨X, 2, none⟩ (.slice (some ⟨g7, 2, none⟩) ps.length (c7 - 1)) = W88 at hX8 hY8 hV8 hbel8 ⊢
     have hX7 := hX8
     have hY7 := hY8
     have hV7 := hV8
     have hbel7 := hbel8
     clear hX8 hY8 hV8 hbel8
     have v0 := hV7.c0
     have v1 := hV7.c1
     go_upto_region 16 with (go_at_call 38; refine (l15Plan_q m A5 g5 o5 c5 _ _ (show m.bs.length ≤ 100 by omega) (Nat.le_refl _) hV7.rd).mono ?_; rintro e w9 ⟨A9, c9, g9, rfl, hr9, own9, hb9⟩; have hX8 := hX7.below hb9; have y0 := hX8.p0; have y1 := hX8.p1; have yf0 := hX8.cf 0; have yf1 := hX8.cf 1)
     have hlo9 := hX7.bel.size
     have hX9 := hX8.putNow (n' := m.n) (own_less own9 hlo9)
     have hb10 : Below w2.heap.size w9 ((w9.setCell ⟨X, 0, none⟩ (.int .i64 m.n)).setCell ⟨X, 1, none⟩ (.slice A9 m.bs.length c9)) := ((Below.refl _ _).setCell hX8.lo _).setCell hX8.lo _
     have hY9 := (hY7.below hb9).belowX hYl hb10
     have hbel9 := (bthen hbel7 hb9).trans (hb10.mono (show w.heap.size ≤ w2.heap.size by omega))
     clear y0 y1 yf0 yf1 hX8 hX7 hY7 hV7 hbel7 hb9 hb10 own9 hr9 v0 v1 hlo9
     generalize (w9.setCell ⟨X, 0, none⟩ (.int .i64 m.n)).setCell ⟨X, 1, none⟩ (.slice A9 m.bs.length c9) = W9 at hX9 hY9 hbel9 ⊢
     have x0 := hX9.p0
     have x1 := hX9.p1
     have x2 := hX9.p2
     have z0 := hY9.z0
     have z1 := hY9.z1
     have z2 := hY9.z2
     have zf0 := hY9.zf 0
     have zf1 := hY9.zf 1
     have zf2 := hY9.zf 2
     have hlo2 := hY9.lo
     obtain ⟨r0, r1, r2⟩ := three_cellsD (a := .int .i64 m.n) (b := .slice A9 m.bs.length c9) (d := .slice (some ⟨g7, 2, none⟩) ps.length (c7 - 1)) z0 z1 z2
     have own11 := ((hX9.own.setLow hYl 0 (.int .i64 m.n)).setLow hYl 1 (.slice A9 m.bs.length c9)).setLow hYl 2 (.slice (some ⟨g7, 2, none⟩) ps.length (c7 - 1))
     have hb11 := ((hbel9.setCell (p := ⟨w.heap.size + 1 + 1, 0, none⟩) hlo2 (.int .i64 m.n)).setCell (p := ⟨w.heap.size + 1 + 1, 1, none⟩) hlo2 (.slice A9 m.bs.length c9)).setCell (p := ⟨w.heap.size + 1 + 1, 2, none⟩) hlo2 (.slice (some ⟨g7, 2, none⟩) ps.length (c7 - 1))
     go_wp2_with fail
     refine bodyPost_ret (v := .tuple #[.agg #[.int .i64 m.n, .slice A9 m.bs.length c9, .slice (some ⟨g7, 2, none⟩) ps.length (c7 - 1)], .bool true]) (by simp [results, Tryz.results9, go_sem, r0, r1, r2]) rfl ?_
     have hops9 := hX9.ops
     rw [← Hql.out] at hops9
     have ops9 := ((hops9.setLow hYl 0 (.int .i64 m.n)).setLow hYl 1 (.slice A9 m.bs.length c9)).setLow hYl 2 (.slice (some ⟨g7, 2, none⟩) ps.length (c7 - 1))
     obtain ⟨g9', hrp9⟩ := ops9.reads
     have e9 := hrp9.addr (by rw [Hql.out]; omega)
     injection e9 with e9
     injection e9 with e9
     subst e9
     have hrd := hrp9.drop1 (by rw [Hql.out]; omega)
     have hT9 := (ownT_drop ops9 (by rw [Hql.out]; omega)).less (show w.heap.size ≤ w2.heap.size by omega)
     have own12 := own_less own11 (show w.heap.size ≤ w2.heap.size by omega)
     obtain ⟨m1, m2⟩ := m
     exact ⟨_, rfl, Hyes _ _ (by rw [hpush.out]; exact ⟨A9, c9, some ⟨g7, 2, none⟩, c7 - 1, g7, 2, by dsimp only; rw [hdl.out], own12, hrd, fun h => absurd (show (qs.drop 1).length < 8 from h) (by rw [hdl.out]; omega), hT9⟩), hb11⟩

theorem dkr_zero (w w' : World) : DkR w w' ⟨⟨0, []⟩, []⟩ false (.tuple #[.agg #[.int .i64 0, .slice none 0 0, .slice none 0 0], .bool false]) :=
 ⟨none, 0, none, 0, 0, 0, rfl, World.ownsRow_nil _ _ _ _, PlsR.nil _ _ _, fun _ => OwnPs.nil _ _, .inl ⟨0, OwnPs.nil _ _⟩⟩
set_option maxHeartbeats 4000000 in
set_option maxRecDepth 100000 in
theorem sDeskDo_no (n : Int) (bs : List Bd) (ps : List Pl) (k a1 a2 a3 : Int) (s : ByteArray) (hok : deskOk ⟨⟨n, bs⟩, ps⟩ = false) (A A2 : Option Addr) (b o c b2 o2 c2 B : Nat) (w : World) (h16 : bs.length ≤ 2000000) (hps : ps.length ≤ 2000000) (hpl : ∀ p ∈ ps, p.bs.length ≤ 2000000) (hB : B ≤ w.heap.size) (hR : BdsR w B b o A bs) (hP : PlsR w B b2 o2 A2 ps) :
  Calls Tryz.prog 9 #[.agg #[.int .i64 n, .slice A bs.length c, .slice A2 ps.length c2], .agg #[.int .i64 k, .int .i64 a1, .int .i64 a2, .int .i64 a3, .string s]] w fun e w' => ∃ v, e = .returned v ∧ DkR w w' ⟨⟨0, []⟩, []⟩ false v ∧ Below w.heap.size w w' := by
 have hD := ((dkb_new (t := 37) (n := n) (c := c) (c2 := c2) (Below.refl w.heap.size w) (hR.more hB) (hP.more hB)).alloc (.cells #[.int .i64 k, .int .i64 a1, .int .i64 a2, .int .i64 a3, .string s] 41)).alloc (.cells #[.int .i64 0, .slice none 0 0, .slice none 0 0] 37)
 have hY : ZD w (((w.alloc (.cells #[.int .i64 n, .slice A bs.length c, .slice A2 ps.length c2] 37)).alloc (.cells #[.int .i64 k, .int .i64 a1, .int .i64 a2, .int .i64 a3, .string s] 41)).alloc (.cells #[.int .i64 0, .slice none 0 0, .slice none 0 0] 37)) (w.heap.size + 1 + 1) := zd_at (by simp) (by simp; omega)
 have Hpl := hide hpl
 have Hok := hide hok
 clear hR hP hB hpl hok
 go_enter Tryz.func9, Tryz.ntmps9
 go_upto_region 1 with fail
 generalize ((w.alloc (.cells #[.int .i64 n, .slice A bs.length c, .slice A2 ps.length c2] 37)).alloc (.cells #[.int .i64 k, .int .i64 a1, .int .i64 a2, .int .i64 a3, .string s] 41)).alloc (.cells #[.int .i64 0, .slice none 0 0, .slice none 0 0] 37) = W at hD hY ⊢
 have p0 := hD.c0
 have p1 := hD.c1
 have p2 := hD.c2
 go_upto_region 2 with (go_at_call 20; go_fit (sDeskOk_c n bs ps A A2 b o c b2 o2 c2 _ _ h16 hps Hpl.out (Nat.le_refl _) hD.rd hD.rp); rintro e w2 ⟨rfl, hb⟩; rw [Hok.out]; replace hD := hD.below hb; replace hY := hY.below hb)
 have hbel := hD.bel
 clear p0 p1 p2 hb hD
 have z0 := hY.z0
 have z1 := hY.z1
 have z2 := hY.z2
 have zf0 := hY.zf 0
 have zf1 := hY.zf 1
 have zf2 := hY.zf 2
 have hlo2 := hY.lo
 obtain ⟨r0, r1, r2⟩ := three_cellsD (a := .int .i64 0) (b := .slice none 0 0) (d := .slice none 0 0) z0 z1 z2
 have hb9 := ((hbel.setCell (p := ⟨w.heap.size + 1 + 1, 0, none⟩) hlo2 (.int .i64 0)).setCell (p := ⟨w.heap.size + 1 + 1, 1, none⟩) hlo2 (.slice none 0 0)).setCell (p := ⟨w.heap.size + 1 + 1, 2, none⟩) hlo2 (.slice none 0 0)
 go_wp2_with fail
 refine bodyPost_ret (v := .tuple #[.agg #[.int .i64 0, .slice none 0 0, .slice none 0 0], .bool false]) (by simp [results, Tryz.results9, go_sem, r0, r1, r2]) rfl ?_
 exact ⟨_, rfl, dkr_zero _ _, hb9⟩
theorem isNil {s : ByteArray} {L : List UInt8} (hL : s.data.toList = L) : s.toList.isEmpty = decide (L = []) := by
 rw [str_list hL]
 cases L <;> rfl
/-- A desk after a deed. -/
theorem sDeskDo_q (rt : List UInt8 → Option (List Mk)) (hrt : IsRead rt) (n : Int) (bs : List Bd) (ps : List Pl) (k a1 a2 a3 : Int) (s : ByteArray) (L : List UInt8) (hL : s.data.toList = L) (A A2 : Option Addr) (b o c b2 o2 c2 B : Nat) (w : World) (h16 : bs.length ≤ 2000000) (hps : ps.length ≤ 2000000) (hpl : ∀ p ∈ ps, p.bs.length ≤ 2000000) (hcap : bs.length ≤ c) (hc63 : c ≤ 9223372036854775807) (hB : B ≤ w.heap.size) (hR : BdsR w B b o A bs) (hP : PlsR w B b2 o2 A2 ps) :
  Calls Tryz.prog 9 #[.agg #[.int .i64 n, .slice A bs.length c, .slice A2 ps.length c2], .agg #[.int .i64 k, .int .i64 a1, .int .i64 a2, .int .i64 a3, .string s]] w fun e w' => ∃ v, e = .returned v ∧ DkR w w' (deskDo rt ⟨⟨n, bs⟩, ps⟩ ⟨k, a1, a2, a3, L⟩).1 (deskDo rt ⟨⟨n, bs⟩, ps⟩ ⟨k, a1, a2, a3, L⟩).2 v ∧ Below w.heap.size w w' := by
 cases hok : deskOk ⟨⟨n, bs⟩, ps⟩
 ·rw [do_bad hok]
  exact sDeskDo_no n bs ps k a1 a2 a3 s hok A A2 b o c b2 o2 c2 B w h16 hps hpl hB hR hP
 ·by_cases hx : (k = 6 ∧ a1 = 0 ∧ a2 = 0 ∧ a3 = 0 ∧ L = [])
  ·obtain ⟨rfl, rfl, rfl, rfl, rfl⟩ := hx
   obtain rfl := str_nil hL
   by_cases hne : 0 < ps.length
   ·have e : deskDo rt ⟨⟨n, bs⟩, ps⟩ ⟨6, 0, 0, 0, []⟩ = (⟨ps.getLastD ⟨0, []⟩, ps.dropLast⟩, true) := by
     unfold deskDo
     rw [if_pos hok, if_pos ⟨⟨rfl, rfl, rfl, rfl, rfl⟩, hne⟩]
    rw [e]
    exact sDeskDo_back rt n bs ps hok hne A A2 b o c b2 o2 c2 B w hB hR hP
   ·exact sDeskDo_do rt hrt n bs ps 6 0 0 0 _ [] hL hok (.inr ⟨List.eq_nil_of_length_eq_zero (by omega), rfl, rfl, rfl, rfl, rfl⟩) A A2 b o c b2 o2 c2 B w hcap hc63 hB hR hP
  ·refine sDeskDo_do rt hrt n bs ps k a1 a2 a3 s L hL hok (.inl ?_) A A2 b o c b2 o2 c2 B w hcap hc63 hB hR hP
   rw [isNil hL, Bool.eq_false_iff]
   intro h
   simp at h
   exact hx h
end Go.Proofs.YtmnajkhoacogjaaGreatDoor
