/-
 impl: DeskDo, whole.
 impl: DeskDo, DkBack.
 impl: DeskDo, a deed that changes the plan; and all deeds.
-/
import Derived.Test.YtmnajkhoacogjaaGreatDoorL97
namespace Go.Proofs.YtmnajkhoacogjaaGreatDoor
set_option linter.unusedVariables false
set_option linter.unusedSimpArgs false
open Go Go.RowKit Pp

/-- A desk that is being made, of which no two rows are one block. -/
structure MQ (M : Nat) (W wr : World) (X : Nat) (n : Int) (A : Option Addr) (c : Nat) (bs : List Bd) (A2 : Option Addr) (c2 : Nat) (ps : List Pl) : Prop extends MD W wr X n A c bs A2 c2 ps where
 dif : DifW W.heap.size M wr (.slice A bs.length c) (.slice A2 ps.length c2) ps.length
section
variable {M : Nat} {W wr w' : World} {X c c2 c2' : Nat} {n : Int} {A A2 A2' : Option Addr} {bs : List Bd} {ps : List Pl}
theorem MQ.below (h : MQ M W wr X n A c bs A2 c2 ps) (hb : Below wr.heap.size wr w') : MQ M W w' X n A c bs A2 c2 ps := ⟨h.toMD.below hb, h.dif.below hb⟩
theorem MQ.alloc (h : MQ M W wr X n A c bs A2 c2 ps) (x : Obj) : MQ M W (wr.alloc x) X n A c bs A2 c2 ps := h.below (by go_grown)
theorem mq_of (hW : Below W.heap.size W wr) (own : OwnB W.heap.size wr (.slice A bs.length c) bs) (ops : OwnPs W.heap.size wr (.slice A2 ps.length c2) ps) (dif : DifW W.heap.size M wr (.slice A bs.length c) (.slice A2 ps.length c2) ps.length) : MQ M W (wr.alloc (.cells #[.int .i64 n, .slice A bs.length c, .slice A2 ps.length c2] 37)) wr.heap.size n A c bs A2 c2 ps :=
 ⟨md_of hW own ops, dif.below (by go_grown)⟩
end
theorem dkw_of {w w' : World} {lo M c c2 : Nat} {n : Int} {A A2 : Option Addr} {bs : List Bd} {ps : List Pl} (own : OwnB lo w' (.slice A bs.length c) bs) (ops : OwnPs lo w' (.slice A2 ps.length c2) ps) (dif : DifW lo M w' (.slice A bs.length c) (.slice A2 ps.length c2) ps.length) (h : w.heap.size ≤ lo) (r : Bool) : DkW2 w w' ⟨⟨n, bs⟩, ps⟩ r (.tuple #[.agg #[.int .i64 n, .slice A bs.length c, .slice A2 ps.length c2], .bool r]) :=
 ⟨A, c, A2, c2, rfl, own_less own h, ops.less h, M, dif.less h⟩
set_option maxHeartbeats 4000000 in
set_option maxRecDepth 100000 in
theorem deskDo_no (n : Int) (bs : List Bd) (ps : List Pl) (k a1 a2 a3 : Int) (s : ByteArray) (hok : deskOk ⟨⟨n, bs⟩, ps⟩ = false) (A A2 : Option Addr) (b o c b2 o2 c2 B : Nat) (w : World) (h16 : bs.length ≤ 2000000) (hps : ps.length ≤ 2000000) (hpl : ∀ p ∈ ps, p.bs.length ≤ 2000000) (hB : B ≤ w.heap.size) (hR : BdsR w B b o A bs) (hP : PlsR w B b2 o2 A2 ps) :
  Calls Tryz.prog 12 #[.agg #[.int .i64 n, .slice A bs.length c, .slice A2 ps.length c2], .agg #[.int .i64 k, .int .i64 a1, .int .i64 a2, .int .i64 a3, .string s]] w fun e w' => ∃ v, e = .returned v ∧ DkW2 w w' ⟨⟨0, []⟩, []⟩ false v ∧ Below w.heap.size w w' := by
 have hD := ((dkb_new (t := 37) (n := n) (c := c) (c2 := c2) (Below.refl w.heap.size w) (hR.more hB) (hP.more hB)).alloc (.cells #[.int .i64 k, .int .i64 a1, .int .i64 a2, .int .i64 a3, .string s] 41)).alloc (.cells #[.int .i64 0, .slice none 0 0, .slice none 0 0] 37)
 have hY : ZD w (((w.alloc (.cells #[.int .i64 n, .slice A bs.length c, .slice A2 ps.length c2] 37)).alloc (.cells #[.int .i64 k, .int .i64 a1, .int .i64 a2, .int .i64 a3, .string s] 41)).alloc (.cells #[.int .i64 0, .slice none 0 0, .slice none 0 0] 37)) (w.heap.size + 1 + 1) := zd_at (by simp) (by simp; omega)
 have Hpl := hide hpl
 have Hok := hide hok
 clear hR hP hB hpl hok
 go_enter Tryz.func12, Tryz.ntmps12
 go_upto_region 1 with fail
 generalize ((w.alloc (.cells #[.int .i64 n, .slice A bs.length c, .slice A2 ps.length c2] 37)).alloc (.cells #[.int .i64 k, .int .i64 a1, .int .i64 a2, .int .i64 a3, .string s] 41)).alloc (.cells #[.int .i64 0, .slice none 0 0, .slice none 0 0] 37) = W at hD hY ⊢
 have p0 := hD.c0
 have p1 := hD.c1
 have p2 := hD.c2
 go_upto_region 2 with (go_at_call 23; go_fit (deskOk_c n bs ps A A2 b o c b2 o2 c2 _ _ h16 hps Hpl.out (Nat.le_refl _) hD.rd hD.rp); rintro e w2 ⟨rfl, hb⟩; rw [Hok.out]; replace hD := hD.below hb; replace hY := hY.below hb)
 have hbel := hD.bel
 clear p0 p1 p2 hb hD
 have z0 := hY.z0
 have z1 := hY.z1
 have z2 := hY.z2
 have zf0 := hY.zf 0
 have zf1 := hY.zf 1
 have zf2 := hY.zf 2
 have hlo2 := hY.lo
 obtain ⟨r0, r1, r2⟩ := three_cellsD (a := .int .i64 0) (b := .slice none 0 0) (d := .slice none 0 0) z0 z1 z2
 have hb9 := ((hbel.setCell (p := ⟨w.heap.size + 1 + 1, 0, none⟩) hlo2 (.int .i64 0)).setCell (p := ⟨w.heap.size + 1 + 1, 1, none⟩) hlo2 (.slice none 0 0)).setCell (p := ⟨w.heap.size + 1 + 1, 2, none⟩) hlo2 (.slice none 0 0)
 go_wp2_with fail
 refine bodyPost_ret (v := .tuple #[.agg #[.int .i64 0, .slice none 0 0, .slice none 0 0], .bool false]) (by simp [results, Tryz.results12, go_sem, r0, r1, r2]) rfl ?_
 exact ⟨_, rfl, ⟨none, 0, none, 0, rfl, World.ownsRow_nil _ _ _ _, OwnPs.nil _ _, 0, DifW.nil _ _ _ _ _ _⟩, hb9⟩
set_option maxHeartbeats 4000000 in
set_option maxRecDepth 100000 in
/-- A deed that is not named rightly. -/
theorem deskDo_nn (n : Int) (bs : List Bd) (ps : List Pl) (k a1 a2 a3 : Int) (s : ByteArray) (L : List UInt8) (hL : s.data.toList = L) (hnm : namedD ⟨k, a1, a2, a3, L⟩ = false) (hok : deskOk ⟨⟨n, bs⟩, ps⟩ = true) (A A2 : Option Addr) (b o c b2 o2 c2 B : Nat) (w : World) (hB : B ≤ w.heap.size) (hR : BdsR w B b o A bs) (hP : PlsR w B b2 o2 A2 ps) :
  Calls Tryz.prog 12 #[.agg #[.int .i64 n, .slice A bs.length c, .slice A2 ps.length c2], .agg #[.int .i64 k, .int .i64 a1, .int .i64 a2, .int .i64 a3, .string s]] w fun e w' => ∃ v, e = .returned v ∧ DkW2 w w' ⟨⟨n, bs⟩, ps⟩ false v ∧ Below w.heap.size w w' := by
 have hnq := fun wq => named_q k a1 a2 a3 s L hL wq
 rw [hnm] at hnq
 have Hnq := hide hnq
 clear hnq hnm
 obtain ⟨h1, h2, h3⟩ := deskOk_iff.1 hok
 dsimp only at h1 h2 h3
 obtain ⟨hn, h16, -⟩ := planOk_iff.1 h2
 dsimp only at hn h16
 have hpl : ∀ p ∈ ps, p.bs.length ≤ 2000000 := fun p hp => by have := (planOk_iff.1 (h1 p hp)).2.1; omega
 have hpl2 : ∀ p ∈ ps, p.bs.length ≤ 100 := fun p hp => by have := (planOk_iff.1 (h1 p hp)).2.1; omega
 have Hpl := hide hpl
 have Hpl2 := hide hpl2
 have Hok := hide hok
 have H1 := hide h1
 have H2 := hide h2
 clear hok hpl hpl2 h1 h2
 have hD := ((dkb_new (t := 37) (n := n) (c := c) (c2 := c2) (Below.refl w.heap.size w) (hR.more hB) (hP.more hB)).alloc (.cells #[.int .i64 k, .int .i64 a1, .int .i64 a2, .int .i64 a3, .string s] 41)).alloc (.cells #[.int .i64 0, .slice none 0 0, .slice none 0 0] 37)
 have hE : DeB w (((w.alloc (.cells #[.int .i64 n, .slice A bs.length c, .slice A2 ps.length c2] 37)).alloc (.cells #[.int .i64 k, .int .i64 a1, .int .i64 a2, .int .i64 a3, .string s] 41)).alloc (.cells #[.int .i64 0, .slice none 0 0, .slice none 0 0] 37)) (w.heap.size + 1) k a1 a2 a3 s := DeB.alloc (deb_new (by simp) (by simp)) _
 have hY : ZD w (((w.alloc (.cells #[.int .i64 n, .slice A bs.length c, .slice A2 ps.length c2] 37)).alloc (.cells #[.int .i64 k, .int .i64 a1, .int .i64 a2, .int .i64 a3, .string s] 41)).alloc (.cells #[.int .i64 0, .slice none 0 0, .slice none 0 0] 37)) (w.heap.size + 1 + 1) := zd_at (by simp) (by simp; omega)
 clear hR hP hB
 go_enter Tryz.func12, Tryz.ntmps12
 go_upto_region 1 with fail
 generalize ((w.alloc (.cells #[.int .i64 n, .slice A bs.length c, .slice A2 ps.length c2] 37)).alloc (.cells #[.int .i64 k, .int .i64 a1, .int .i64 a2, .int .i64 a3, .string s] 41)).alloc (.cells #[.int .i64 0, .slice none 0 0, .slice none 0 0] 37) = W at hD hE hY ⊢
 have p0 := hD.c0
 have p1 := hD.c1
 have p2 := hD.c2
 go_upto_region 3 with (go_at_call 23; go_fit (deskOk_c n bs ps A A2 b o c b2 o2 c2 _ _ (show bs.length ≤ 2000000 by omega) (show ps.length ≤ 2000000 by omega) Hpl.out (Nat.le_refl _) hD.rd hD.rp); rintro e w2 ⟨rfl, hb⟩; rw [Hok.out]; replace hD := hD.below hb; replace hE := hE.below hb; replace hY := hY.below hb)
 clear p0 p1 p2 hb
 have p0 := hD.c0
 have p1 := hD.c1
 have p2 := hD.c2
 go_upto_region 4 with (go_at_call 41; refine (cloneD_q n bs ps A A2 b o c b2 o2 c2 _ _ (show bs.length ≤ 2000 by omega) (show ps.length ≤ 2000000 by omega) Hpl.out (Nat.le_refl _) hD.rd hD.rp).mono ?_; rintro e w3 ⟨v, rfl, ⟨A3, c3, A4, c4, rfl, own3, ops3, M3, dif3⟩, hb3⟩; try dsimp only at own3 ops3 dif3)
 try dsimp only at own3 ops3 dif3 ⊢
 have hQ := mq_of (n := n) (W := w2) hb3 own3 ops3 dif3
 have hal : Below w2.heap.size w2 (w3.alloc (.cells #[.int .i64 n, .slice A3 bs.length c3, .slice A4 ps.length c4] 37)) := bthen hb3 (by go_grown)
 replace hD := hD.below hal
 replace hE := hE.below hal
 replace hYl := hY.ex
 replace hY := hY.below hal
 have hxl := hb3.size
 clear p0 p1 p2 own3 ops3 dif3 hal
 generalize w3.alloc (.cells #[.int .i64 n, .slice A3 bs.length c3, .slice A4 ps.length c4] 37) = W1 at hQ hD hE hY ⊢
 generalize w3.heap.size = X at hQ hxl ⊢
 clear hb3
 have hYX : w.heap.size + 1 + 1 < X := by omega
 clear hxl
 have p0 := hD.c0
 have p1 := hD.c1
 have p2 := hD.c2
 have d0 := hE.c0
 have d1 := hE.c1
 have d2 := hE.c2
 have d3 := hE.c3
 have d4 := hE.c4
 have x0 := hQ.p0
 have x1 := hQ.p1
 have x2 := hQ.p2
 go_upto_region 5 with (go_at_call 42; refine (Hnq.out _).mono ?_; rintro e w4 ⟨rfl, hb4⟩; replace hQ := hQ.below hb4; replace hD := hD.below hb4; replace hE := hE.below hb4; replace hY := hY.below hb4)
 clear x0 x1 x2
 have x0 := hQ.p0
 have x1 := hQ.p1
 have x2 := hQ.p2
 go_upto_region 5 with fail
 clear x0 x1 x2
 have hQ5 := hQ
 have hlt : Hid (ps.length = ps.length) := rfl
 have hbel := hD.bel
 clear p0 p1 p2 d0 d1 d2 d3 d4 hD hE hQ
 have x0 := hQ5.p0
 have x1 := hQ5.p1
 have x2 := hQ5.p2
 rw [hlt.out] at x2
 have z0 := hY.z0
 have z1 := hY.z1
 have z2 := hY.z2
 have zf0 := hY.zf 0
 have zf1 := hY.zf 1
 have zf2 := hY.zf 2
 have hYe := hY.ex
 have hlo2 := hY.lo
 obtain ⟨r0, r1, r2⟩ := three_cellsD (a := .int .i64 n) (b := .slice A3 bs.length c3) (d := .slice A4 ps.length c4) z0 z1 z2
 have own9 := ((hQ5.own.setLow hYl 0 (.int .i64 n)).setLow hYl 1 (.slice A3 bs.length c3)).setLow hYl 2 (.slice A4 ps.length c4)
 have ops9 := ((hQ5.ops.setLow hYl 0 (.int .i64 n)).setLow hYl 1 (.slice A3 bs.length c3)).setLow hYl 2 (.slice A4 ps.length c4)
 have dif9 := ((hQ5.dif.setLow hYl 0 (.int .i64 n)).setLow hYl 1 (.slice A3 bs.length c3)).setLow hYl 2 (.slice A4 ps.length c4)
 have hb9 := ((hbel.setCell (p := ⟨w.heap.size + 1 + 1, 0, none⟩) hlo2 (.int .i64 n)).setCell (p := ⟨w.heap.size + 1 + 1, 1, none⟩) hlo2 (.slice A3 bs.length c3)).setCell (p := ⟨w.heap.size + 1 + 1, 2, none⟩) hlo2 (.slice A4 ps.length c4)
 go_wp2_with fail
 refine bodyPost_ret (v := .tuple #[.agg #[.int .i64 n, .slice A3 bs.length c3, .slice A4 ps.length c4], .bool false]) (by simp [results, Tryz.results12, go_sem, r0, r1, r2]) rfl ?_
 have hfin := dkw_of (w := w) (n := n) own9 ops9 dif9 (show w.heap.size ≤ w2.heap.size by omega) false
 exact ⟨_, rfl, hfin, hb9⟩
set_option maxHeartbeats 4000000 in
set_option maxRecDepth 100000 in
/-- DkBack of a desk that has no plan of before. -/
theorem deskDo_b0 (n : Int) (bs : List Bd) (hok : deskOk ⟨⟨n, bs⟩, []⟩ = true) (A A2 : Option Addr) (b o c b2 o2 c2 B : Nat) (w : World) (hB : B ≤ w.heap.size) (hR : BdsR w B b o A bs) (hP : PlsR w B b2 o2 A2 []) :
  Calls Tryz.prog 12 #[.agg #[.int .i64 n, .slice A bs.length c, .slice A2 ([] : List Pl).length c2], .agg #[.int .i64 6, .int .i64 0, .int .i64 0, .int .i64 0, .string ⟨#[]⟩]] w fun e w' => ∃ v, e = .returned v ∧ DkW2 w w' ⟨⟨n, bs⟩, []⟩ false v ∧ Below w.heap.size w w' := by
 have hnq := fun wq => named_q 6 0 0 0 ⟨#[]⟩ [] rfl wq
 rw [show namedD ⟨6, 0, 0, 0, []⟩ = true by decide] at hnq
 have Hnq := hide hnq
 clear hnq
 obtain ⟨ps, hps⟩ : ∃ ps : List Pl, ps = [] := ⟨_, rfl⟩
 rw [← hps] at hok hP ⊢
 have hl0 : (ps.length : Int) = 0 := by rw [hps]; rfl
 have Hl0 := hide hl0
 clear hps hl0
 obtain ⟨h1, h2, h3⟩ := deskOk_iff.1 hok
 dsimp only at h1 h2 h3
 obtain ⟨hn, h16, -⟩ := planOk_iff.1 h2
 dsimp only at hn h16
 have hpl : ∀ p ∈ ps, p.bs.length ≤ 2000000 := fun p hp => by have := (planOk_iff.1 (h1 p hp)).2.1; omega
 have hpl2 : ∀ p ∈ ps, p.bs.length ≤ 100 := fun p hp => by have := (planOk_iff.1 (h1 p hp)).2.1; omega
 have Hpl := hide hpl
 have Hpl2 := hide hpl2
 have Hok := hide hok
 have H1 := hide h1
 have H2 := hide h2
 clear hok hpl hpl2 h1 h2
 have hD := ((dkb_new (t := 37) (n := n) (c := c) (c2 := c2) (Below.refl w.heap.size w) (hR.more hB) (hP.more hB)).alloc (.cells #[.int .i64 6, .int .i64 0, .int .i64 0, .int .i64 0, .string ⟨#[]⟩] 41)).alloc (.cells #[.int .i64 0, .slice none 0 0, .slice none 0 0] 37)
 have hE : DeB w (((w.alloc (.cells #[.int .i64 n, .slice A bs.length c, .slice A2 ps.length c2] 37)).alloc (.cells #[.int .i64 6, .int .i64 0, .int .i64 0, .int .i64 0, .string ⟨#[]⟩] 41)).alloc (.cells #[.int .i64 0, .slice none 0 0, .slice none 0 0] 37)) (w.heap.size + 1) 6 0 0 0 ⟨#[]⟩ := DeB.alloc (deb_new (by simp) (by simp)) _
 have hY : ZD w (((w.alloc (.cells #[.int .i64 n, .slice A bs.length c, .slice A2 ps.length c2] 37)).alloc (.cells #[.int .i64 6, .int .i64 0, .int .i64 0, .int .i64 0, .string ⟨#[]⟩] 41)).alloc (.cells #[.int .i64 0, .slice none 0 0, .slice none 0 0] 37)) (w.heap.size + 1 + 1) := zd_at (by simp) (by simp; omega)
 clear hR hP hB
 go_enter Tryz.func12, Tryz.ntmps12
 go_upto_region 1 with fail
 generalize ((w.alloc (.cells #[.int .i64 n, .slice A bs.length c, .slice A2 ps.length c2] 37)).alloc (.cells #[.int .i64 6, .int .i64 0, .int .i64 0, .int .i64 0, .string ⟨#[]⟩] 41)).alloc (.cells #[.int .i64 0, .slice none 0 0, .slice none 0 0] 37) = W at hD hE hY ⊢
 have p0 := hD.c0
 have p1 := hD.c1
 have p2 := hD.c2
 go_upto_region 3 with (go_at_call 23; go_fit (deskOk_c n bs ps A A2 b o c b2 o2 c2 _ _ (show bs.length ≤ 2000000 by omega) (show ps.length ≤ 2000000 by omega) Hpl.out (Nat.le_refl _) hD.rd hD.rp); rintro e w2 ⟨rfl, hb⟩; rw [Hok.out]; replace hD := hD.below hb; replace hE := hE.below hb; replace hY := hY.below hb)
 clear p0 p1 p2 hb
 have p0 := hD.c0
 have p1 := hD.c1
 have p2 := hD.c2
 go_upto_region 4 with (go_at_call 41; refine (cloneD_q n bs ps A A2 b o c b2 o2 c2 _ _ (show bs.length ≤ 2000 by omega) (show ps.length ≤ 2000000 by omega) Hpl.out (Nat.le_refl _) hD.rd hD.rp).mono ?_; rintro e w3 ⟨v, rfl, ⟨A3, c3, A4, c4, rfl, own3, ops3, M3, dif3⟩, hb3⟩; try dsimp only at own3 ops3 dif3)
 try dsimp only at own3 ops3 dif3 ⊢
 have hQ := mq_of (n := n) (W := w2) hb3 own3 ops3 dif3
 have hal : Below w2.heap.size w2 (w3.alloc (.cells #[.int .i64 n, .slice A3 bs.length c3, .slice A4 ps.length c4] 37)) := bthen hb3 (by go_grown)
 replace hD := hD.below hal
 replace hE := hE.below hal
 replace hYl := hY.ex
 replace hY := hY.below hal
 have hxl := hb3.size
 clear p0 p1 p2 own3 ops3 dif3 hal
 generalize w3.alloc (.cells #[.int .i64 n, .slice A3 bs.length c3, .slice A4 ps.length c4] 37) = W1 at hQ hD hE hY ⊢
 generalize w3.heap.size = X at hQ hxl ⊢
 clear hb3
 have hYX : w.heap.size + 1 + 1 < X := by omega
 clear hxl
 have p0 := hD.c0
 have p1 := hD.c1
 have p2 := hD.c2
 have d0 := hE.c0
 have d1 := hE.c1
 have d2 := hE.c2
 have d3 := hE.c3
 have d4 := hE.c4
 have x0 := hQ.p0
 have x1 := hQ.p1
 have x2 := hQ.p2
 go_upto_region 6 with (go_at_call 42; refine (Hnq.out _).mono ?_; rintro e w4 ⟨rfl, hb4⟩; replace hQ := hQ.below hb4; replace hD := hD.below hb4; replace hE := hE.below hb4; replace hY := hY.below hb4)
 clear p0 p1 p2 d0 d1 d2 d3 d4 x0 x1 x2
 have d0 := hE.c0
 have x0 := hQ.p0
 have x1 := hQ.p1
 have x2 := hQ.p2
 go_upto_region 7 with fail
 clear d0 x0 x1 x2
 have hw : IntKind.i64.wrap ((ps.length : Int) - 1) = -1 := by rw [Hl0.out]; rfl
 have hlz : (ps.length : Int) < 1 := by have := Hl0.out; omega
 have hlz2 : (ps.length : Int) - 1 < 0 := by have := Hl0.out; omega
 have x0 := hQ.p0
 have x1 := hQ.p1
 have x2 := hQ.p2
 go_upto_region 9 with fail
 clear x0 x1 x2 hw hlz hlz2
 have hQ5 := hQ
 have hlt : Hid (ps.length = ps.length) := rfl
 have hbel := hD.bel
 clear hD hE hQ
 have x0 := hQ5.p0
 have x1 := hQ5.p1
 have x2 := hQ5.p2
 rw [hlt.out] at x2
 have z0 := hY.z0
 have z1 := hY.z1
 have z2 := hY.z2
 have zf0 := hY.zf 0
 have zf1 := hY.zf 1
 have zf2 := hY.zf 2
 have hYe := hY.ex
 have hlo2 := hY.lo
 obtain ⟨r0, r1, r2⟩ := three_cellsD (a := .int .i64 n) (b := .slice A3 bs.length c3) (d := .slice A4 ps.length c4) z0 z1 z2
 have own9 := ((hQ5.own.setLow hYl 0 (.int .i64 n)).setLow hYl 1 (.slice A3 bs.length c3)).setLow hYl 2 (.slice A4 ps.length c4)
 have ops9 := ((hQ5.ops.setLow hYl 0 (.int .i64 n)).setLow hYl 1 (.slice A3 bs.length c3)).setLow hYl 2 (.slice A4 ps.length c4)
 have dif9 := ((hQ5.dif.setLow hYl 0 (.int .i64 n)).setLow hYl 1 (.slice A3 bs.length c3)).setLow hYl 2 (.slice A4 ps.length c4)
 have hb9 := ((hbel.setCell (p := ⟨w.heap.size + 1 + 1, 0, none⟩) hlo2 (.int .i64 n)).setCell (p := ⟨w.heap.size + 1 + 1, 1, none⟩) hlo2 (.slice A3 bs.length c3)).setCell (p := ⟨w.heap.size + 1 + 1, 2, none⟩) hlo2 (.slice A4 ps.length c4)
 go_wp2_with fail
 refine bodyPost_ret (v := .tuple #[.agg #[.int .i64 n, .slice A3 bs.length c3, .slice A4 ps.length c4], .bool false]) (by simp [results, Tryz.results12, go_sem, r0, r1, r2]) rfl ?_
 have hfin := dkw_of (w := w) (n := n) own9 ops9 dif9 (show w.heap.size ≤ w2.heap.size by omega) false
 exact ⟨_, rfl, hfin, hb9⟩

set_option maxHeartbeats 4000000 in
set_option maxRecDepth 100000 in
/-- DkBack of a desk that has a plan of before. -/
theorem deskDo_back (n : Int) (bs : List Bd) (ps : List Pl) (hok : deskOk ⟨⟨n, bs⟩, ps⟩ = true) (hne : 0 < ps.length) (A A2 : Option Addr) (b o c b2 o2 c2 B : Nat) (w : World) (hB : B ≤ w.heap.size) (hR : BdsR w B b o A bs) (hP : PlsR w B b2 o2 A2 ps) :
  Calls Tryz.prog 12 #[.agg #[.int .i64 n, .slice A bs.length c, .slice A2 ps.length c2], .agg #[.int .i64 6, .int .i64 0, .int .i64 0, .int .i64 0, .string ⟨#[]⟩]] w fun e w' => ∃ v, e = .returned v ∧ DkW2 w w' ⟨ps.getLastD ⟨0, []⟩, ps.dropLast⟩ true v ∧ Below w.heap.size w w' := by
 have hnq := fun wq => named_q 6 0 0 0 ⟨#[]⟩ [] rfl wq
 rw [show namedD ⟨6, 0, 0, 0, []⟩ = true by decide] at hnq
 have Hnq := hide hnq
 clear hnq
 obtain ⟨m, hm⟩ : ∃ m, ps.length = m + 1 := ⟨ps.length - 1, by omega⟩
 have hx := List.getElem?_eq_getElem (show m < ps.length by omega)
 have hlast : ps.getLastD ⟨0, []⟩ = ps[m]'(by omega) := by
  rw [List.getLastD_eq_getLast?, List.getLast?_eq_getElem?, show ps.length - 1 = m by omega, hx]
  rfl
 have hdl : ps.dropLast = ps.take m := by
  rw [List.dropLast_eq_take, show ps.length - 1 = m by omega]
 have hqin : ps[m]'(by omega) ∈ ps := List.getElem_mem _
 rw [hlast, hdl]
 have htk : (ps.take m).length = m := by simp; omega
 have htin : ∀ p ∈ ps.take m, p ∈ ps := fun p hp => List.mem_of_mem_take hp
 obtain ⟨ps', hps'⟩ : ∃ ps', ps.take m = ps' := ⟨_, rfl⟩
 obtain ⟨q, hq⟩ : ∃ q : Pl, ps[m]'(by omega) = q := ⟨_, rfl⟩
 rw [hps', hq]
 rw [hps'] at htk htin
 rw [hq] at hx hqin
 obtain ⟨qn, qs⟩ := q
 have Hx := hide hx
 have Hm := hide hm
 have Htk := hide htk
 have Hps := hide hps'
 have Htin := hide htin
 clear hx hm htk hps' hq hlast hdl htin
 obtain ⟨h1, h2, h3⟩ := deskOk_iff.1 hok
 dsimp only at h1 h2 h3
 obtain ⟨hn, h16, -⟩ := planOk_iff.1 h2
 dsimp only at hn h16
 have hpl : ∀ p ∈ ps, p.bs.length ≤ 2000000 := fun p hp => by have := (planOk_iff.1 (h1 p hp)).2.1; omega
 have hpl2 : ∀ p ∈ ps, p.bs.length ≤ 100 := fun p hp => by have := (planOk_iff.1 (h1 p hp)).2.1; omega
 have Hpl := hide hpl
 have Hpl2 := hide hpl2
 have Hok := hide hok
 have H1 := hide h1
 have H2 := hide h2
 clear hok hpl hpl2 h1 h2
 have hq16 : qs.length ≤ 16 := (planOk_iff.1 (H1.out _ hqin)).2.1
 have hpt : ∀ p ∈ ps', p.bs.length ≤ 2000000 := fun p hp => Hpl.out p (Htin.out p hp)
 have Hpt := hide hpt
 clear hqin hpt
 have hD := ((dkb_new (t := 37) (n := n) (c := c) (c2 := c2) (Below.refl w.heap.size w) (hR.more hB) (hP.more hB)).alloc (.cells #[.int .i64 6, .int .i64 0, .int .i64 0, .int .i64 0, .string ⟨#[]⟩] 41)).alloc (.cells #[.int .i64 0, .slice none 0 0, .slice none 0 0] 37)
 have hE : DeB w (((w.alloc (.cells #[.int .i64 n, .slice A bs.length c, .slice A2 ps.length c2] 37)).alloc (.cells #[.int .i64 6, .int .i64 0, .int .i64 0, .int .i64 0, .string ⟨#[]⟩] 41)).alloc (.cells #[.int .i64 0, .slice none 0 0, .slice none 0 0] 37)) (w.heap.size + 1) 6 0 0 0 ⟨#[]⟩ := DeB.alloc (deb_new (by simp) (by simp)) _
 have hY : ZD w (((w.alloc (.cells #[.int .i64 n, .slice A bs.length c, .slice A2 ps.length c2] 37)).alloc (.cells #[.int .i64 6, .int .i64 0, .int .i64 0, .int .i64 0, .string ⟨#[]⟩] 41)).alloc (.cells #[.int .i64 0, .slice none 0 0, .slice none 0 0] 37)) (w.heap.size + 1 + 1) := zd_at (by simp) (by simp; omega)
 clear hR hP hB
 go_enter Tryz.func12, Tryz.ntmps12
 go_upto_region 1 with fail
 generalize ((w.alloc (.cells #[.int .i64 n, .slice A bs.length c, .slice A2 ps.length c2] 37)).alloc (.cells #[.int .i64 6, .int .i64 0, .int .i64 0, .int .i64 0, .string ⟨#[]⟩] 41)).alloc (.cells #[.int .i64 0, .slice none 0 0, .slice none 0 0] 37) = W at hD hE hY ⊢
 have p0 := hD.c0
 have p1 := hD.c1
 have p2 := hD.c2
 go_upto_region 3 with (go_at_call 23; go_fit (deskOk_c n bs ps A A2 b o c b2 o2 c2 _ _ (show bs.length ≤ 2000000 by omega) (show ps.length ≤ 2000000 by omega) Hpl.out (Nat.le_refl _) hD.rd hD.rp); rintro e w2 ⟨rfl, hb⟩; rw [Hok.out]; replace hD := hD.below hb; replace hE := hE.below hb; replace hY := hY.below hb)
 clear p0 p1 p2 hb
 have p0 := hD.c0
 have p1 := hD.c1
 have p2 := hD.c2
 go_upto_region 4 with (go_at_call 41; refine (cloneD_q n bs ps A A2 b o c b2 o2 c2 _ _ (show bs.length ≤ 2000 by omega) (show ps.length ≤ 2000000 by omega) Hpl.out (Nat.le_refl _) hD.rd hD.rp).mono ?_; rintro e w3 ⟨v, rfl, ⟨A3, c3, A4, c4, rfl, own3, ops3, M3, dif3⟩, hb3⟩; try dsimp only at own3 ops3 dif3)
 try dsimp only at own3 ops3 dif3 ⊢
 have hQ := mq_of (n := n) (W := w2) hb3 own3 ops3 dif3
 have hal : Below w2.heap.size w2 (w3.alloc (.cells #[.int .i64 n, .slice A3 bs.length c3, .slice A4 ps.length c4] 37)) := bthen hb3 (by go_grown)
 replace hD := hD.below hal
 replace hE := hE.below hal
 replace hYl := hY.ex
 replace hY := hY.below hal
 have hxl := hb3.size
 clear p0 p1 p2 own3 ops3 dif3 hal
 generalize w3.alloc (.cells #[.int .i64 n, .slice A3 bs.length c3, .slice A4 ps.length c4] 37) = W1 at hQ hD hE hY ⊢
 generalize w3.heap.size = X at hQ hxl ⊢
 clear hb3
 have hYX : w.heap.size + 1 + 1 < X := by omega
 clear hxl
 have p0 := hD.c0
 have p1 := hD.c1
 have p2 := hD.c2
 have d0 := hE.c0
 have d1 := hE.c1
 have d2 := hE.c2
 have d3 := hE.c3
 have d4 := hE.c4
 have x0 := hQ.p0
 have x1 := hQ.p1
 have x2 := hQ.p2
 go_upto_region 6 with (go_at_call 42; refine (Hnq.out _).mono ?_; rintro e w4 ⟨rfl, hb4⟩; replace hQ := hQ.below hb4; replace hD := hD.below hb4; replace hE := hE.below hb4; replace hY := hY.below hb4)
 clear p0 p1 p2 d0 d1 d2 d3 d4 x0 x1 x2
 have d0 := hE.c0
 have x0 := hQ.p0
 have x1 := hQ.p1
 have x2 := hQ.p2
 go_upto_region 7 with fail
 clear d0
 have hmm : m ≤ ps.length := by have := Hm.out; omega
 have hmz : IntKind.i64.wrap ((ps.length : Int) - 1) = (m : Int) := by rw [Hm.out]; exact IntWalk.i64_in _ (by have := Hm.out; omega) |>.trans (by omega)
 have hmz2 : (ps.length : Int) - 1 = (m : Int) := by have := Hm.out; omega
 have hmn : ¬ (m : Int) < 0 := by omega
 have hmi : (m : Int) < (ps.length : Int) := by have := Hm.out; omega
 go_upto_region 10 with fail
 obtain ⟨g, Aq, cq, rfl, hgl, e0, e1, ownq⟩ := hQ.ops.at Hx.out
 try dsimp only at e0 e1 ownq
 obtain ⟨hcr, hcr63⟩ : ps.length ≤ c4 ∧ c4 ≤ 9223372036854775807 := by
  obtain ⟨cs, hrow, -⟩ := hQ.ops
  exact own_cap hrow
 have hmc : m ≤ c4 := by omega
 have hmcz : (m : Int) ≤ (c4 : Int) := by omega
 have hc40 : ¬ c4 = 0 := by omega
 have xf0 := hQ.cf 0
 have xf1 := hQ.cf 1
 have xf2 := hQ.cf 2
 have hgX : ¬ X = g ∧ ¬ g = X := by
  have hbx := hQ.bx
  obtain ⟨cs, hrow, -⟩ := hQ.ops
  have := own_box hrow hbx (by decide)
  refine ⟨fun e => this (by subst e; rfl), fun e => this (by subst e; rfl)⟩
 obtain ⟨hgx1, hgx2⟩ := hgX
 go_region
 have hQ5 := (hQ.putNow (n' := qn) ownq).cut m hmm
 have hb5 : Below w2.heap.size w4 (((w4.setCell ⟨X, 0, none⟩ (.int .i64 qn)).setCell ⟨X, 1, none⟩ (.slice Aq qs.length cq)).setCell ⟨X, 2, none⟩ (.slice (some ⟨g, 0, none⟩) m c4)) := (((Below.refl _ _).setCell hQ.lo _).setCell hQ.lo _).setCell hQ.lo _
 replace hY := hY.belowX hYl hb5
 have hbel := hD.bel.trans (hb5.mono (show w.heap.size ≤ w2.heap.size by omega))
 clear x0 x1 x2 xf0 xf1 xf2 e0 e1 hD hE hQ hb5 ownq hmz hmz2 hmn hmi hmcz hgx1 hgx2 hgl
 generalize ((w4.setCell ⟨X, 0, none⟩ (.int .i64 qn)).setCell ⟨X, 1, none⟩ (.slice Aq qs.length cq)).setCell ⟨X, 2, none⟩ (.slice (some ⟨g, 0, none⟩) m c4) = W5 at hQ5 hY hbel ⊢
 have hdr : Below W5.heap.size W5 W5.drew := by go_grown
 replace hQ5 := hQ5.below hdr
 replace hY := hY.below hdr
 replace hbel := bthen hbel hdr
 clear hdr
 generalize W5.drew = W6 at hQ5 hY hbel ⊢
 rw [Hps.out] at hQ5
 have hl9 : ps'.length ≤ 2000000 := by have := Htk.out; omega
 have hm9 : m = ps'.length := Htk.out.symm
 subst hm9
 have hb9l : qs.length ≤ 2000 := by omega
 obtain ⟨gq, hrd9⟩ := hQ5.own.readsA
 obtain ⟨gp, hrp9⟩ := hQ5.ops.reads
 have x0 := hQ5.p0
 have x1 := hQ5.p1
 have x2 := hQ5.p2
 have hY6 := hY.ex
 go_wp2_with (go_at_call 41; go_fit (cloneD_q qn qs ps' _ _ _ _ _ _ _ _ _ _ hb9l hl9 Hpt.out (Nat.le_refl _) hrd9 hrp9); rintro e w9 ⟨v, rfl, ⟨A9, c9, A10, c10, rfl, own9, ops9, M9, dif9⟩, hb9⟩; have hY9 := hY.below hb9; have z0 := hY9.z0; have z1 := hY9.z1; have z2 := hY9.z2; have zf0 := hY9.zf 0; have zf1 := hY9.zf 1; have zf2 := hY9.zf 2; have hYe := hY9.ex)
 try dsimp only at own9 ops9 dif9 ⊢
 have hlo2 := hY9.lo
 obtain ⟨r0, r1, r2⟩ := three_cellsD (a := .int .i64 qn) (b := .slice A9 (qs).length c9) (d := .slice A10 (ps').length c10) z0 z1 z2
 have own10 := ((own9.setLow hY6 0 (.int .i64 qn)).setLow hY6 1 (.slice A9 (qs).length c9)).setLow hY6 2 (.slice A10 (ps').length c10)
 have ops10 := ((ops9.setLow hY6 0 (.int .i64 qn)).setLow hY6 1 (.slice A9 (qs).length c9)).setLow hY6 2 (.slice A10 (ps').length c10)
 have dif10 := ((dif9.setLow hY6 0 (.int .i64 qn)).setLow hY6 1 (.slice A9 (qs).length c9)).setLow hY6 2 (.slice A10 (ps').length c10)
 have hbe := bthen hbel hb9
 have hb10 := ((hbe.setCell (p := ⟨w.heap.size + 1 + 1, 0, none⟩) hlo2 (.int .i64 qn)).setCell (p := ⟨w.heap.size + 1 + 1, 1, none⟩) hlo2 (.slice A9 (qs).length c9)).setCell (p := ⟨w.heap.size + 1 + 1, 2, none⟩) hlo2 (.slice A10 (ps').length c10)
 refine bodyPost_ret (v := .tuple #[.agg #[.int .i64 qn, .slice A9 (qs).length c9, .slice A10 (ps').length c10], .bool true]) (by simp [results, Tryz.results12, go_sem, r0, r1, r2]) rfl ?_
 have hfin := dkw_of (w := w) (n := qn) own10 ops10 dif10 (show w.heap.size ≤ W6.heap.size from hbel.size) true
 exact ⟨_, rfl, hfin, hb10⟩

set_option maxHeartbeats 4000000 in
set_option maxRecDepth 100000 in
theorem deskDo_do (rt : List UInt8 → Option (List Mk)) (hrt : IsRead rt) (n : Int) (bs : List Bd) (ps : List Pl) (k a1 a2 a3 : Int) (s : ByteArray) (L : List UInt8) (hL : s.data.toList = L) (hok : deskOk ⟨⟨n, bs⟩, ps⟩ = true) (hnm : namedD ⟨k, a1, a2, a3, L⟩ = true) (hk6 : k ≠ 6) (A A2 : Option Addr) (b o c b2 o2 c2 B : Nat) (w : World) (hv : VR w) (hB : B ≤ w.heap.size) (hR : BdsR w B b o A bs) (hP : PlsR w B b2 o2 A2 ps) :
  Calls Tryz.prog 12 #[.agg #[.int .i64 n, .slice A bs.length c, .slice A2 ps.length c2], .agg #[.int .i64 k, .int .i64 a1, .int .i64 a2, .int .i64 a3, .string s]] w fun e w' => ∃ v, e = .returned v ∧ DkW2 w w' (deskDo rt ⟨⟨n, bs⟩, ps⟩ ⟨k, a1, a2, a3, L⟩).1 (deskDo rt ⟨⟨n, bs⟩, ps⟩ ⟨k, a1, a2, a3, L⟩).2 v ∧ Below w.heap.size w w' := by
 have hres := do_made (rt := rt) (a := ⟨k, a1, a2, a3, L⟩) hok hk6
 have hnq := fun wq => named_q k a1 a2 a3 s L hL wq
 rw [hnm] at hnq
 have Hnq := hide hnq
 clear hnq
 have hmc := fun (wq : World) (hv : VR wq) (B : Nat) (b o c : Nat) (A : Option Addr) (hB : B ≤ wq.heap.size) (hq : BdsR wq B b o A bs) => made_q rt hrt n bs (deskOk_iff.1 hok).2.1 k a1 a2 a3 s L hL hnm hk6 A b o c B wq hv hB hq
 obtain ⟨j0, hj0, hy0, hy1, hy2⟩ := info_parts infoPl
 dsimp only at hres
 obtain ⟨q, hq⟩ : ∃ q, madeP rt ⟨n, bs⟩ ⟨k, a1, a2, a3, L⟩ = q := ⟨_, rfl⟩
 rw [hq] at hres
 simp only [hq] at hmc
 obtain ⟨r, hr⟩ : ∃ r, planOk q = r := ⟨_, rfl⟩
 rw [hr] at hres
 have Hr := hide hr
 have Hmc := hide hmc
 obtain ⟨D, hDk⟩ : ∃ D, deskDo rt ⟨⟨n, bs⟩, ps⟩ ⟨k, a1, a2, a3, L⟩ = D := ⟨_, rfl⟩
 rw [hDk] at hres ⊢
 have Hres := hide hres
 have Hk6 := hide hk6
 clear hmc hq hDk hres hr hnm hk6
 obtain ⟨h1, h2, h3⟩ := deskOk_iff.1 hok
 dsimp only at h1 h2 h3
 obtain ⟨hn, h16, -⟩ := planOk_iff.1 h2
 dsimp only at hn h16
 have hpl : ∀ p ∈ ps, p.bs.length ≤ 2000000 := fun p hp => by have := (planOk_iff.1 (h1 p hp)).2.1; omega
 have hpl2 : ∀ p ∈ ps, p.bs.length ≤ 100 := fun p hp => by have := (planOk_iff.1 (h1 p hp)).2.1; omega
 have Hpl := hide hpl
 have Hpl2 := hide hpl2
 have Hok := hide hok
 have H1 := hide h1
 have H2 := hide h2
 clear hok hpl hpl2 h1 h2
 have hD := ((dkb_new (t := 37) (n := n) (c := c) (c2 := c2) (Below.refl w.heap.size w) (hR.more hB) (hP.more hB)).alloc (.cells #[.int .i64 k, .int .i64 a1, .int .i64 a2, .int .i64 a3, .string s] 41)).alloc (.cells #[.int .i64 0, .slice none 0 0, .slice none 0 0] 37)
 have hE : DeB w (((w.alloc (.cells #[.int .i64 n, .slice A bs.length c, .slice A2 ps.length c2] 37)).alloc (.cells #[.int .i64 k, .int .i64 a1, .int .i64 a2, .int .i64 a3, .string s] 41)).alloc (.cells #[.int .i64 0, .slice none 0 0, .slice none 0 0] 37)) (w.heap.size + 1) k a1 a2 a3 s := DeB.alloc (deb_new (by simp) (by simp)) _
 have hY : ZD w (((w.alloc (.cells #[.int .i64 n, .slice A bs.length c, .slice A2 ps.length c2] 37)).alloc (.cells #[.int .i64 k, .int .i64 a1, .int .i64 a2, .int .i64 a3, .string s] 41)).alloc (.cells #[.int .i64 0, .slice none 0 0, .slice none 0 0] 37)) (w.heap.size + 1 + 1) := zd_at (by simp) (by simp; omega)
 clear hR hP hB
 go_enter Tryz.func12, Tryz.ntmps12
 go_upto_region 1 with fail
 generalize ((w.alloc (.cells #[.int .i64 n, .slice A bs.length c, .slice A2 ps.length c2] 37)).alloc (.cells #[.int .i64 k, .int .i64 a1, .int .i64 a2, .int .i64 a3, .string s] 41)).alloc (.cells #[.int .i64 0, .slice none 0 0, .slice none 0 0] 37) = W at hD hE hY ⊢
 have p0 := hD.c0
 have p1 := hD.c1
 have p2 := hD.c2
 go_upto_region 3 with (go_at_call 23; go_fit (deskOk_c n bs ps A A2 b o c b2 o2 c2 _ _ (show bs.length ≤ 2000000 by omega) (show ps.length ≤ 2000000 by omega) Hpl.out (Nat.le_refl _) hD.rd hD.rp); rintro e w2 ⟨rfl, hb⟩; rw [Hok.out]; replace hD := hD.below hb; replace hE := hE.below hb; replace hY := hY.below hb)
 clear p0 p1 p2 hb
 have p0 := hD.c0
 have p1 := hD.c1
 have p2 := hD.c2
 go_upto_region 4 with (go_at_call 41; refine (cloneD_q n bs ps A A2 b o c b2 o2 c2 _ _ (show bs.length ≤ 2000 by omega) (show ps.length ≤ 2000000 by omega) Hpl.out (Nat.le_refl _) hD.rd hD.rp).mono ?_; rintro e w3 ⟨v, rfl, ⟨A3, c3, A4, c4, rfl, own3, ops3, M3, dif3⟩, hb3⟩; try dsimp only at own3 ops3 dif3)
 try dsimp only at own3 ops3 dif3 ⊢
 have hQ := mq_of (n := n) (W := w2) hb3 own3 ops3 dif3
 have hal : Below w2.heap.size w2 (w3.alloc (.cells #[.int .i64 n, .slice A3 bs.length c3, .slice A4 ps.length c4] 37)) := bthen hb3 (by go_grown)
 replace hD := hD.below hal
 replace hE := hE.below hal
 replace hYl := hY.ex
 replace hY := hY.below hal
 have hxl := hb3.size
 clear p0 p1 p2 own3 ops3 dif3 hal
 generalize w3.alloc (.cells #[.int .i64 n, .slice A3 bs.length c3, .slice A4 ps.length c4] 37) = W1 at hQ hD hE hY ⊢
 generalize w3.heap.size = X at hQ hxl ⊢
 clear hb3
 have hYX : w.heap.size + 1 + 1 < X := by omega
 clear hxl
 have p0 := hD.c0
 have p1 := hD.c1
 have p2 := hD.c2
 have d0 := hE.c0
 have d1 := hE.c1
 have d2 := hE.c2
 have d3 := hE.c3
 have d4 := hE.c4
 have x0 := hQ.p0
 have x1 := hQ.p1
 have x2 := hQ.p2
 go_upto_region 6 with (go_at_call 42; refine (Hnq.out _).mono ?_; rintro e w4 ⟨rfl, hb4⟩; replace hQ := hQ.below hb4; replace hD := hD.below hb4; replace hE := hE.below hb4; replace hY := hY.below hb4)
 clear p0 p1 p2 d0 d1 d2 d3 d4 x0 x1 x2
 have d0 := hE.c0
 have hk6 := Hk6.out
 go_upto_region 12 with fail
 clear hk6
 have d1 := hE.c1
 have d2 := hE.c2
 have d3 := hE.c3
 have d4 := hE.c4
 have x0 := hQ.p0
 have x1 := hQ.p1
 have hv4 := hv.below hD.bel
 obtain ⟨gq, hrdq⟩ := hQ.own.readsA
 go_upto_region 13 with (go_at_call 43; refine (Hmc.out _ hv4 _ _ _ _ _ (Nat.le_refl _) hrdq).mono ?_; rintro e w5 ⟨v, rfl, ⟨m, A5, c5, g5, rfl, hr5, hge5, hm17, hmq⟩, hb5⟩; rw [Hr.out])
 have hXc := hQ.ex
 have hVc := hb5.size
 have hrw : ∀ k, (Value.slice A4 ps.length c4).ownBlock = some k → w2.heap.size ≤ k ∧ k < w4.heap.size := fun k hk => by
  obtain ⟨cs, hrow, -⟩ := hQ.ops
  exact hrow.lt k hk
 have Hfar : Hid (w5.heap.size ≠ X ∧ (some w5.heap.size ≠ (Value.slice A4 ps.length c4).ownBlock) ∧ (0 < m.bs.length → g5 ≠ X ∧ some g5 ≠ (Value.slice A4 ps.length c4).ownBlock)) := by
  refine ⟨by omega, fun e => by have := hrw _ e.symm; omega, fun hl => ⟨?_, fun e => ?_⟩⟩
  ·have := hge5 hl; omega
  ·have := hge5 hl; have := hrw _ e.symm; omega
 clear hge5 hrw x0 x1 d0 d1 d2 d3 d4 hrdq hv4
 have hM := po_new (t := 34) (n := m.n) (c := c5) (Below.refl w5.heap.size w5) hr5
 have hal4 : Below w4.heap.size w4 (w5.alloc (.cells #[.int .i64 m.n, .slice A5 m.bs.length c5] 34)) := bthen hb5 (by go_grown)
 replace hD := hD.below hal4
 replace hY := hY.below hal4
 replace hQ := hQ.below hal4
 clear hE hr5 hb5 hal4
 generalize w5.alloc (.cells #[.int .i64 m.n, .slice A5 m.bs.length c5] 34) = W5 at hD hY hQ hM ⊢
 clear hVc hXc
 generalize w5.heap.size = V at hM Hfar ⊢
 cases r
 ·have Hno : ∀ w' v, DkW2 w w' ⟨⟨n, bs⟩, ps⟩ false v → DkW2 w w' D.1 D.2 v := fun w' v h => by
   rw [Hres.out, if_neg (fun h => by cases h.1)]
   exact h
  go_upto_region 14 with fail
  clear hM
  have x0 := hQ.p0
  have x1 := hQ.p1
  have x2 := hQ.p2
  have hQ5 := hQ
  have hlt : Hid (ps.length = ps.length) := rfl
  have hbel := hD.bel
  clear hD hQ x0 x1 x2
  have x0 := hQ5.p0
  have x1 := hQ5.p1
  have x2 := hQ5.p2
  rw [hlt.out] at x2
  have z0 := hY.z0
  have z1 := hY.z1
  have z2 := hY.z2
  have zf0 := hY.zf 0
  have zf1 := hY.zf 1
  have zf2 := hY.zf 2
  have hYe := hY.ex
  have hlo2 := hY.lo
  obtain ⟨r0, r1, r2⟩ := three_cellsD (a := .int .i64 n) (b := .slice A3 bs.length c3) (d := .slice A4 ps.length c4) z0 z1 z2
  have own9 := ((hQ5.own.setLow hYl 0 (.int .i64 n)).setLow hYl 1 (.slice A3 bs.length c3)).setLow hYl 2 (.slice A4 ps.length c4)
  have ops9 := ((hQ5.ops.setLow hYl 0 (.int .i64 n)).setLow hYl 1 (.slice A3 bs.length c3)).setLow hYl 2 (.slice A4 ps.length c4)
  have dif9 := ((hQ5.dif.setLow hYl 0 (.int .i64 n)).setLow hYl 1 (.slice A3 bs.length c3)).setLow hYl 2 (.slice A4 ps.length c4)
  have hb9 := ((hbel.setCell (p := ⟨w.heap.size + 1 + 1, 0, none⟩) hlo2 (.int .i64 n)).setCell (p := ⟨w.heap.size + 1 + 1, 1, none⟩) hlo2 (.slice A3 bs.length c3)).setCell (p := ⟨w.heap.size + 1 + 1, 2, none⟩) hlo2 (.slice A4 ps.length c4)
  go_wp2_with fail
  refine bodyPost_ret (v := .tuple #[.agg #[.int .i64 n, .slice A3 bs.length c3, .slice A4 ps.length c4], .bool false]) (by simp [results, Tryz.results12, go_sem, r0, r1, r2]) rfl ?_
  have hfin := dkw_of (w := w) (n := n) own9 ops9 dif9 (show w.heap.size ≤ w2.heap.size by omega) false
  exact ⟨_, rfl, Hno _ _ hfin, hb9⟩
 ·have hmq' := hmq Hr.out
  subst hmq'
  clear hmq
  have hsp : ∃ t, sameP m ⟨n, bs⟩ = t := ⟨_, rfl⟩
  obtain ⟨t, ht⟩ := hsp
  have hres := Hres.out
  rw [ht] at hres
  have Ht := hide ht
  clear ht
  obtain ⟨gq, hrdq⟩ := hQ.own.readsA
  have hsm := fun wq (h1 : BdsR wq wq.heap.size g5 0 A5 m.bs) (h2 : BdsR wq wq.heap.size gq 0 A3 bs) => same_c m ⟨n, bs⟩ A5 A3 g5 0 c5 gq 0 c3 _ wq (show m.bs.length ≤ 2000000 by omega) (show bs.length ≤ 2000000 by omega) (Nat.le_refl _) h1 h2
  dsimp only at hsm
  have Hsm := hide hsm
  clear hsm
  have x0 := hQ.p0
  have x1 := hQ.p1
  have v0 := hM.c0
  have v1 := hM.c1
  cases t
  ·have Hyes : ∀ w' v, DkW2 w w' ⟨m, pushP ps ⟨n, bs⟩⟩ true v → DkW2 w w' D.1 D.2 v := fun w' v h => by
    rw [hres, if_pos ⟨rfl, rfl⟩]
    exact h
   clear hres
   go_upto_region 15 with (go_at_call 44; refine (Hsm.out _ hM.rd hrdq).mono ?_; rintro e w8 ⟨rfl, hb8⟩; rw [Ht.out]; replace hD := hD.below hb8; replace hY := hY.below hb8; replace hQ := hQ.below hb8; replace hM := hM.below hb8)
   clear x0 x1 v0 v1
   have hV : VB w8 V g5 0 m.n A5 c5 m.bs := ⟨hM.ex, hM.c0, hM.c1, hM.rd⟩
   have hbel := hD.bel
   clear hD hM hb8 hrdq
   have hQa := hQ.alloc (.cells #[.int .i64 n, .slice A3 bs.length c3] 34)
   have hala : Below w8.heap.size w8 (w8.alloc (.cells #[.int .i64 n, .slice A3 bs.length c3] 34)) := by go_grown
   have hYa := hY.below hala
   have hVa := hV.below hala
   have hbela := bthen hbel hala
   obtain ⟨cs, hrow, hplc⟩ := hQa.ops
   have x0 := hQ.p0
   have x1 := hQ.p1
   have x2 := hQ.p2
   have hcf2 := hQ.cf 2
   go_upto_region 16 with (at_builtin; refine app_list _ rfl (.tmp 60) (.tmp 63) _ rfl w2.heap.size 34 j0 _ 2 32 Tryz.underlying35 hj0 hy0 hy1 hy2 rfl (by omega) (.slice A4 ps.length c4) ps.length cs rfl hrow _ 1 _ [.int .i64 n, .slice A3 bs.length c3] rfl rfl (NewsAt.block (cs := #[.int .i64 n, .slice A3 bs.length c3]) (at_new rfl)) (by simp [Value.oneCell']) (by omega) (by omega) hQa.bel.size ?_; intro A7 c7 w7 hown7 hg7 hat7; obtain ⟨z2, zf, hQ7, hb7⟩ := hQa.app (p := ⟨n, bs⟩) (A2' := A7) (c2' := c7) hrow hplc hQa.own hg7 hown7)
   have hY7 := (hYa.grown hg7 (fun k hk => by have := (hrow.lt k hk).1; omega)).grown (grown_set w7 ⟨X, 2, none⟩ (.slice A7 (ps.length + 1) c7)) (fun q hq => by cases hq; dsimp only; omega)
   have hV7 := (hVa.grown hg7 Hfar.out.2.1 (fun h => (Hfar.out.2.2 h).2)).set (i := 2) Hfar.out.1 (fun h => (Hfar.out.2.2 h).1) (.slice A7 (ps.length + 1) c7)
   have hbel7 : Below w.heap.size w (w7.setCell ⟨X, 2, none⟩ (.slice A7 (ps.length + 1) c7)) := (below_app hbela hrow hg7 (by omega) hQa.bel.size).setCell (p := ⟨X, 2, none⟩) (by show w.heap.size ≤ X; omega) _
   have hX7 := hQ7.toX
   obtain ⟨hcr, hcr63⟩ := own_cap hown7
   clear hown7 hg7 hat7 z2 zf hQ7 hb7 hrow hplc x0 x1 x2 hcf2 hQa hala hYa hVa hbela hbel hV hQ hY
   obtain ⟨qs, hqs⟩ : ∃ qs, ps ++ [(⟨n, bs⟩ : Pl)] = qs := ⟨_, rfl⟩
   rw [hqs] at hX7
   have hql : qs.length = ps.length + 1 := by rw [← hqs]; simp
   have hqin : ∀ p ∈ qs, p.bs.length ≤ 2000000 := fun p hp => by
    rw [← hqs] at hp
    rcases List.mem_append.1 hp with h | h
    ·exact Hpl.out p h
    ·obtain rfl := List.mem_singleton.1 h
     exact show bs.length ≤ 2000000 by omega
   have Hqin := hide hqin
   have Hql := hide hql
   rw [hql] at hX7
   have Hqs := hide hqs
   clear hql hqs hqin
   generalize w7.setCell ⟨X, 2, none⟩ (.slice A7 (ps.length + 1) c7) = W8 at hY7 hV7 hbel7 hX7 ⊢
   have x2 := hX7.p2
   have hcf2 := hX7.cf 2
   have hops := hX7.ops
   rw [← Hql.out] at hops
   obtain ⟨g7, hrp7⟩ := hops.reads
   obtain rfl := hrp7.addr (by rw [Hql.out]; omega)
   clear hops hrp7
   have hb9l : m.bs.length ≤ 2000 := by omega
   by_cases h8 : ps.length + 1 ≤ 8
   ·have h8z : ¬ (8 : Int) < (ps.length : Int) + 1 := by omega
    have hpush : Hid (pushP ps ⟨n, bs⟩ = qs) := by
     unfold Hid pushP
     rw [Hqs.out, if_neg (by rw [Hql.out]; omega)]
    go_upto_region 18 with fail
    clear x2 hcf2 h8z
    have hbx := hX7.bx
    have y0 := hX7.p0
    have y1 := hX7.p1
    have yf0 := hX7.cf 0
    have yf1 := hX7.cf 1
    have v0 := hV7.c0
    have v1 := hV7.c1
    go_upto_region 19 with fail
    clear y0 y1 yf0 yf1 v0 v1
    have hV9 := (hV7.set (i := 0) Hfar.out.1 (fun h => (Hfar.out.2.2 h).1) (.int .i64 m.n)).set (i := 1) Hfar.out.1 (fun h => (Hfar.out.2.2 h).1) (.slice A5 m.bs.length c5)
    have ops9 := (hX7.ops.setBox hbx 0 (.int .i64 m.n)).setBox (hbx.set 0 (.int .i64 m.n)) 1 (.slice A5 m.bs.length c5)
    obtain ⟨x0, x1⟩ := two_cells (a := .int .i64 m.n) (b := .slice A5 m.bs.length c5) hX7.p0 hX7.p1
    have x2 : ((W8.setCell ⟨X, 0, none⟩ (.int .i64 m.n)).setCell ⟨X, 1, none⟩ (.slice A5 m.bs.length c5)).cell? ⟨X, 2, none⟩ = some (Value.slice (some ⟨g7, 0, none⟩) (ps.length + 1) c7) := by
     rw [World.cell?_setCell_other _ _ _ _ (by simp), World.cell?_setCell_other _ _ _ _ (by simp)]
     exact hX7.p2
    have hb10 : Below w2.heap.size W8 ((W8.setCell ⟨X, 0, none⟩ (.int .i64 m.n)).setCell ⟨X, 1, none⟩ (.slice A5 m.bs.length c5)) := ((Below.refl _ _).setCell hX7.lo _).setCell hX7.lo _
    have hY := hY7.belowX hYl hb10
    have hbel := hbel7.trans (hb10.mono (show w.heap.size ≤ w2.heap.size by omega))
    have hrd9 := hV9.rd
    clear hV7 hV9 hX7 hY7 hbel7 hb10 hbx
    generalize (W8.setCell ⟨X, 0, none⟩ (.int .i64 m.n)).setCell ⟨X, 1, none⟩ (.slice A5 m.bs.length c5) = W6 at hrd9 ops9 x0 x1 x2 hY hbel ⊢
    rw [← Hql.out] at ops9 x2
    obtain ⟨gp, hrp9⟩ := ops9.reads
    have hl9 : qs.length ≤ 2000000 := by rw [Hql.out]; omega
    obtain ⟨mn, mb⟩ := m
    dsimp only at *
    have Hpt := Hqin
    rw [hpush.out] at Hyes
    have hY6 := hY.ex
    go_wp2_with (go_at_call 41; go_fit (cloneD_q mn mb qs _ _ _ _ _ _ _ _ _ _ hb9l hl9 Hpt.out (Nat.le_refl _) hrd9 hrp9); rintro e w9 ⟨v, rfl, ⟨A9, c9, A10, c10, rfl, own9, ops9, M9, dif9⟩, hb9⟩; have hY9 := hY.below hb9; have z0 := hY9.z0; have z1 := hY9.z1; have z2 := hY9.z2; have zf0 := hY9.zf 0; have zf1 := hY9.zf 1; have zf2 := hY9.zf 2; have hYe := hY9.ex)
    try dsimp only at own9 ops9 dif9 ⊢
    have hlo2 := hY9.lo
    obtain ⟨r0, r1, r2⟩ := three_cellsD (a := .int .i64 mn) (b := .slice A9 (mb).length c9) (d := .slice A10 (qs).length c10) z0 z1 z2
    have own10 := ((own9.setLow hY6 0 (.int .i64 mn)).setLow hY6 1 (.slice A9 (mb).length c9)).setLow hY6 2 (.slice A10 (qs).length c10)
    have ops10 := ((ops9.setLow hY6 0 (.int .i64 mn)).setLow hY6 1 (.slice A9 (mb).length c9)).setLow hY6 2 (.slice A10 (qs).length c10)
    have dif10 := ((dif9.setLow hY6 0 (.int .i64 mn)).setLow hY6 1 (.slice A9 (mb).length c9)).setLow hY6 2 (.slice A10 (qs).length c10)
    have hbe := bthen hbel hb9
    have hb10 := ((hbe.setCell (p := ⟨w.heap.size + 1 + 1, 0, none⟩) hlo2 (.int .i64 mn)).setCell (p := ⟨w.heap.size + 1 + 1, 1, none⟩) hlo2 (.slice A9 (mb).length c9)).setCell (p := ⟨w.heap.size + 1 + 1, 2, none⟩) hlo2 (.slice A10 (qs).length c10)
    refine bodyPost_ret (v := .tuple #[.agg #[.int .i64 mn, .slice A9 (mb).length c9, .slice A10 (qs).length c10], .bool true]) (by simp [results, Tryz.results12, go_sem, r0, r1, r2]) rfl ?_
    have hfin := dkw_of (w := w) (n := mn) own10 ops10 dif10 (show w.heap.size ≤ W6.heap.size from hbel.size) true
    exact ⟨_, rfl, Hyes _ _ hfin, hb10⟩
   ·have h8z : (8 : Int) < (ps.length : Int) + 1 := by omega
    have h1 : ¬ c7 = 1 := by omega
    have h1z : (1 : Int) ≤ (ps.length : Int) + 1 := by omega
    have hpush : Hid (pushP ps ⟨n, bs⟩ = qs.drop 1) := by
     unfold Hid pushP
     rw [Hqs.out, if_pos (by rw [Hql.out]; omega)]
    have hdl : (qs.drop 1).length = ps.length := by rw [List.length_drop, Hql.out]; omega
    have hX8 := hX7.set2 (.slice (some ⟨g7, 2, none⟩) ps.length (c7 - 1))
    have hb8' : Below w2.heap.size W8 (W8.setCell ⟨X, 2, none⟩ (.slice (some ⟨g7, 2, none⟩) ps.length (c7 - 1))) := (Below.refl _ _).setCell hX7.lo _
    have hY8 := hY7.belowX hYl hb8'
    have hV8 := hV7.set (i := 2) Hfar.out.1 (fun h => (Hfar.out.2.2 h).1) (.slice (some ⟨g7, 2, none⟩) ps.length (c7 - 1))
    have hbel8 := hbel7.trans (hb8'.mono (show w.heap.size ≤ w2.heap.size by omega))
    have Hdl := hide hdl
    clear hdl
    go_upto_region 18 with fail
    clear x2 hcf2 hX7 hY7 hV7 hbel7 hb8' h8z h1 h1z
    generalize W8.setCell ⟨X, 2, none⟩ (.slice (some ⟨g7, 2, none⟩) ps.length (c7 - 1)) = W88 at hX8 hY8 hV8 hbel8 ⊢
    have hX7 := hX8
    have hY7 := hY8
    have hV7 := hV8
    have hbel7 := hbel8
    clear hX8 hY8 hV8 hbel8
    obtain ⟨W8, hW8⟩ : ∃ W8, W8 = W88 := ⟨_, rfl⟩
    subst hW8
    have hbx := hX7.bx
    have y0 := hX7.p0
    have y1 := hX7.p1
    have yf0 := hX7.cf 0
    have yf1 := hX7.cf 1
    have v0 := hV7.c0
    have v1 := hV7.c1
    go_upto_region 19 with fail
    clear y0 y1 yf0 yf1 v0 v1
    have hV9 := (hV7.set (i := 0) Hfar.out.1 (fun h => (Hfar.out.2.2 h).1) (.int .i64 m.n)).set (i := 1) Hfar.out.1 (fun h => (Hfar.out.2.2 h).1) (.slice A5 m.bs.length c5)
    have ops9 := (hX7.ops.setBox hbx 0 (.int .i64 m.n)).setBox (hbx.set 0 (.int .i64 m.n)) 1 (.slice A5 m.bs.length c5)
    obtain ⟨x0, x1⟩ := two_cells (a := .int .i64 m.n) (b := .slice A5 m.bs.length c5) hX7.p0 hX7.p1
    have x2 : ((W8.setCell ⟨X, 0, none⟩ (.int .i64 m.n)).setCell ⟨X, 1, none⟩ (.slice A5 m.bs.length c5)).cell? ⟨X, 2, none⟩ = some (Value.slice (some ⟨g7, 2, none⟩) ps.length (c7 - 1)) := by
     rw [World.cell?_setCell_other _ _ _ _ (by simp), World.cell?_setCell_other _ _ _ _ (by simp)]
     exact hX7.p2
    have hb10 : Below w2.heap.size W8 ((W8.setCell ⟨X, 0, none⟩ (.int .i64 m.n)).setCell ⟨X, 1, none⟩ (.slice A5 m.bs.length c5)) := ((Below.refl _ _).setCell hX7.lo _).setCell hX7.lo _
    have hY := hY7.belowX hYl hb10
    have hbel := hbel7.trans (hb10.mono (show w.heap.size ≤ w2.heap.size by omega))
    have hrd9 := hV9.rd
    clear hV7 hV9 hX7 hY7 hbel7 hb10 hbx
    generalize (W8.setCell ⟨X, 0, none⟩ (.int .i64 m.n)).setCell ⟨X, 1, none⟩ (.slice A5 m.bs.length c5) = W6 at hrd9 ops9 x0 x1 x2 hY hbel ⊢
    rw [← Hql.out] at ops9
    obtain ⟨gp, hrp9'⟩ := ops9.reads
    have e9 := hrp9'.addr (by rw [Hql.out]; omega)
    injection e9 with e9
    injection e9 with e9
    subst e9
    have hrp9 := hrp9'.drop1 (by rw [Hql.out]; omega)
    clear hrp9' ops9
    have hqd : ∀ p ∈ qs.drop 1, p.bs.length ≤ 2000000 := fun p hp => Hqin.out p (List.mem_of_mem_drop hp)
    obtain ⟨qd, hqdd⟩ : ∃ qd, qs.drop 1 = qd := ⟨_, rfl⟩
    have hdl2 := Hdl.out
    rw [hpush.out] at Hyes
    rw [hqdd] at hrp9 hqd hdl2 Hyes
    have Hpt := hide hqd
    clear hqd hqdd hpush
    have hl9 : qd.length ≤ 2000000 := by omega
    rw [← hdl2] at x2
    have hl9h := hide hdl2
    clear hdl2
    obtain ⟨mn, mb⟩ := m
    dsimp only at *
    have hY6 := hY.ex
    go_wp2_with (go_at_call 41; go_fit (cloneD_q mn mb qd _ _ _ _ _ _ _ _ _ _ hb9l hl9 Hpt.out (Nat.le_refl _) hrd9 hrp9); rintro e w9 ⟨v, rfl, ⟨A9, c9, A10, c10, rfl, own9, ops9, M9, dif9⟩, hb9⟩; have hY9 := hY.below hb9; have z0 := hY9.z0; have z1 := hY9.z1; have z2 := hY9.z2; have zf0 := hY9.zf 0; have zf1 := hY9.zf 1; have zf2 := hY9.zf 2; have hYe := hY9.ex)
    try dsimp only at own9 ops9 dif9 ⊢
    have hlo2 := hY9.lo
    obtain ⟨r0, r1, r2⟩ := three_cellsD (a := .int .i64 mn) (b := .slice A9 (mb).length c9) (d := .slice A10 (qd).length c10) z0 z1 z2
    have own10 := ((own9.setLow hY6 0 (.int .i64 mn)).setLow hY6 1 (.slice A9 (mb).length c9)).setLow hY6 2 (.slice A10 (qd).length c10)
    have ops10 := ((ops9.setLow hY6 0 (.int .i64 mn)).setLow hY6 1 (.slice A9 (mb).length c9)).setLow hY6 2 (.slice A10 (qd).length c10)
    have dif10 := ((dif9.setLow hY6 0 (.int .i64 mn)).setLow hY6 1 (.slice A9 (mb).length c9)).setLow hY6 2 (.slice A10 (qd).length c10)
    have hbe := bthen hbel hb9
    have hb10 := ((hbe.setCell (p := ⟨w.heap.size + 1 + 1, 0, none⟩) hlo2 (.int .i64 mn)).setCell (p := ⟨w.heap.size + 1 + 1, 1, none⟩) hlo2 (.slice A9 (mb).length c9)).setCell (p := ⟨w.heap.size + 1 + 1, 2, none⟩) hlo2 (.slice A10 (qd).length c10)
    refine bodyPost_ret (v := .tuple #[.agg #[.int .i64 mn, .slice A9 (mb).length c9, .slice A10 (qd).length c10], .bool true]) (by simp [results, Tryz.results12, go_sem, r0, r1, r2]) rfl ?_
    have hfin := dkw_of (w := w) (n := mn) own10 ops10 dif10 (show w.heap.size ≤ W6.heap.size from hbel.size) true
    exact ⟨_, rfl, Hyes _ _ hfin, hb10⟩
  ·have Hno : ∀ w' v, DkW2 w w' ⟨⟨n, bs⟩, ps⟩ false v → DkW2 w w' D.1 D.2 v := fun w' v h => by
    rw [hres, if_neg (fun h => by cases h.2)]
    exact h
   clear hres
   go_upto_region 14 with (go_at_call 44; refine (Hsm.out _ hM.rd hrdq).mono ?_; rintro e w8 ⟨rfl, hb8⟩; rw [Ht.out]; replace hD := hD.below hb8; replace hY := hY.below hb8; replace hQ := hQ.below hb8; replace hM := hM.below hb8)
   clear x0 x1 v0 v1
   clear hrdq
   clear hM
   have x0 := hQ.p0
   have x1 := hQ.p1
   have x2 := hQ.p2
   have hQ5 := hQ
   have hlt : Hid (ps.length = ps.length) := rfl
   have hbel := hD.bel
   clear hD hQ x0 x1 x2
   have x0 := hQ5.p0
   have x1 := hQ5.p1
   have x2 := hQ5.p2
   rw [hlt.out] at x2
   have z0 := hY.z0
   have z1 := hY.z1
   have z2 := hY.z2
   have zf0 := hY.zf 0
   have zf1 := hY.zf 1
   have zf2 := hY.zf 2
   have hYe := hY.ex
   have hlo2 := hY.lo
   obtain ⟨r0, r1, r2⟩ := three_cellsD (a := .int .i64 n) (b := .slice A3 bs.length c3) (d := .slice A4 ps.length c4) z0 z1 z2
   have own9 := ((hQ5.own.setLow hYl 0 (.int .i64 n)).setLow hYl 1 (.slice A3 bs.length c3)).setLow hYl 2 (.slice A4 ps.length c4)
   have ops9 := ((hQ5.ops.setLow hYl 0 (.int .i64 n)).setLow hYl 1 (.slice A3 bs.length c3)).setLow hYl 2 (.slice A4 ps.length c4)
   have dif9 := ((hQ5.dif.setLow hYl 0 (.int .i64 n)).setLow hYl 1 (.slice A3 bs.length c3)).setLow hYl 2 (.slice A4 ps.length c4)
   have hb9 := ((hbel.setCell (p := ⟨w.heap.size + 1 + 1, 0, none⟩) hlo2 (.int .i64 n)).setCell (p := ⟨w.heap.size + 1 + 1, 1, none⟩) hlo2 (.slice A3 bs.length c3)).setCell (p := ⟨w.heap.size + 1 + 1, 2, none⟩) hlo2 (.slice A4 ps.length c4)
   go_wp2_with fail
   refine bodyPost_ret (v := .tuple #[.agg #[.int .i64 n, .slice A3 bs.length c3, .slice A4 ps.length c4], .bool false]) (by simp [results, Tryz.results12, go_sem, r0, r1, r2]) rfl ?_
   have hfin := dkw_of (w := w) (n := n) own9 ops9 dif9 (show w.heap.size ≤ w2.heap.size by omega) false
   exact ⟨_, rfl, Hno _ _ hfin, hb9⟩

/-- A desk after a deed, by the program. -/
theorem deskDo_w (rt : List UInt8 → Option (List Mk)) (hrt : IsRead rt) (n : Int) (bs : List Bd) (ps : List Pl) (k a1 a2 a3 : Int) (s : ByteArray) (L : List UInt8) (hL : s.data.toList = L) (A A2 : Option Addr) (b o c b2 o2 c2 B : Nat) (w : World) (hv : VR w) (h16 : bs.length ≤ 2000000) (hps : ps.length ≤ 2000000) (hpl : ∀ p ∈ ps, p.bs.length ≤ 2000000) (hB : B ≤ w.heap.size) (hR : BdsR w B b o A bs) (hP : PlsR w B b2 o2 A2 ps) :
  Calls Tryz.prog 12 #[.agg #[.int .i64 n, .slice A bs.length c, .slice A2 ps.length c2], .agg #[.int .i64 k, .int .i64 a1, .int .i64 a2, .int .i64 a3, .string s]] w fun e w' => ∃ v, e = .returned v ∧ DkW2 w w' (deskDo rt ⟨⟨n, bs⟩, ps⟩ ⟨k, a1, a2, a3, L⟩).1 (deskDo rt ⟨⟨n, bs⟩, ps⟩ ⟨k, a1, a2, a3, L⟩).2 v ∧ Below w.heap.size w w' := by
 cases hok : deskOk ⟨⟨n, bs⟩, ps⟩
 ·rw [do_bad hok]
  exact deskDo_no n bs ps k a1 a2 a3 s hok A A2 b o c b2 o2 c2 B w h16 hps hpl hB hR hP
 ·cases hnm : namedD ⟨k, a1, a2, a3, L⟩
  ·rw [do_named hok hnm]
   exact deskDo_nn n bs ps k a1 a2 a3 s L hL hnm hok A A2 b o c b2 o2 c2 B w hB hR hP
  ·by_cases hk6 : k = 6
   ·subst hk6
    have hz : a1 = 0 ∧ a2 = 0 ∧ a3 = 0 ∧ L = [] := by simpa [namedD] using hnm
    obtain ⟨rfl, rfl, rfl, rfl⟩ := hz
    obtain rfl := str_nil hL
    by_cases hne : 0 < ps.length
    ·have e : deskDo rt ⟨⟨n, bs⟩, ps⟩ ⟨6, 0, 0, 0, []⟩ = (⟨ps.getLastD ⟨0, []⟩, ps.dropLast⟩, true) := by
      unfold deskDo
      rw [if_pos hok, if_pos ⟨⟨rfl, rfl, rfl, rfl, rfl⟩, hne⟩]
     rw [e]
     exact deskDo_back n bs ps hok hne A A2 b o c b2 o2 c2 B w hB hR hP
    ·obtain rfl : ps = [] := List.eq_nil_of_length_eq_zero (by omega)
     rw [do_bad2 hok (fun h => by cases h.2) (.inr rfl)]
     exact deskDo_b0 n bs hok A A2 b o c b2 o2 c2 B w hB hR hP
   ·exact deskDo_do rt hrt n bs ps k a1 a2 a3 s L hL hok hnm hk6 A A2 b o c b2 o2 c2 B w hv hB hR hP
theorem deskDo_q (rt : List UInt8 → Option (List Mk)) (hrt : IsRead rt) (n : Int) (bs : List Bd) (ps : List Pl) (k a1 a2 a3 : Int) (s : ByteArray) (L : List UInt8) (hL : s.data.toList = L) (A A2 : Option Addr) (b o c b2 o2 c2 B : Nat) (w : World) (hv : VR w) (h16 : bs.length ≤ 2000000) (hps : ps.length ≤ 2000000) (hpl : ∀ p ∈ ps, p.bs.length ≤ 2000000) (hB : B ≤ w.heap.size) (hR : BdsR w B b o A bs) (hP : PlsR w B b2 o2 A2 ps) :
  Calls Tryz.prog 12 #[.agg #[.int .i64 n, .slice A bs.length c, .slice A2 ps.length c2], .agg #[.int .i64 k, .int .i64 a1, .int .i64 a2, .int .i64 a3, .string s]] w fun e w' => ∃ v, e = .returned v ∧ DkV2 w w' (deskDo rt ⟨⟨n, bs⟩, ps⟩ ⟨k, a1, a2, a3, L⟩).1 (deskDo rt ⟨⟨n, bs⟩, ps⟩ ⟨k, a1, a2, a3, L⟩).2 v ∧ Below w.heap.size w w' := by
 refine (deskDo_w rt hrt n bs ps k a1 a2 a3 s L hL A A2 b o c b2 o2 c2 B w hv h16 hps hpl hB hR hP).mono ?_
 rintro e w' ⟨v, h1, h2, h3⟩
 exact ⟨v, h1, h2.weak, h3⟩
end Go.Proofs.YtmnajkhoacogjaaGreatDoor
