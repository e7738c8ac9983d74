/-
 spec: l15Copy.
 spec: DeskOk.
 spec: DeskNew.
 spec: DeskNew, of any plan.
-/
import Derived.Test.YtmnajkhoacogjaaGreatDoorR73
import Derived.Test.YtmnajkhoacogjaaGreatDoorS99
import Derived.Test.YtmnajkhoacogjaaGreatDoorS1
namespace Go.Proofs.YtmnajkhoacogjaaGreatDoor
set_option linter.unusedVariables false
set_option linter.unusedSimpArgs false
open Go Go.RowKit Pp

open Go Go.RowKit Pp

namespace Pp
/-- A desk that is handed back. -/
def DkV (w w' : World) (d : Dk) (v : Value) : Prop := ∃ A c A2 c2, v = .agg #[.int .i64 d.now.n, .slice A d.now.bs.length c, .slice A2 d.past.length c2] ∧ OwnB w.heap.size w' (.slice A d.now.bs.length c) d.now.bs ∧ OwnPs w.heap.size w' (.slice A2 d.past.length c2) d.past
end Pp
theorem own_low {w : World} {lo Y : Nat} {e : TypeId} {size : Nat} {v : Value} {n : Nat} {xs : List Value} (h : w.ownsRow lo e size v n xs) (hY : Y < lo) : v.ownBlock ≠ some Y := fun e => by have := (h.lt _ e).1; omega
theorem OwnPs.setLow {lo Y : Nat} {w : World} {v : Value} {ps : List Pl} (h : OwnPs lo w v ps) (hY : Y < lo) (i : Nat) (x : Value) : OwnPs lo (w.setCell ⟨Y, i, none⟩ x) v ps := by
 obtain ⟨cs, h1, h2⟩ := h
 exact ⟨cs, own_set h1 (own_low h1 hY) _, h2.1, fun j p hp => by
  obtain ⟨h0, A, c, k1, k2⟩ := h2.2 j p hp
  exact ⟨h0, A, c, k1, own_set k2 (own_low k2 hY) _⟩⟩
theorem OwnB.setLow {lo Y : Nat} {w : World} {v : Value} {bs : List Bd} (h : OwnB lo w v bs) (hY : Y < lo) (i : Nat) (x : Value) : OwnB lo (w.setCell ⟨Y, i, none⟩ x) v bs := own_set h (own_low h hY) _
theorem three_cellsD {w : World} {Y : Nat} {a b d x y z : Value} (h0 : w.cell? ⟨Y, 0, none⟩ = some x) (h1 : w.cell? ⟨Y, 1, none⟩ = some y) (h2 : w.cell? ⟨Y, 2, none⟩ = some z) :
  (((w.setCell ⟨Y, 0, none⟩ a).setCell ⟨Y, 1, none⟩ b).setCell ⟨Y, 2, none⟩ d).cell? ⟨Y, 0, none⟩ = some a ∧ (((w.setCell ⟨Y, 0, none⟩ a).setCell ⟨Y, 1, none⟩ b).setCell ⟨Y, 2, none⟩ d).cell? ⟨Y, 1, none⟩ = some b ∧ (((w.setCell ⟨Y, 0, none⟩ a).setCell ⟨Y, 1, none⟩ b).setCell ⟨Y, 2, none⟩ d).cell? ⟨Y, 2, none⟩ = some d := by
 refine ⟨?_, ?_, ?_⟩
 ·rw [World.cell?_setCell_other _ _ _ _ (by simp), World.cell?_setCell_other _ _ _ _ (by simp)]
  exact World.cell?_setCell_same _ _ _ h0
 ·rw [World.cell?_setCell_other _ _ _ _ (by simp)]
  exact World.cell?_setCell_same _ _ _ (by rw [World.cell?_setCell_other _ _ _ _ (by simp)]; exact h1)
 ·exact World.cell?_setCell_same _ _ _ (by rw [World.cell?_setCell_other _ _ _ _ (by simp), World.cell?_setCell_other _ _ _ _ (by simp)]; exact h2)
set_option maxHeartbeats 4000000 in
set_option maxRecDepth 100000 in
theorem l15Copy_q (n : Int) (bs : List Bd) (ps : List Pl) (A A2 : Option Addr) (b o c b2 o2 c2 B : Nat) (w : World) (h16 : bs.length ≤ 100) (hps : ps.length ≤ 100) (hpl : ∀ p ∈ ps, p.bs.length ≤ 100) (hB : B ≤ w.heap.size) (hR : BdsR w B b o A bs) (hP : PlsR w B b2 o2 A2 ps) :
  Calls Tryz.prog 34 #[.agg #[.int .i64 n, .slice A bs.length c, .slice A2 ps.length c2]] w fun e w' => ∃ v, e = .returned v ∧ DkV w w' ⟨⟨n, bs⟩, ps⟩ v ∧ Below w.heap.size w w' := by
 obtain ⟨j0, hj0, hy0, hy1, hy2⟩ := info_parts infoPl
 have hD := (dkb_new (t := 37) (n := n) (c := c) (c2 := c2) (Below.refl w.heap.size w) (hR.more hB) (hP.more hB)).alloc (.cells #[.int .i64 0, .slice none 0 0, .slice none 0 0] 37)
 have hY : ZD w ((w.alloc (.cells #[.int .i64 n, .slice A bs.length c, .slice A2 ps.length c2] 37)).alloc (.cells #[.int .i64 0, .slice none 0 0, .slice none 0 0] 37)) (w.heap.size + 1) := zd_at (by simp) (by simp)
 have Hpl := hide hpl
 clear hR hP hB hpl
 go_enter Tryz.func34, Tryz.ntmps34
 go_upto_region 1 with fail
 generalize (w.alloc (.cells #[.int .i64 n, .slice A bs.length c, .slice A2 ps.length c2] 37)).alloc (.cells #[.int .i64 0, .slice none 0 0, .slice none 0 0] 37) = W at hD hY ⊢
 have p0 := hD.c0
 have p1 := hD.c1
 go_upto_region 2 with (go_at_call 38; go_fit (l15Plan_q ⟨n, bs⟩ A b o c _ _ h16 (Nat.le_refl _) hD.rd); rintro e w2 ⟨A3, c3, g3, rfl, hr3, own3, hb⟩)
 have hQ0 := md_new (n := n) hb own3
 clear p0 p1 hr3 own3 hb
 try dsimp only at hQ0 ⊢
 generalize w2.alloc (.cells #[.int .i64 n, .slice A3 bs.length c3, .slice none 0 0] 37) = W1 at hQ0 ⊢
 generalize w2.heap.size = X at hQ0 ⊢
 go_wp2_with fail
 go_loopg [4] ps.length (fun gh s wr => ∃ (k : Nat) (A4 : Option Addr) (c4 : Nat), k ≤ ps.length ∧ gh = ps.length - k ∧ s = .int .i64 k ∧ MD W wr X n A3 c3 bs A4 c4 (ps.take k))
 case atStart => exact ⟨0, none, 0, Nat.zero_le _, rfl, rfl, hQ0⟩
 case round =>
  clear hQ0
  obtain ⟨k, A4, c4, hk, rfl, rfl, hQ⟩ := hrel
  have hD1 := hD.below hQ.bel
  have p2 := hD1.c2
  by_cases hlt : k < ps.length
  ·have hx := List.getElem?_eq_getElem hlt
   have htl : (ps.take k).length = k := by rw [List.length_take]; omega
   have htk : ps.take (k + 1) = ps.take k ++ [ps[k]] := by rw [List.take_add_one, hx]; rfl
   obtain rfl := hD1.rp.addr (by omega)
   have hlt2 := hD1.rp.lt (by omega)
   obtain ⟨Ap, bp, op, cp, d0, d1, hrp⟩ := hD1.rp.row k _ hx
   have hpl := Hpl.out _ (List.mem_of_getElem? hx)
   have Htk := hide htk
   have hkz : (k : Int) < (ps.length : Int) := by omega
   have hltW := hD.rp.lt (by omega)
   clear htk hx
   generalize ps[k] = q at d0 d1 hrp hpl Htk
   obtain ⟨ts, hts⟩ : ∃ ts, ps.take k = ts := ⟨_, rfl⟩
   rw [hts] at hQ htl Htk
   have Htl := hide htl
   clear hts htl
   have x2 := hQ.p2
   have hexD := hD1.ex
   have hexX := hQ.ex
   rw [Htl.out] at x2
   go_upto_region 5 with fail
   refine wp_regionE (fun w' => w'.cell? ⟨X, 2, none⟩ = some (.slice A4 k c4) ∧ w'.cell? ⟨w.heap.size, 2, none⟩ = some (.slice (some ⟨b2, o2, none⟩) ps.length c2) ∧ w'.cell? ⟨b2, o2 + k * 2, none⟩ = some (.int .i64 q.n) ∧ w'.cell? ⟨b2, o2 + k * 2 + 1, none⟩ = some (.slice Ap q.bs.length cp)) 11 (by kernel_rfl) ?_
   change wpE _ _ _ _ _ _ 12 #[false, false, false, false, false, false, false, false, false, false, false, false] _ _
   have hdr : Below wr.heap.size wr wr.drew := by go_grown
   have hS0 : wr.drew.cell? ⟨X, 2, none⟩ = some (.slice A4 k c4) ∧ wr.drew.cell? ⟨w.heap.size, 2, none⟩ = some (.slice (some ⟨b2, o2, none⟩) ps.length c2) ∧ wr.drew.cell? ⟨b2, o2 + k * 2, none⟩ = some (.int .i64 q.n) ∧ wr.drew.cell? ⟨b2, o2 + k * 2 + 1, none⟩ = some (.slice Ap q.bs.length cp) := ⟨x2, p2, d0, d1⟩
   refine wpE_tk (v := ?_) 0 [11] (hy := ?_) (hS := hS0) (h := ?_)
   rotate_left
   ·intro w' hSw
    simp only [xg0, xg1, xg2]
    go_simp
    all_goals with_reducible rfl
   simp only [xg0, xg1, xg2, Act.put, xs0, xs1, xs2]
   refine wpE_tk (v := ?_) 1 [11] (hy := ?_) (hS := hS0) (h := ?_)
   rotate_left
   ·intro w' hSw
    simp only [xg0, xg1, xg2]
    go_simp
    all_goals with_reducible rfl
   simp only [xg0, xg1, xg2, Act.put, xs0, xs1, xs2]
   refine wpE_tk (v := ?_) 2 [11] (hy := ?_) (hS := hS0) (h := ?_)
   rotate_left
   ·intro w' hSw
    simp only [xg0, xg1, xg2]
    go_simp
    all_goals with_reducible rfl
   simp only [xg0, xg1, xg2, Act.put, xs0, xs1, xs2]
   refine wpE_tk (v := ?_) 3 [11] (hy := ?_) (hS := hS0) (h := ?_)
   rotate_left
   ·intro w' hSw
    simp only [xg0, xg1, xg2]
    go_simp
    all_goals with_reducible rfl
   simp only [xg0, xg1, xg2, Act.put, xs0, xs1, xs2]
   refine wpE_tk (v := ?_) 4 [11] (hy := ?_) (hS := hS0) (h := ?_)
   rotate_left
   ·intro w' hSw
    simp only [xg0, xg1, xg2]
    go_simp
    all_goals with_reducible rfl
   simp only [xg0, xg1, xg2, Act.put, xs0, xs1, xs2]
   refine wpE_tk (v := ?_) 5 [11] (hy := ?_) (hS := hS0) (h := ?_)
   rotate_left
   ·intro w' hSw
    simp only [xg0, xg1, xg2]
    go_simp
    all_goals with_reducible rfl
   simp only [xg0, xg1, xg2, Act.put, xs0, xs1, xs2]
   refine wpE_tk (v := ?_) 6 [11] (hy := ?_) (hS := hS0) (h := ?_)
   rotate_left
   ·intro w' hSw
    simp only [xg0, xg1, xg2]
    go_simp
    all_goals with_reducible rfl
   simp only [xg0, xg1, xg2, Act.put, xs0, xs1, xs2]
   refine wpE_step' 7 (of_decide_eq_true (by kernel_rfl)) (by kernel_rfl) (by kernel_rfl) (fun K hK => ?_)
   simp only [xg0, xg1, xg2]
   go_simp
   go_at_call 38
   refine (l15Plan_q q Ap bp op cp _ _ hpl (Nat.le_refl _) ((hrp.below hdr).more hdr.size)).mono ?_
   rintro e w3 ⟨A5, c5, g5, rfl, hr5, own5, hb5⟩
   have hbb := bthen hdr hb5
   have hQ5 := hQ.below hbb
   have hD5 := hD1.below hbb
   have hcell := fun (off : Nat) (w' : World) (h : Below W.heap.size W w') => ((bcell h).1 b2 off hltW).trans ((bcell hQ.bel).1 b2 off hltW).symm
   have hS0 : w3.cell? ⟨X, 2, none⟩ = some (.slice A4 k c4) ∧ w3.cell? ⟨w.heap.size, 2, none⟩ = some (.slice (some ⟨b2, o2, none⟩) ps.length c2) ∧ w3.cell? ⟨b2, o2 + k * 2, none⟩ = some (.int .i64 q.n) ∧ w3.cell? ⟨b2, o2 + k * 2 + 1, none⟩ = some (.slice Ap q.bs.length cp) := ⟨by have := hQ5.p2; rw [Htl.out] at this; exact this, hD5.c2, (hcell _ _ hQ5.bel).trans d0, (hcell _ _ hQ5.bel).trans d1⟩
   refine hK.out _ _ (.inr hS0) ?_
   clear hK K
   simp only [Act.put, xs0, xs1, xs2]
   have hal6 : Below w3.heap.size w3 (w3.alloc (.cells #[.int .i64 q.n, .slice A5 q.bs.length c5] 34)) := by go_grown
   have hQ6 := hQ5.below hal6
   have own6 : OwnB W.heap.size (w3.alloc (.cells #[.int .i64 q.n, .slice A5 q.bs.length c5] 34)) (.slice A5 q.bs.length c5) q.bs := own_less (own_below own5 hal6) (by have := hQ.bel.size; have := hdr.size; omega)
   have hD6 := hD5.below hal6
   refine wpE_step' 8 (of_decide_eq_true (by kernel_rfl)) (by kernel_rfl) (by kernel_rfl) (fun K hK => ?_)
   simp only [xg0, xg1, xg2]
   go_simp
   refine hK.out _ _ (.inr ⟨by have := hQ6.p2; rw [Htl.out] at this; exact this, hD6.c2, (hcell _ _ hQ6.bel).trans d0, (hcell _ _ hQ6.bel).trans d1⟩) ?_
   clear hK K hS0
   simp only [Act.put, xs0, xs1, xs2]
   obtain ⟨cs, hrow, hplc⟩ := hQ6.ops
   have hrow' := hrow
   rw [Htl.out] at hrow'
   refine wpE_step' 9 (of_decide_eq_true (by kernel_rfl)) (by kernel_rfl) (by kernel_rfl) (fun K hK => ?_)
   simp only [xg0, xg1, xg2]
   refine app_wp _ (.tmp 17) (.tmp 24) _ rfl W.heap.size 34 j0 _ 2 32 Tryz.underlying35 hj0 hy0 hy1 hy2 rfl (by omega) (.slice A4 k c4) k cs rfl hrow' (some ⟨w3.heap.size, 0, none⟩) 1 _ [.int .i64 q.n, .slice A5 q.bs.length c5] rfl rfl (NewsAt.block (cs := #[.int .i64 q.n, .slice A5 q.bs.length c5]) (at_new (w := w3) rfl)) (by simp [Value.oneCell']) (by omega) (by omega) hQ6.bel.size ?_
   intro A7 c7 w7 hown7 hg7 hat7
   have happ := hQ6.app (p := q) (A2' := A7) (c2' := c7) hrow hplc own6 (by rw [Htl.out]; exact hg7) (by rw [Htl.out]; exact hown7)
   rw [Htl.out] at happ
   obtain ⟨z2, zf, hQ7, hb7⟩ := happ
   have hD7 := hD.below hb7
   have hS0 : w7.cell? ⟨X, 2, none⟩ = some (.slice A4 k c4) ∧ w7.cell? ⟨w.heap.size, 2, none⟩ = some (.slice (some ⟨b2, o2, none⟩) ps.length c2) ∧ w7.cell? ⟨b2, o2 + k * 2, none⟩ = some (.int .i64 q.n) ∧ w7.cell? ⟨b2, o2 + k * 2 + 1, none⟩ = some (.slice Ap q.bs.length cp) := ⟨z2, hD7.c2, (hcell _ _ hb7).trans d0, (hcell _ _ hb7).trans d1⟩
   refine hK.out _ _ (.inr hS0) ?_
   clear hK K
   simp only [Act.put, xs0, xs1, xs2]
   refine wpE_tk (v := ?_) 10 [11] (hy := ?_) (hS := hS0) (h := ?_)
   rotate_left
   ·intro w' hSw
    simp only [xg0, xg1, xg2]
    go_simp
    all_goals with_reducible rfl
   simp only [xg0, xg1, xg2, Act.put, xs0, xs1, xs2]
   refine wpE_step' 11 (of_decide_eq_true (by kernel_rfl)) (by kernel_rfl) (by kernel_rfl) (fun K hK => ?_)
   simp only [xg0, xg1, xg2]
   go_simp
   refine hK.out _ _ (.inl rfl) ?_
   clear hK K
   simp only [Act.put, xs0, xs1, xs2]
   refine wpE_done (by kernel_rfl) ?_ _
   rw [← Htk.out] at hQ7
   clear hS0 z2 zf hD7 hb7 hg7 hown7 hat7 hrow hrow' hplc own6 hQ6 hD6 hal6 hcell hQ5 hD5 hbb own5 hr5 hb5 hdr x2 p2 d0 d1 hrp hQ hD1
   generalize w7.setCell ⟨X, 2, none⟩ (.slice A7 (k + 1) c7) = W8 at hQ7 ⊢
   go_wp2_with fail
   go_roundg (ps.length - (k + 1))
   case measure => go_light; omega
   case rel => go_light; exact ⟨k + 1, A7, c7, by omega, rfl, by go_num, hQ7⟩
  ·obtain rfl : k = ps.length := by omega
   rw [List.take_length] at hQ
   have hY1 := hY.below hQ.bel
   have hYl := hY.ex
   have q0 := hQ.p0
   have q1 := hQ.p1
   have q2 := hQ.p2
   have z0 := hY1.z0
   have z1 := hY1.z1
   have z2 := hY1.z2
   have zf0 := hY1.zf 0
   have zf1 := hY1.zf 1
   have zf2 := hY1.zf 2
   have hbel := hD1.bel
   have hlo := hD.bel.size
   have own9 := ((hQ.own.setLow hYl 0 (.int .i64 n)).setLow hYl 1 (.slice A3 bs.length c3)).setLow hYl 2 (.slice A4 ps.length c4)
   have ops9 := ((hQ.ops.setLow hYl 0 (.int .i64 n)).setLow hYl 1 (.slice A3 bs.length c3)).setLow hYl 2 (.slice A4 ps.length c4)
   obtain ⟨r0, r1, r2⟩ := three_cellsD (a := .int .i64 n) (b := .slice A3 bs.length c3) (d := .slice A4 ps.length c4) z0 z1 z2
   have hb9 := ((hbel.setCell (p := ⟨w.heap.size + 1, 0, none⟩) hY.lo (.int .i64 n)).setCell (p := ⟨w.heap.size + 1, 1, none⟩) hY.lo (.slice A3 bs.length c3)).setCell (p := ⟨w.heap.size + 1, 2, none⟩) hY.lo (.slice A4 ps.length c4)
   clear hD1
   go_wp2_with fail
   refine bodyPost_ret (v := .agg #[.int .i64 n, .slice A3 bs.length c3, .slice A4 ps.length c4]) (by simp [results, Tryz.results34, go_sem, r0, r1, r2]) rfl ?_
   exact ⟨_, rfl, ⟨A3, c3, A4, c4, rfl, own_less own9 hlo, ops9.less hlo⟩, hb9⟩

theorem desk_bad {d : Dk} {k : Nat} {p : Pl} (hx : d.past[k]? = some p) (hp : planOk p = false) : deskOk d = false := by
 rw [Bool.eq_false_iff]
 intro h
 have := (deskOk_iff.1 h).1 p (List.mem_of_getElem? hx)
 rw [hp] at this
 cases this
theorem desk_all {d : Dk} (h : ∀ p ∈ d.past, planOk p = true) : deskOk d = (planOk d.now && decide (d.past.length ≤ 8)) := by
 unfold deskOk
 rw [show d.past.all planOk = true from List.all_eq_true.2 h, Bool.true_and]
set_option maxHeartbeats 4000000 in
set_option maxRecDepth 100000 in
theorem sDeskOk_c (n : Int) (bs : List Bd) (ps : List Pl) (A A2 : Option Addr) (b o c b2 o2 c2 B : Nat) (w : World) (h16 : bs.length ≤ 2000000) (hps : ps.length ≤ 2000000) (hpl : ∀ p ∈ ps, p.bs.length ≤ 2000000) (hB : B ≤ w.heap.size) (hR : BdsR w B b o A bs) (hP : PlsR w B b2 o2 A2 ps) :
  Calls Tryz.prog 20 #[.agg #[.int .i64 n, .slice A bs.length c, .slice A2 ps.length c2]] w fun e w' => e = .returned (.bool (deskOk ⟨⟨n, bs⟩, ps⟩)) ∧ Below w.heap.size w w' := by
 have hD := dkb_new (t := 37) (n := n) (c := c) (c2 := c2) (Below.refl w.heap.size w) (hR.more hB) (hP.more hB)
 have Hpl := hide hpl
 clear hR hP hB hpl
 obtain ⟨r, hr⟩ : ∃ r, deskOk ⟨⟨n, bs⟩, ps⟩ = r := ⟨_, rfl⟩
 rw [hr]
 have Hr := hide hr
 clear hr
 go_enter Tryz.func20, Tryz.ntmps20
 go_upto_region 1 with fail
 generalize w.alloc (.cells #[.int .i64 n, .slice A bs.length c, .slice A2 ps.length c2] 37) = W at hD ⊢
 go_wp2_with fail
 go_loopg [3] (ps.length + 1) (fun gh s wr => ∃ (k : Nat), k ≤ ps.length ∧ gh = ps.length + 1 - k ∧ s = .int .i64 k ∧ Hid (∀ p ∈ ps.take k, planOk p = true) ∧ DkB w wr w.heap.size n b o A c bs b2 o2 A2 c2 ps)
 case atStart => exact ⟨0, Nat.zero_le _, rfl, rfl, (fun p hp => by simp at hp), hD⟩
 case round =>
  clear hD
  obtain ⟨k, hk, rfl, rfl, HA, hD⟩ := hrel
  have p2 := hD.c2
  by_cases hlt : k < ps.length
  ·have hx := List.getElem?_eq_getElem hlt
   obtain rfl := hD.rp.addr (by omega)
   have hlt2 := hD.rp.lt (by omega)
   obtain ⟨Ap, bp, op, cp, d0, d1, hrp⟩ := hD.rp.row k _ hx
   have hpl := Hpl.out _ (List.mem_of_getElem? hx)
   have htk : ps.take (k + 1) = ps.take k ++ [ps[k]] := by rw [List.take_add_one, hx]; rfl
   have Htk := hide (And.intro htk hx)
   have hkz : (k : Int) < (ps.length : Int) := by omega
   clear htk hx
   generalize ps[k] = q at d0 d1 hrp hpl Htk
   cases hq : planOk q
   ·have hf : deskOk ⟨⟨n, bs⟩, ps⟩ = false := desk_bad Htk.out.2 hq
    obtain rfl : r = false := Hr.out.symm.trans hf
    have Hq := hide hq
    clear hq hf
    go_wp2_with (go_at_call 36; go_fit (sPlanOk_c q Ap bp op cp _ _ hpl (Nat.le_refl _) hrp); rintro e w2 ⟨rfl, hb⟩; rw [Hq.out])
    go_ret
    exact ⟨rfl, bthen hD.bel hb⟩
   ·have HA2 : Hid (∀ p ∈ ps.take (k + 1), planOk p = true) := fun p hp => by
     rw [Htk.out.1] at hp
     rcases List.mem_append.1 hp with h | h
     ·exact HA.out p h
     ·rw [List.mem_singleton.1 h]; exact hq
    have Hq := hide hq
    clear hq
    go_wp2_with (go_at_call 36; go_fit (sPlanOk_c q Ap bp op cp _ _ hpl (Nat.le_refl _) hrp); rintro e w2 ⟨rfl, hb⟩; rw [Hq.out]; have hD2 := hD.below hb)
    go_roundg (ps.length + 1 - (k + 1))
    case measure => go_light; omega
    case rel => go_light; exact ⟨k + 1, by omega, rfl, by go_num, HA2, hD2⟩
  ·obtain rfl : k = ps.length := by omega
   have hA := HA.out
   rw [List.take_length] at hA
   have hf := desk_all (d := ⟨⟨n, bs⟩, ps⟩) hA
   rw [Hr.out] at hf
   dsimp only at hf
   have p0 := hD.c0
   have p1 := hD.c1
   cases hq : planOk ⟨n, bs⟩
   ·rw [hq] at hf
    obtain rfl : r = false := hf
    have Hq := hide hq
    clear hq hA
    go_wp2_with (go_at_call 36; go_fit (sPlanOk_c ⟨n, bs⟩ A b o c _ _ h16 (Nat.le_refl _) hD.rd); rintro e w2 ⟨rfl, hb⟩; rw [Hq.out]; have hD2 := hD.below hb)
    go_ret
    exact ⟨rfl, hD2.bel⟩
   ·rw [hq, Bool.true_and] at hf
    have Hf := hide hf
    have Hq := hide hq
    clear hq hf hA
    by_cases h8 : ps.length ≤ 8
    ·have h8z : (ps.length : Int) ≤ 8 := by omega
     go_wp2_with (go_at_call 36; go_fit (sPlanOk_c ⟨n, bs⟩ A b o c _ _ h16 (Nat.le_refl _) hD.rd); rintro e w2 ⟨rfl, hb⟩; rw [Hq.out]; have hD2 := hD.below hb; have p2' := hD2.c2)
     go_ret
     exact ⟨by rw [Hf.out, decide_eq_true h8]; rfl, hD2.bel⟩
    ·have h8z : ¬ (ps.length : Int) ≤ 8 := by omega
     go_wp2_with (go_at_call 36; go_fit (sPlanOk_c ⟨n, bs⟩ A b o c _ _ h16 (Nat.le_refl _) hD.rd); rintro e w2 ⟨rfl, hb⟩; rw [Hq.out]; have hD2 := hD.below hb; have p2' := hD2.c2)
     go_ret
     exact ⟨by rw [Hf.out, decide_eq_false h8]; show Ending.returned (.bool (decide ((ps.length : Int) ≤ 8))) = _; rw [decide_eq_false (show ¬ (ps.length : Int) ≤ 8 by omega)], hD2.bel⟩

open Go Go.RowKit Pp

namespace Pp
/-- A desk and a word that are handed back. -/
def DkV2 (w w' : World) (d : Dk) (r : Bool) (v : Value) : Prop := ∃ A c A2 c2, v = .tuple #[.agg #[.int .i64 d.now.n, .slice A d.now.bs.length c, .slice A2 d.past.length c2], .bool r] ∧ OwnB w.heap.size w' (.slice A d.now.bs.length c) d.now.bs ∧ OwnPs w.heap.size w' (.slice A2 d.past.length c2) d.past
end Pp
set_option maxHeartbeats 4000000 in
set_option maxRecDepth 100000 in
theorem sDeskNew_q (p : Pl) (hp : planOk p = true) (A : Option Addr) (b o c B : Nat) (w : World) (hB : B ≤ w.heap.size) (hR : BdsR w B b o A p.bs) :
  Calls Tryz.prog 86 #[.agg #[.int .i64 p.n, .slice A p.bs.length c]] w fun e w' => ∃ v, e = .returned v ∧ DkV2 w w' ⟨p, []⟩ true v ∧ Below w.heap.size w w' := by
 have h16 : p.bs.length ≤ 16 := (planOk_iff.1 hp).2.1
 obtain ⟨n, bs⟩ := p
 dsimp only at *
 have hD := (po_new (t := 34) (n := n) (c := c) (Below.refl w.heap.size w) (hR.more hB)).alloc (.cells #[.int .i64 0, .slice none 0 0, .slice none 0 0] 37)
 have hY : ZD w ((w.alloc (.cells #[.int .i64 n, .slice A bs.length c] 34)).alloc (.cells #[.int .i64 0, .slice none 0 0, .slice none 0 0] 37)) (w.heap.size + 1) := zd_at (by simp) (by simp)
 have Hp := hide hp
 clear hR hp hB
 go_enter Tryz.func86, Tryz.ntmps86
 go_upto_region 1 with fail
 generalize (w.alloc (.cells #[.int .i64 n, .slice A bs.length c] 34)).alloc (.cells #[.int .i64 0, .slice none 0 0, .slice none 0 0] 37) = W at hD hY ⊢
 have p0 := hD.c0
 have p1 := hD.c1
 go_upto_region 3 with (go_at_call 36; go_fit (sPlanOk_c ⟨n, bs⟩ A b o c _ _ (show bs.length ≤ 2000000 by omega) (Nat.le_refl _) hD.rd); rintro e w2 ⟨rfl, hb⟩; rw [Hp.out]; replace hY := hY.below hb; replace hD := hD.below hb)
 clear p0 p1 hb
 have p0 := hD.c0
 have p1 := hD.c1
 have hYl := hY.ex
 have hsz := hD.bel.size
 go_wp2_with (go_at_call 38; go_fit (l15Plan_q ⟨n, bs⟩ A b o c _ _ (show bs.length ≤ 100 by omega) (Nat.le_refl _) hD.rd); rintro e w3 ⟨A3, c3, g3, rfl, hr3, own3, hb3⟩; have hY3 := hY.below hb3; have z0 := hY3.z0; have z1 := hY3.z1; have z2 := hY3.z2; have zf0 := hY3.zf 0; have zf1 := hY3.zf 1; have zf2 := hY3.zf 2)
 have own9 := ((own3.setLow hYl 0 (.int .i64 n)).setLow hYl 1 (.slice A3 bs.length c3)).setLow hYl 2 (.slice none 0 0)
 obtain ⟨r0, r1, r2⟩ := three_cellsD (a := .int .i64 n) (b := .slice A3 bs.length c3) (d := .slice none 0 0) z0 z1 z2
 have hb9 := (((bthen hD.bel hb3).setCell (p := ⟨w.heap.size + 1, 0, none⟩) hY.lo (.int .i64 n)).setCell (p := ⟨w.heap.size + 1, 1, none⟩) hY.lo (.slice A3 bs.length c3)).setCell (p := ⟨w.heap.size + 1, 2, none⟩) hY.lo (.slice none 0 0)
 refine bodyPost_ret (v := .tuple #[.agg #[.int .i64 n, .slice A3 bs.length c3, .slice none 0 0], .bool true]) (by simp [results, Tryz.results86, go_sem, r0, r1, r2]) rfl ?_
 exact ⟨_, rfl, ⟨A3, c3, none, 0, rfl, own_less own9 hsz, OwnPs.nil _ _⟩, hb9⟩

open Go Go.RowKit Pp

namespace Pp
def newD (p : Pl) : Dk := if planOk p then ⟨p, []⟩ else ⟨⟨0, []⟩, []⟩
end Pp
set_option maxHeartbeats 4000000 in
set_option maxRecDepth 100000 in
theorem sDeskNew_no (p : Pl) (hp : planOk p = false) (A : Option Addr) (b o c B : Nat) (w : World) (hn : p.bs.length ≤ 2000000) (hB : B ≤ w.heap.size) (hR : BdsR w B b o A p.bs) :
  Calls Tryz.prog 86 #[.agg #[.int .i64 p.n, .slice A p.bs.length c]] w fun e w' => ∃ v, e = .returned v ∧ DkV2 w w' ⟨⟨0, []⟩, []⟩ false v ∧ Below w.heap.size w w' := by
 obtain ⟨n, bs⟩ := p
 dsimp only at *
 have hD := (po_new (t := 34) (n := n) (c := c) (Below.refl w.heap.size w) (hR.more hB)).alloc (.cells #[.int .i64 0, .slice none 0 0, .slice none 0 0] 37)
 have hY : ZD w ((w.alloc (.cells #[.int .i64 n, .slice A bs.length c] 34)).alloc (.cells #[.int .i64 0, .slice none 0 0, .slice none 0 0] 37)) (w.heap.size + 1) := zd_at (by simp) (by simp)
 have Hp := hide hp
 clear hR hp hB
 go_enter Tryz.func86, Tryz.ntmps86
 go_upto_region 1 with fail
 generalize (w.alloc (.cells #[.int .i64 n, .slice A bs.length c] 34)).alloc (.cells #[.int .i64 0, .slice none 0 0, .slice none 0 0] 37) = W at hD hY ⊢
 have p0 := hD.c0
 have p1 := hD.c1
 go_upto_region 2 with (go_at_call 36; go_fit (sPlanOk_c ⟨n, bs⟩ A b o c _ _ (show bs.length ≤ 2000000 by omega) (Nat.le_refl _) hD.rd); rintro e w2 ⟨rfl, hb⟩; rw [Hp.out]; replace hY := hY.below hb; replace hD := hD.below hb)
 clear p0 p1 hb
 have hbel := hD.bel
 clear hD
 have z0 := hY.z0
 have z1 := hY.z1
 have z2 := hY.z2
 have zf0 := hY.zf 0
 have zf1 := hY.zf 1
 have zf2 := hY.zf 2
 obtain ⟨r0, r1, r2⟩ := three_cellsD (a := .int .i64 0) (b := .slice none 0 0) (d := .slice none 0 0) z0 z1 z2
 have hb9 := ((hbel.setCell (p := ⟨w.heap.size + 1, 0, none⟩) hY.lo (.int .i64 0)).setCell (p := ⟨w.heap.size + 1, 1, none⟩) hY.lo (.slice none 0 0)).setCell (p := ⟨w.heap.size + 1, 2, none⟩) hY.lo (.slice none 0 0)
 go_wp2_with fail
 refine bodyPost_ret (v := .tuple #[.agg #[.int .i64 0, .slice none 0 0, .slice none 0 0], .bool false]) (by simp [results, Tryz.results86, go_sem, r0, r1, r2]) rfl ?_
 exact ⟨_, rfl, ⟨none, 0, none, 0, rfl, World.ownsRow_nil _ _ _ _, OwnPs.nil _ _⟩, hb9⟩
theorem sDeskNew_any (p : Pl) (A : Option Addr) (b o c B : Nat) (w : World) (hn : p.bs.length ≤ 2000000) (hB : B ≤ w.heap.size) (hR : BdsR w B b o A p.bs) :
  Calls Tryz.prog 86 #[.agg #[.int .i64 p.n, .slice A p.bs.length c]] w fun e w' => ∃ v, e = .returned v ∧ DkV2 w w' (newD p) (planOk p) v ∧ Below w.heap.size w w' := by
 unfold newD
 cases hp : planOk p
 ·exact sDeskNew_no p hp A b o c B w hn hB hR
 ·exact sDeskNew_q p hp A b o c B w hB hR
end Go.Proofs.YtmnajkhoacogjaaGreatDoor
