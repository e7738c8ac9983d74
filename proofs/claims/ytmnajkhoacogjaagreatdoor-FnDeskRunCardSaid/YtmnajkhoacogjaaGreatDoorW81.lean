/-
 What the laws of desks share: plans and desks that are the same.
-/
import Derived.Test.YtmnajkhoacogjaaGreatDoorW2
import Derived.Test.YtmnajkhoacogjaaGreatDoorL97
import Derived.Test.YtmnajkhoacogjaaGreatDoorL90
namespace Go.Proofs.YtmnajkhoacogjaaGreatDoor
set_option linter.unusedVariables false
set_option linter.unusedSimpArgs false
open Go Go.RowKit Pp

set_option maxHeartbeats 4000000 in
set_option maxRecDepth 100000 in
theorem samePlan_any (p q : Pl) (A A' : Option Addr) (b o c b' o' c' B : Nat) (w : World) (hn : p.bs.length ≤ 2000000) (hB : B ≤ w.heap.size) (hR : BdsR w B b o A p.bs) (hR' : BdsR w B b' o' A' q.bs) :
  Calls Tryz.prog 57 #[.agg #[.int .i64 p.n, .slice A p.bs.length c], .agg #[.int .i64 q.n, .slice A' q.bs.length c']] w fun e w' => e = .returned (.bool (sameP p q)) ∧ Below w.heap.size w w' := by
 by_cases hpq : p = q
 ·subst hpq
  rw [sameP_iff.2 rfl]
  exact samePlan_yes p.n p.bs A A' b o c b' o' c' B w hn hB hR hR'
 rw [show sameP p q = false from Bool.eq_false_iff.2 (fun h => hpq (sameP_iff.1 h))]
 obtain ⟨n, bs⟩ := p
 obtain ⟨n', bs'⟩ := q
 dsimp only at *
 by_cases hnn : n = n'
 ·subst hnn
  by_cases hll : bs'.length = bs.length
  ·rw [hll]
   have Hpq := hide hpq
   have Hll := hide hll
   clear hpq hll
   go_enter Tryz.func57, Tryz.ntmps57
   go_wp2_with fail
   have hW0 : Below w.heap.size w ((w.alloc (.cells #[.int .i64 n, .slice A bs.length c] 34)).alloc (.cells #[.int .i64 n, .slice A' bs.length c'] 34)) := by go_grown
   have p0 : ((w.alloc (.cells #[.int .i64 n, .slice A bs.length c] 34)).alloc (.cells #[.int .i64 n, .slice A' bs.length c'] 34)).cell? ⟨w.heap.size, 1, none⟩ = some (.slice A bs.length c) := by simp [go_sem]
   have p1 : ((w.alloc (.cells #[.int .i64 n, .slice A bs.length c] 34)).alloc (.cells #[.int .i64 n, .slice A' bs.length c'] 34)).cell? ⟨w.heap.size + 1, 1, none⟩ = some (.slice A' bs.length c') := by simp [go_sem]
   have hRw := hR.below (hW0.mono hB)
   have hRw' := hR'.below (hW0.mono hB)
   generalize (w.alloc (.cells #[.int .i64 n, .slice A bs.length c] 34)).alloc (.cells #[.int .i64 n, .slice A' bs.length c'] 34) = W at *
   go_loopg [5] bs.length (fun gh i wr => ∃ k : Nat, k ≤ bs.length ∧ gh = bs.length - k ∧ i = .int .i64 k ∧ Hid (bs.take k = bs'.take k) ∧ Below w.heap.size w wr ∧ wr.cell? ⟨w.heap.size, 1, none⟩ = some (.slice A bs.length c) ∧ wr.cell? ⟨w.heap.size + 1, 1, none⟩ = some (.slice A' bs.length c') ∧ BdsR wr B b o A bs ∧ BdsR wr B b' o' A' bs')
   case atStart => exact ⟨0, Nat.zero_le _, rfl, rfl, rfl, hW0, p0, p1, hRw, hRw'⟩
   case round =>
    clear hW0 p0 p1 hRw hRw' hR hR'
    obtain ⟨k, hk, rfl, rfl, HT, hW, p0, p1, hR, hR'⟩ := hrel
    by_cases hlt : k < bs.length
    ·have hz : (k : Int) < (bs.length : Int) := by omega
     obtain rfl := hR.addr (by omega)
     obtain rfl := hR'.addr (by rw [Hll.out]; omega)
     have hx := List.getElem?_eq_getElem hlt
     have hy := List.getElem?_eq_getElem (show k < bs'.length by rw [Hll.out]; exact hlt)
     have d0 := hR.c0 k _ hx
     have d1 := hR.c1 k _ hx
     have d2 := hR.c2 k _ hx
     have e0 := hR'.c0 k _ hy
     have e1 := hR'.c1 k _ hy
     have e2 := hR'.c2 k _ hy
     generalize bs[k] = x at d0 d1 d2 hx
     generalize bs'[k]'(by rw [Hll.out]; exact hlt) = y at e0 e1 e2 hy
     by_cases hxy : x = y
     ·subst hxy
      have HT2 : Hid (bs.take (k + 1) = bs'.take (k + 1)) := by
       unfold Hid
       rw [List.take_add_one, List.take_add_one, hx, hy, HT.out]
      clear hx hy HT
      go_upto_region 6 with fail
      go_region
      go_wp2_with fail
      go_roundg (bs.length - (k + 1))
      case measure => go_light; omega
      case rel => go_light; exact ⟨k + 1, by omega, rfl, by go_num, HT2, hW.drew, p0, p1, hR.below (show Below B wr wr.drew by go_grown), hR'.below (show Below B wr wr.drew by go_grown)⟩
     ·have hd : (x.f == y.f) = false ∨ ((x.f == y.f) = true ∧ ((x.t == y.t) = false ∨ ((x.t == y.t) = true ∧ (x.m == y.m) = false))) := by
       by_cases h1 : x.f = y.f
       ·refine .inr ⟨by simpa using h1, ?_⟩
        by_cases h2 : x.t = y.t
        ·refine .inr ⟨by simpa using h2, ?_⟩
         simp only [beq_eq_false_iff_ne, ne_eq]
         exact fun h3 => hxy (Bd.ext' h1 h2 h3)
        ·exact .inl (by simpa using h2)
       ·exact .inl (by simpa using h1)
      clear hxy hx hy
      rcases hd with hd | ⟨ha, hd | ⟨hb', hd⟩⟩
      all_goals
       go_upto_region 6 with fail
       go_quiet (fail)
       have hW2 := bthen hW (bel_drewN wr nq)
       go_wp2_with fail
       go_ret
       exact ⟨rfl, hW2⟩
    ·obtain rfl : k = bs.length := by omega
     have ht := HT.out
     rw [List.take_length, ← Hll.out, List.take_length] at ht
     exact absurd (by rw [ht]) Hpq.out
  ·have hlz : ((bs.length : Int) == (bs'.length : Int)) = false := by simp; omega
   have hlz2 : ¬ (bs.length : Int) = (bs'.length : Int) := by omega
   have Hpq := hide hpq
   clear hpq hll
   go_enter Tryz.func57, Tryz.ntmps57
   go_wp2_with fail
   go_ret
   exact ⟨rfl, by go_grown⟩
 ·have Hpq := hide hpq
  clear hpq
  go_enter Tryz.func57, Tryz.ntmps57
  go_wp2_with fail
  go_ret
  exact ⟨rfl, by go_grown⟩
namespace Pp
noncomputable def sameD (d e : Dk) : Bool := @decide (d = e) (Classical.propDecidable _)
theorem sameD_yes {d e : Dk} : sameD d e = true ↔ d = e := by unfold sameD; exact @decide_eq_true_iff _ (Classical.propDecidable _)
theorem sameD_no {d e : Dk} (h : d ≠ e) : sameD d e = false := by unfold sameD; exact @decide_eq_false _ (Classical.propDecidable _) h
end Pp
set_option maxHeartbeats 4000000 in
set_option maxRecDepth 100000 in
theorem sameDesk_any (n n' : Int) (bs bs' : List Bd) (ps ps' : List Pl) (A A2 A' A2' : Option Addr) (b o c b2 o2 c2 b' o' c' b2' o2' c2' B : Nat) (w : World) (hn : bs.length ≤ 2000000) (hps : ps.length ≤ 2000000) (hpl : ∀ p ∈ ps, p.bs.length ≤ 2000000) (hB : B ≤ w.heap.size) (hR : BdsR w B b o A bs) (hP : PlsR w B b2 o2 A2 ps) (hR' : BdsR w B b' o' A' bs') (hP' : PlsR w B b2' o2' A2' ps') :
  Calls Tryz.prog 19 #[.agg #[.int .i64 n, .slice A bs.length c, .slice A2 ps.length c2], .agg #[.int .i64 n', .slice A' bs'.length c', .slice A2' ps'.length c2']] w fun e w' => e = .returned (.bool (sameD ⟨⟨n, bs⟩, ps⟩ ⟨⟨n', bs'⟩, ps'⟩)) ∧ Below w.heap.size w w' := by
 cases hs : sameP ⟨n, bs⟩ ⟨n', bs'⟩
 ·rw [sameD_no (fun h => by injection h with h1 h2; rw [sameP_iff.2 h1] at hs; cases hs)]
  have Hs := hide hs
  clear hs
  have hD := (dkb_new (t := 37) (n := n) (c := c) (c2 := c2) (Below.refl w.heap.size w) (hR.more hB) (hP.more hB)).alloc (.cells #[.int .i64 n', .slice A' bs'.length c', .slice A2' ps'.length c2'] 37)
  have hal : Below w.heap.size w (w.alloc (.cells #[.int .i64 n, .slice A bs.length c, .slice A2 ps.length c2] 37)) := by go_grown
  have hE := dkb_new (t := 37) (n := n') (c := c') (c2 := c2') hal (((hR'.more hB).below hal).more hal.size) (((hP'.more hB).below hal).more hal.size)
  rw [show (w.alloc (.cells #[.int .i64 n, .slice A bs.length c, .slice A2 ps.length c2] 37)).heap.size = w.heap.size + 1 by simp] at hE
  have Hpl := hide hpl
  clear hR hP hR' hP' hB hpl hal
  go_enter Tryz.func19, Tryz.ntmps19
  go_upto_region 1 with fail
  generalize (w.alloc (.cells #[.int .i64 n, .slice A bs.length c, .slice A2 ps.length c2] 37)).alloc (.cells #[.int .i64 n', .slice A' bs'.length c', .slice A2' ps'.length c2'] 37) = W at hD hE ⊢
  have p0 := hD.c0
  have p1 := hD.c1
  have p2 := hD.c2
  have q0 := hE.c0
  have q1 := hE.c1
  have q2 := hE.c2
  have hsm := samePlan_any ⟨n, bs⟩ ⟨n', bs'⟩ A A' b o c b' o' c' W.heap.size W (show bs.length ≤ 2000000 from hn) (Nat.le_refl _) hD.rd hE.rd
  dsimp only at hsm
  go_wp2_with (go_at_call 57; refine hsm.mono ?_; rintro e w2 ⟨rfl, hb2⟩; rw [Hs.out]; replace hD := hD.below hb2)
  go_ret
  exact ⟨rfl, hD.bel⟩
 ·have hpp := sameP_iff.1 hs
  injection hpp with hn' hb'
  by_cases hll : ps'.length = ps.length
  ·obtain ⟨E, hEE⟩ : ∃ E, sameD ⟨⟨n, bs⟩, ps⟩ ⟨⟨n', bs'⟩, ps'⟩ = E := ⟨_, rfl⟩
   rw [hEE]
   have hEt : ps = ps' → E = true := fun h => by rw [← hEE, sameD_yes, hn', hb', h]
   have hEf : ps ≠ ps' → E = false := fun h => by rw [← hEE]; exact sameD_no (fun hx => by injection hx with h1 h2; exact h h2)
   have HEt := hide hEt
   have HEf := hide hEf
   have Hs := hide hs
   have Hll := hide hll
   clear hs hn' hb' hEE hEt hEf hll
   have hD := (dkb_new (t := 37) (n := n) (c := c) (c2 := c2) (Below.refl w.heap.size w) (hR.more hB) (hP.more hB)).alloc (.cells #[.int .i64 n', .slice A' bs'.length c', .slice A2' ps'.length c2'] 37)
   have hal : Below w.heap.size w (w.alloc (.cells #[.int .i64 n, .slice A bs.length c, .slice A2 ps.length c2] 37)) := by go_grown
   have hE := dkb_new (t := 37) (n := n') (c := c') (c2 := c2') hal (((hR'.more hB).below hal).more hal.size) (((hP'.more hB).below hal).more hal.size)
   rw [show (w.alloc (.cells #[.int .i64 n, .slice A bs.length c, .slice A2 ps.length c2] 37)).heap.size = w.heap.size + 1 by simp] at hE
   have Hpl := hide hpl
   clear hR hP hR' hP' hB hpl hal
   go_enter Tryz.func19, Tryz.ntmps19
   go_upto_region 1 with fail
   generalize (w.alloc (.cells #[.int .i64 n, .slice A bs.length c, .slice A2 ps.length c2] 37)).alloc (.cells #[.int .i64 n', .slice A' bs'.length c', .slice A2' ps'.length c2'] 37) = W at hD hE ⊢
   have p0 := hD.c0
   have p1 := hD.c1
   have p2 := hD.c2
   have q0 := hE.c0
   have q1 := hE.c1
   have q2 := hE.c2
   have hsm := samePlan_any ⟨n, bs⟩ ⟨n', bs'⟩ A A' b o c b' o' c' W.heap.size W (show bs.length ≤ 2000000 from hn) (Nat.le_refl _) hD.rd hE.rd
   dsimp only at hsm
   rw [Hll.out] at q2
   go_upto_region 3 with (go_at_call 57; refine hsm.mono ?_; rintro e w2 ⟨rfl, hb2⟩; rw [Hs.out]; replace hD := hD.below hb2; replace hE := hE.below hb2; have p2 := hD.c2; have q2 := hE.c2; rw [Hll.out] at q2)
   clear p0 p1 p2 q0 q1 q2 hsm
   clear hb2
   go_wp2_with fail
   go_loopg [5] ps.length (fun gh i wr => ∃ k : Nat, k ≤ ps.length ∧ gh = ps.length - k ∧ i = .int .i64 k ∧ Hid (ps.take k = ps'.take k) ∧ DkB w wr w.heap.size n b o A c bs b2 o2 A2 c2 ps ∧ DkB w wr (w.heap.size + 1) n' b' o' A' c' bs' b2' o2' A2' c2' ps')
   case atStart => exact ⟨0, Nat.zero_le _, rfl, rfl, rfl, hD, by simpa using hE⟩
   case round =>
    clear hD hE
    obtain ⟨k, hk, rfl, rfl, HT, hD, hE⟩ := hrel
    have p2 := hD.c2
    have q2 := hE.c2
    rw [Hll.out] at q2
    by_cases hlt : k < ps.length
    ·have hz : (k : Int) < (ps.length : Int) := by omega
     have hx := List.getElem?_eq_getElem hlt
     have hy := List.getElem?_eq_getElem (show k < ps'.length by rw [Hll.out]; exact hlt)
     obtain ⟨Ax, bx, ox, cx, d0, d1, hrx⟩ := hD.rp.row _ _ hx
     obtain ⟨Ay, byy, oy, cy, e0, e1, hry⟩ := hE.rp.row _ _ hy
     obtain rfl := hD.rp.addr (by omega)
     obtain rfl := hE.rp.addr (by rw [Hll.out]; omega)
     have hxl := Hpl.out _ (List.getElem_mem hlt)
     generalize ps[k] = x at d0 d1 hx hrx hxl
     generalize ps'[k]'(by rw [Hll.out]; exact hlt) = y at e0 e1 hy hry
     obtain ⟨r, hr⟩ : ∃ r, sameP x y = r := ⟨_, rfl⟩
     have Hr := hide hr
     have Hx := hide hx
     have Hy := hide hy
     clear hx hy hr
     go_upto_region 6 with fail
     refine wp_regionE (fun w' => w'.cell? ⟨w.heap.size, 2, none⟩ = some (.slice (some ⟨b2, o2, none⟩) ps.length c2) ∧ w'.cell? ⟨w.heap.size + 1, 2, none⟩ = some (.slice (some ⟨b2', o2', none⟩) ps.length c2') ∧ w'.cell? ⟨b2, o2 + k * 2, none⟩ = some (.int .i64 x.n) ∧ w'.cell? ⟨b2, o2 + k * 2 + 1, none⟩ = some (.slice Ax x.bs.length cx) ∧ w'.cell? ⟨b2', o2' + k * 2, none⟩ = some (.int .i64 y.n) ∧ w'.cell? ⟨b2', o2' + k * 2 + 1, none⟩ = some (.slice Ay y.bs.length cy)) 11 (by kernel_rfl) ?_
     change wpE _ _ _ _ _ _ 12 #[false, false, false, false, false, false, false, false, false, false, false, false] _ _
     have hdr : Below wr.heap.size wr wr.drew := by go_grown
     replace hD := hD.below hdr
     replace hE := hE.below hdr
     have hS0 : wr.drew.cell? ⟨w.heap.size, 2, none⟩ = some (.slice (some ⟨b2, o2, none⟩) ps.length c2) ∧ wr.drew.cell? ⟨w.heap.size + 1, 2, none⟩ = some (.slice (some ⟨b2', o2', none⟩) ps.length c2') ∧ wr.drew.cell? ⟨b2, o2 + k * 2, none⟩ = some (.int .i64 x.n) ∧ wr.drew.cell? ⟨b2, o2 + k * 2 + 1, none⟩ = some (.slice Ax x.bs.length cx) ∧ wr.drew.cell? ⟨b2', o2' + k * 2, none⟩ = some (.int .i64 y.n) ∧ wr.drew.cell? ⟨b2', o2' + k * 2 + 1, none⟩ = some (.slice Ay y.bs.length cy) := ⟨p2, q2, d0, d1, e0, e1⟩
     replace hrx := (hrx.below hdr).more hdr.size
     replace hry := (hry.below hdr).more hdr.size
     clear p2 q2 d0 d1 e0 e1
     generalize wr.drew = wd at hD hE hS0 hrx hry ⊢
     refine wpE_tk (v := ?_) 0 [1, 3, 4, 10, 11] (hy := ?_) (hS := hS0) (h := ?_)
     rotate_left
     ·intro w' hSw
      simp only [xg0, xg1, xg2]
      go_simp
      all_goals with_reducible rfl
     simp only [xg0, xg1, xg2, Act.put, xs0, xs1, xs2]
     refine wpE_tk (v := ?_) 1 [3, 4, 10, 11] (hy := ?_) (hS := hS0) (h := ?_)
     rotate_left
     ·intro w' hSw
      simp only [xg0, xg1, xg2]
      go_simp
      all_goals with_reducible rfl
     simp only [xg0, xg1, xg2, Act.put, xs0, xs1, xs2]
     refine wpE_tk (v := ?_) 2 [3, 4, 10, 11] (hy := ?_) (hS := hS0) (h := ?_)
     rotate_left
     ·intro w' hSw
      simp only [xg0, xg1, xg2]
      go_simp
      all_goals with_reducible rfl
     simp only [xg0, xg1, xg2, Act.put, xs0, xs1, xs2]
     refine wpE_tk (v := ?_) 3 [4, 10, 11] (hy := ?_) (hS := hS0) (h := ?_)
     rotate_left
     ·intro w' hSw
      simp only [xg0, xg1, xg2]
      go_simp
      all_goals with_reducible rfl
     simp only [xg0, xg1, xg2, Act.put, xs0, xs1, xs2]
     refine wpE_tk (v := ?_) 4 [10, 11] (hy := ?_) (hS := hS0) (h := ?_)
     rotate_left
     ·intro w' hSw
      simp only [xg0, xg1, xg2]
      go_simp
      all_goals with_reducible rfl
     simp only [xg0, xg1, xg2, Act.put, xs0, xs1, xs2]
     refine wpE_tk (v := ?_) 5 [6, 8, 9, 10, 11] (hy := ?_) (hS := hS0) (h := ?_)
     rotate_left
     ·intro w' hSw
      simp only [xg0, xg1, xg2]
      go_simp
      all_goals with_reducible rfl
     simp only [xg0, xg1, xg2, Act.put, xs0, xs1, xs2]
     refine wpE_tk (v := ?_) 6 [8, 9, 10, 11] (hy := ?_) (hS := hS0) (h := ?_)
     rotate_left
     ·intro w' hSw
      simp only [xg0, xg1, xg2]
      go_simp
      all_goals with_reducible rfl
     simp only [xg0, xg1, xg2, Act.put, xs0, xs1, xs2]
     refine wpE_tk (v := ?_) 7 [8, 9, 10, 11] (hy := ?_) (hS := hS0) (h := ?_)
     rotate_left
     ·intro w' hSw
      simp only [xg0, xg1, xg2]
      go_simp
      all_goals with_reducible rfl
     simp only [xg0, xg1, xg2, Act.put, xs0, xs1, xs2]
     refine wpE_tk (v := ?_) 8 [9, 10, 11] (hy := ?_) (hS := hS0) (h := ?_)
     rotate_left
     ·intro w' hSw
      simp only [xg0, xg1, xg2]
      go_simp
      all_goals with_reducible rfl
     simp only [xg0, xg1, xg2, Act.put, xs0, xs1, xs2]
     refine wpE_tk (v := ?_) 9 [10, 11] (hy := ?_) (hS := hS0) (h := ?_)
     rotate_left
     ·intro w' hSw
      simp only [xg0, xg1, xg2]
      go_simp
      all_goals with_reducible rfl
     simp only [xg0, xg1, xg2, Act.put, xs0, xs1, xs2]
     refine wpE_step' 10 (of_decide_eq_true (by kernel_rfl)) (by kernel_rfl) (by kernel_rfl) (fun K hK => ?_)
     simp only [xg0, xg1, xg2]
     go_simp
     go_at_call 57
     refine (samePlan_any x y Ax Ay bx ox cx byy oy cy _ _ hxl (Nat.le_refl _) hrx hry).mono ?_
     rintro e w6 ⟨rfl, hb6⟩
     rw [Hr.out]
     replace hD := hD.below hb6
     replace hE := hE.below hb6
     obtain ⟨s0, s1, s2, s3, s4, s5⟩ := hS0
     refine hK.out _ _ (.inr ⟨((bcell hb6).1 _ _ (cell_lt s0)).trans s0, ((bcell hb6).1 _ _ (cell_lt s1)).trans s1, ((bcell hb6).1 _ _ (cell_lt s2)).trans s2, ((bcell hb6).1 _ _ (cell_lt s3)).trans s3, ((bcell hb6).1 _ _ (cell_lt s4)).trans s4, ((bcell hb6).1 _ _ (cell_lt s5)).trans s5⟩) ?_
     clear hK K s0 s1 s2 s3 s4 s5
     simp only [Act.put, xs0, xs1, xs2]
     refine wpE_step' 11 (of_decide_eq_true (by kernel_rfl)) (by kernel_rfl) (by kernel_rfl) (fun K hK => ?_)
     simp only [xg0, xg1, xg2]
     go_simp
     refine hK.out _ _ (.inl rfl) ?_
     clear hK K
     simp only [Act.put, xs0, xs1, xs2]
     refine wpE_done (by kernel_rfl) ?_ _
     clear hrx hry
     cases r
     ·have hEf := HEf.out (fun h => by
       have h1 := Hx.out
       rw [h, Hy.out] at h1
       injection h1 with h1
       have := sameP_iff.2 h1.symm
       rw [Hr.out] at this
       cases this)
      go_wp2_with fail
      go_ret
      subst hEf
      exact ⟨rfl, hD.bel⟩
     ·have hxy := sameP_iff.1 Hr.out
      subst hxy
      have HT2 : Hid (ps.take (k + 1) = ps'.take (k + 1)) := by
       unfold Hid
       rw [List.take_add_one, List.take_add_one, Hx.out, Hy.out, HT.out]
      go_wp2_with fail
      go_roundg (ps.length - (k + 1))
      case measure => go_light; omega
      case rel => go_light; exact ⟨k + 1, by omega, rfl, by go_num, HT2, hD, hE⟩
    ·obtain rfl : k = ps.length := by omega
     have ht := HT.out
     rw [List.take_length, ← Hll.out, List.take_length] at ht
     have hEt := HEt.out ht
     go_wp2_with fail
     go_ret
     subst hEt
     exact ⟨rfl, hD.bel⟩
  ·rw [sameD_no (fun h => by injection h with h1 h2; exact hll (by rw [h2]))]
   have Hs := hide hs
   have hlz : ((ps.length : Int) == (ps'.length : Int)) = false := by simp; omega
   have hlz2 : ¬ (ps.length : Int) = (ps'.length : Int) := by omega
   clear hs hn' hb' hll
   have hD := (dkb_new (t := 37) (n := n) (c := c) (c2 := c2) (Below.refl w.heap.size w) (hR.more hB) (hP.more hB)).alloc (.cells #[.int .i64 n', .slice A' bs'.length c', .slice A2' ps'.length c2'] 37)
   have hal : Below w.heap.size w (w.alloc (.cells #[.int .i64 n, .slice A bs.length c, .slice A2 ps.length c2] 37)) := by go_grown
   have hE := dkb_new (t := 37) (n := n') (c := c') (c2 := c2') hal (((hR'.more hB).below hal).more hal.size) (((hP'.more hB).below hal).more hal.size)
   rw [show (w.alloc (.cells #[.int .i64 n, .slice A bs.length c, .slice A2 ps.length c2] 37)).heap.size = w.heap.size + 1 by simp] at hE
   have Hpl := hide hpl
   clear hR hP hR' hP' hB hpl hal
   go_enter Tryz.func19, Tryz.ntmps19
   go_upto_region 1 with fail
   generalize (w.alloc (.cells #[.int .i64 n, .slice A bs.length c, .slice A2 ps.length c2] 37)).alloc (.cells #[.int .i64 n', .slice A' bs'.length c', .slice A2' ps'.length c2'] 37) = W at hD hE ⊢
   have p0 := hD.c0
   have p1 := hD.c1
   have p2 := hD.c2
   have q0 := hE.c0
   have q1 := hE.c1
   have q2 := hE.c2
   have hsm := samePlan_any ⟨n, bs⟩ ⟨n', bs'⟩ A A' b o c b' o' c' W.heap.size W (show bs.length ≤ 2000000 from hn) (Nat.le_refl _) hD.rd hE.rd
   dsimp only at hsm
   go_wp2_with (go_at_call 57; refine hsm.mono ?_; rintro e w2 ⟨rfl, hb2⟩; rw [Hs.out]; replace hD := hD.below hb2; replace hE := hE.below hb2; have p2 := hD.c2; have q2 := hE.c2)
   go_ret
   exact ⟨rfl, hD.bel⟩
end Go.Proofs.YtmnajkhoacogjaaGreatDoor
