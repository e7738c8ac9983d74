/-
  The law of WayOf: its walk.
-/
import Derived.Test.YtledgblepdjjlaaD54
import Derived.Test.YtledgblepdjjlaaP28
import Derived.Test.YtledgblepdjjlaaL52
import Derived.Test.YtledgblepdjjlaaS52
import Derived.Test.YtledgblepdjjlaaL26
import Derived.Test.YtledgblepdjjlaaL51
import Derived.Test.YtledgblepdjjlaaI1a
import Derived.Test.YtledgblepdjjlaaW0
import Derived.Test.YtledgblepdjjlaaW2
namespace Go.Proofs.Ytledgblepdjjlaa
set_option linter.unusedVariables false
set_option linter.unusedSimpArgs false
open Go.RowKit Pp

set_option maxHeartbeats 4000000 in
set_option maxRecDepth 100000 in
theorem lawWayOf_c (a0 : Option Addr) (len0 cap0 : Nat) (z0 : List Int) (w : World) (w0 : RowU w a0 len0 cap0 z0) :
    Calls Try.prog 5 #[.slice a0 len0 cap0] w fun e w' => e = .returned (.bool true) ∧ Below w.heap.size w w' := by
  obtain ⟨hlc, hAs, hby⟩ := w0.bytes
  clear w0
  by_cases hlen : (1048576 : Int) < (len0 : Int)
  · go_enter Try.func5, Try.ntmps5
    go_wp2_with fail
    go_ret
    exact ⟨rfl, Below.refl _ _⟩
  · go_enter Try.func5, Try.ntmps5
    go_upto_region 4 with (go_at_call 35; go_fit (drawWay_c a0 len0 cap0 z0 _ (by omega) hlc hAs hby); rintro e w1 ⟨n, A, c, bs, A2, c2, cs, A3, c3, ks, b, b2, b3, rfl, hn, hlb, hlcs, HL, hcap, hkl, hrd, hrc, hrk, hW⟩)
    have hD := cc_law (n := n) (c := c) (c2 := c2) (t := 37) hW hrd hrc
    have hK := (hrk.below (show Below w1.heap.size w1 (w1.alloc (.cells #[.int .i64 n, .slice A bs.length c, .slice A2 cs.length c2] 37)) by go_grown)).more (show w1.heap.size ≤ (w1.alloc (.cells #[.int .i64 n, .slice A bs.length c, .slice A2 cs.length c2] 37)).heap.size by simp)
    generalize w1.alloc (.cells #[.int .i64 n, .slice A bs.length c, .slice A2 cs.length c2] 37) = wa at hD hK ⊢
    generalize w1.heap.size = D at hD ⊢
    clear hW hrd hrc hlen hby hAs hrk
    have hlb' : bs.length ≤ 2000000 := by omega
    have hlc' : cs.length ≤ 2000000 := by omega
    have hkl' : ks.length ≤ 2000000 := by omega
    have H3 : Hid (∀ l ∈ cs, l.length ≤ 2000000) := fun l hl => by have := HL.out l hl; omega
    have d0 := hD.r.c0
    have d1 := hD.r.c1
    have d2 := hD.r.c2
    obtain ⟨q, r, hq⟩ : ∃ q r, wayOf ⟨n, bs⟩ cs ks = (q, r) := ⟨_, _, rfl⟩
    have hql : q.bs.length ≤ 12 := by
      cases r
      · rw [wayOf_no hq]; exact Nat.zero_le _
      · obtain ⟨_, h2, _⟩ := way_law hq
        omega
    have hql' : q.bs.length ≤ 2000000 := by omega
    have Hq := hide hq
    go_upto_region 5 with (go_at_call 19; go_fit (wayOf_q n bs cs ks q r Hq.out A A2 A3 b 0 c b2 0 c2 b3 0 c3 _ _ hlb' hlc' H3.out hkl' (Nat.le_refl _) hD.r.rd hD.r.rc hK); rintro e w2 ⟨A4, c4, g4, rfl, hr4, -, hb2⟩)
    have hP := pb_new (n := q.n) (c := c4) (t := 32) (bthen hD.bel hb2) hr4
    have hD2 := (hD.below hb2).alloc (.cells #[.int .i64 q.n, .slice A4 q.bs.length c4] 32)
    have hba := bthen hb2 (show Below w2.heap.size w2 (w2.alloc (.cells #[.int .i64 q.n, .slice A4 q.bs.length c4] 32)) by go_grown)
    have hK2 := (hK.below hba).more hba.size
    clear hD hb2 hr4 hba hK d0 d1 d2
    generalize w2.alloc (.cells #[.int .i64 q.n, .slice A4 q.bs.length c4] 32) = W2 at hP hD2 hK2 ⊢
    generalize w2.heap.size = X at hP ⊢
    have d0 := hD2.r.c0
    have d1 := hD2.r.c1
    have d2 := hD2.r.c2
    go_upto_region 6 with (go_at_call 16; go_fit (sWayOf_q n bs cs ks q r Hq.out A A2 A3 b 0 c b2 0 c2 b3 0 c3 _ _ hlb' hlc' H3.out hkl' (Nat.le_refl _) hD2.r.rd hD2.r.rc hK2); rintro e w3 ⟨A5, c5, g5, rfl, hr5, -, hb3⟩)
    have hY := pb_new (n := q.n) (c := c5) (t := 32) (bthen hD2.bel hb3) hr5
    have hP3 := (hP.below hb3).alloc (.cells #[.int .i64 q.n, .slice A5 q.bs.length c5] 32)
    have hD3 := (hD2.below hb3).alloc (.cells #[.int .i64 q.n, .slice A5 q.bs.length c5] 32)
    clear hD2 hb3 hr5 hK2 d0 d1 d2 hP
    generalize w3.alloc (.cells #[.int .i64 q.n, .slice A5 q.bs.length c5] 32) = W3 at hP3 hD3 hY ⊢
    generalize w3.heap.size = Y at hY ⊢
    have p0 := hP3.c0
    have p1 := hP3.c1
    have y0 := hY.c0
    have y1 := hY.c1
    go_upto_region 8 with (go_at_call 36; go_fit (samePlan_yes q.n q.bs A4 A5 g4 0 c4 g5 0 c5 _ _ hql' (Nat.le_refl _) hP3.rd hY.rd); rintro e w4 ⟨rfl, hb4⟩; have hP4 := hP3.below hb4; have hD4 := hD3.below hb4)
    clear p0 p1 y0 y1 hP3 hD3 hY hb4
    have p0 := hP4.c0
    have p1 := hP4.c1
    cases r
    · have hqn := wayOf_no hq
      clear hq
      obtain ⟨rfl⟩ : (⟨0, []⟩ : Pl) = q := hqn.symm
      dsimp only [List.length_nil] at p0 p1 hP4
      go_wp2_with (first
        | (go_at_call 36; go_fit (samePlan_yes 0 [] A4 none 0 0 c4 0 0 0 _ _ (by simp) (Nat.le_refl _) (BdsR.nil _ _ _) (BdsR.nil _ _ _)); rintro e w5 ⟨rfl, hb5⟩; have hD5 := hD4.below hb5)
        | (go_at_call 31; go_fit (alive_c _); rintro e w6 ⟨rfl, hb6⟩; have hD6 := hD5.below hb6))
      go_ret
      exact ⟨rfl, hD6.bel⟩
    · obtain ⟨l1, l2, l3, l4, l5⟩ := way_law hq
      obtain ⟨ys, can, hys⟩ : ∃ ys can, timesFor q = (ys, can) := ⟨_, _, rfl⟩
      have hyl : ys.length ≤ 2000000 := by
        have := timesFor_len q
        rw [hys] at this
        dsimp only at this
        omega
      have Hys := hide hys
      have L1 := hide l1
      have L3 := hide l3
      have hl2 : (q.bs.length : Int) = (bs.length : Int) + (cs.length : Int) := by omega
      have hqb : q.bs.length ≤ 100000 := by omega
      have hbb : bs.length ≤ 100000 := by omega
      have hK : Hid (can = true → keepsCase ⟨n, bs⟩ cs ys = true) := fun h => l5 ys (by rw [hys, h])
      clear hq l1 l2 l3 l4 l5 hys
      have d0 := hD4.r.c0
      have d1 := hD4.r.c1
      have d2 := hD4.r.c2
      go_upto_region 11 with (go_at_call 37; go_fit (timesFor_q q ys can Hys.out A4 g4 0 c4 _ _ hql' (Nat.le_refl _) hP4.rd); rintro e w5 ⟨A6, c6, rfl, hown6, hb5⟩; have hP5 := hP4.below hb5; have hD5 := hD4.below hb5; obtain ⟨g6, hI5⟩ := own_IntsR hown6)
      clear p0 p1 d0 d1 d2 hP4 hD4 hb5 hown6
      have p0 := hP5.c0
      have p1 := hP5.c1
      have d0 := hD5.r.c0
      have d1 := hD5.r.c1
      have d2 := hD5.r.c2
      cases can
      · go_wp2_with (first
          | (go_at_call 38; go_fit (planOk_c q A4 g4 0 c4 _ _ hql' (Nat.le_refl _) hP5.rd); rintro e w6 ⟨rfl, hb6⟩; rw [L1.out]; have hP6 := hP5.below hb6; have hD6 := hD5.below hb6; have q0 := hP6.c0; have q1 := hP6.c1; have e0 := hD6.r.c0; have e1 := hD6.r.c1; have e2 := hD6.r.c2)
          | (go_at_call 39; go_fit (impliesOk_c q ⟨n, bs⟩ A4 A g4 0 c4 b 0 c _ _ hqb hbb (Nat.le_refl _) hP6.rd hD6.r.rd); rintro e w7 ⟨rfl, hb7⟩; rw [L3.out]; have hD7 := hD6.below hb7))
        go_ret
        exact ⟨rfl, hD7.bel⟩
      · have HK := hide (hK.out rfl)
        go_wp2_with (first
          | (go_at_call 38; go_fit (planOk_c q A4 g4 0 c4 _ _ hql' (Nat.le_refl _) hP5.rd); rintro e w6 ⟨rfl, hb6⟩; rw [L1.out]; have hP6 := hP5.below hb6; have hD6 := hD5.below hb6; replace hI5 := (hI5.below hb6).more hb6.size; have q0 := hP6.c0; have q1 := hP6.c1; have e0 := hD6.r.c0; have e1 := hD6.r.c1; have e2 := hD6.r.c2)
          | (go_at_call 39; go_fit (impliesOk_c q ⟨n, bs⟩ A4 A g4 0 c4 b 0 c _ _ hqb hbb (Nat.le_refl _) hP6.rd hD6.r.rd); rintro e w7 ⟨rfl, hb7⟩; rw [L3.out]; have hD7 := hD6.below hb7; replace hI5 := (hI5.below hb7).more hb7.size; have f0 := hD7.r.c0; have f1 := hD7.r.c1; have f2 := hD7.r.c2)
          | (go_at_call 40; go_fit (keepsCase_c n bs cs ys A A2 A6 b 0 c b2 0 c2 g6 0 c6 _ _ hlb' hlc' H3.out hyl (Nat.le_refl _) hD7.r.rd hD7.r.rc hI5); rintro e w8 ⟨rfl, hb8⟩; rw [HK.out]; have hD8 := hD7.below hb8))
        go_ret
        exact ⟨rfl, hD8.bel⟩
end Go.Proofs.Ytledgblepdjjlaa
