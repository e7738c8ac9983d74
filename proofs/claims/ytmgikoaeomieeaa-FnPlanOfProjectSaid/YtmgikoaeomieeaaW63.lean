/-
  The law of PlanOfProject: its walk.
-/
import Derived.Test.YtmgikoaeomieeaaD62
import Derived.Test.YtmgikoaeomieeaaL1c
import Derived.Test.YtmgikoaeomieeaaL2d
import Derived.Test.YtmgikoaeomieeaaL73
import Derived.Test.YtmgikoaeomieeaaL74
import Derived.Test.YtmgikoaeomieeaaS79
import Derived.Test.YtmgikoaeomieeaaW2
namespace Go.Proofs.Ytmgikoaeomieeaa
set_option linter.unusedVariables false
set_option linter.unusedSimpArgs false
open Go.RowKit Pp

def lateL (L F : List Int) : List Int := (List.range L.length).map (lateAt L F)
theorem lateL_len (L F : List Int) : (lateL L F).length = L.length := by simp [lateL]
theorem lateL_get {L F : List Int} {k : Nat} (h : k < L.length) : (lateL L F).getD k 0 = lateAt L F k := by
  rw [List.getD_eq_getElem?_getD, List.getElem?_eq_getElem (by rw [lateL_len]; exact h)]
  simp [lateL]
theorem pr_facts {L F : List Int} (hp : projOk L F = true) (h4 : L.length ≤ 4) :
    ∃ bs N q r, prB L F L.length = bs ∧ lenOf L F = N ∧ toldP ⟨(L.length : Int) + 2, bs ++ [⟨0, (L.length : Int) + 1, N⟩, ⟨(L.length : Int) + 1, 0, -N⟩]⟩ = q ∧ planOk ⟨(L.length : Int) + 2, bs ++ [⟨0, (L.length : Int) + 1, N⟩, ⟨(L.length : Int) + 1, 0, -N⟩]⟩ = r ∧
      planV L F = (⟨(L.length : Int) + 2, bs⟩, true) ∧ bs.length ≤ 14 ∧ q.bs.length ≤ 16 ∧ (0 ≤ N ∧ N ≤ 80) ∧ (if projOk L F then lenOf L F else -1) = N ∧ earlyOf L F = Pp.early L F ∧ Pp.fits ⟨(L.length : Int) + 2, bs⟩ = true ∧
      (∀ k, k < L.length → Pp.leastOf ⟨(L.length : Int) + 2, bs⟩ 0 ((k : Int) + 1) = ((Pp.early L F).getD k 0, true)) ∧
      (0 < L.length → Pp.leastOf ⟨(L.length : Int) + 2, bs⟩ 0 ((L.length : Int) + 1) = (N, true)) ∧
      (r = true → ∀ k, k < L.length → Pp.mostOf q 0 ((k : Int) + 1) = ((lateL L F).getD k 0, true)) := by
  refine ⟨_, _, _, _, rfl, rfl, rfl, rfl, ?_, ?_, ?_, ⟨len_low L F, ?_⟩, if_pos hp, ?_, pr_fits hp h4, fun k hk => pr_early hp h4 hk, fun h => pr_len hp h4 h, fun hr k hk => ?_⟩
  · unfold planV; rw [hp, decide_eq_true h4]; rfl
  · exact prB_len4 L F h4
  · have := prB_len4 L F h4
    cases hr : planOk ⟨(L.length : Int) + 2, prB L F L.length ++ [⟨0, (L.length : Int) + 1, lenOf L F⟩, ⟨(L.length : Int) + 1, 0, -lenOf L F⟩]⟩
    · rw [toldP_no hr]; simp
    · rw [toldP_yes hr]; simp; omega
  · have := len_bound hp; omega
  · unfold earlyOf; rw [if_pos hp]
  · rw [toldP_yes hr, lateL_get hk]
    exact pr_late hr hk
theorem planV_none {L F : List Int} (hf : (projOk L F && decide (L.length ≤ 4)) = false) : planV L F = (⟨0, []⟩, false) := by
  unfold planV; rw [hf]; rfl
set_option maxHeartbeats 4000000 in
set_option maxRecDepth 100000 in
theorem lawPlanOf_c (a0 : Option Addr) (len0 cap0 : Nat) (z0 : List Int) (w : World) (w0 : RowU w a0 len0 cap0 z0) :
    Calls Try.prog 3 #[.slice a0 len0 cap0] w fun e w' => e = .returned (.bool true) ∧ Below w.heap.size w w' := by
  obtain ⟨hlc, hAs, hby⟩ := w0.bytes
  clear w0
  by_cases hlen : (1048576 : Int) < (len0 : Int)
  · go_enter Try.func3, Try.ntmps3
    go_wp2_with fail
    go_ret
    exact ⟨rfl, Below.refl _ _⟩
  · go_enter Try.func3, Try.ntmps3
    go_upto_region 4 with (go_at_call 10; go_fit (drawPlanOf_c a0 len0 cap0 z0 _ (by omega) hlc hAs hby); rintro e w1 ⟨A1, c1, L, A2, c2, F, rfl, hL7, hF7, ⟨b1, i1⟩, ⟨b2, i2⟩, hW⟩)
    have hD := pj_law (cl := c1) (cf := c2) (t := 25) hW i1 i2
    generalize w1.alloc (.cells #[.slice A1 L.length c1, .slice A2 F.length c2] 25) = wa at hD ⊢
    generalize w1.heap.size = D at hD ⊢
    clear hW i1 i2 hlen hby hAs
    have hll : L.length ≤ 2000000 := by omega
    have hlf : F.length ≤ 2000000 := by omega
    have p0 := hD.c0
    have p1 := hD.c1
    cases hf : (projOk L F && decide (L.length ≤ 4))
    · have Hv := hide (planV_none hf)
      clear hf
      go_upto_region 8 with (first
        | (go_at_call 11; go_fit (planOfProject_q L F ⟨0, []⟩ false Hv.out A1 A2 b1 0 c1 b2 0 c2 _ _ hll hlf (Nat.le_refl _) hD.rl hD.rf); rintro e w2 ⟨A3, c3, g3, rfl, hx3, -, hb2⟩; have hD2 := hD.below hb2; have hX2 := pb_new (n := 0) (c := c3) (bs := []) (t := 29) hD2.bel hx3; have hE2 := hD2.alloc (.cells #[.int .i64 0, .slice A3 0 c3] 29); have q0 := hE2.c0; have q1 := hE2.c1)
        | (go_at_call 12; go_fit (sPlanOfProject_q L F ⟨0, []⟩ false Hv.out A1 A2 b1 0 c1 b2 0 c2 _ _ hll hlf (Nat.le_refl _) hE2.rl hE2.rf); rintro e w3 ⟨A4, c4, g4, rfl, hx4, -, hb3⟩; have hX3 := hX2.below hb3; have hX3' := hX3.alloc (.cells #[.int .i64 0, .slice A4 0 c4] 29); have r0 := hX3'.c0; have r1 := hX3'.c1)
        | (go_at_call 13; go_fit (samePlan_yes 0 [] A3 A4 0 0 c3 0 0 c4 _ _ (by simp) (Nat.le_refl _) (BdsR.nil _ _ _) (BdsR.nil _ _ _)); rintro e w4 ⟨rfl, hb4⟩; have hX4 := hX3'.below hb4; have s0 := hX4.c0; have s1 := hX4.c1))
      go_wp2_with (first
        | (go_at_call 13; go_fit (samePlan_yes 0 [] A3 none 0 0 c3 0 0 0 _ _ (by simp) (Nat.le_refl _) (BdsR.nil _ _ _) (BdsR.nil _ _ _)); rintro e w5 ⟨rfl, hb5⟩; have hX5 := hX4.below hb5)
        | (go_at_call 14; go_fit (alive_c _); rintro e w6 ⟨rfl, hb6⟩; have hX6 := hX5.below hb6))
      go_ret
      exact ⟨rfl, hX6.bel⟩
    · simp only [Bool.and_eq_true, decide_eq_true_eq] at hf
      obtain ⟨bs, N, q, r, hbs, hN, hq, hr, hv, hbl, hql, hNb, hlen, hea, hfit, hle, hln, hmo⟩ := pr_facts hf.1 hf.2
      have Hv := hide hv
      have Hq := hide hq
      have Hr := hide hr
      have Hlen := hide hlen
      have Hea := hide hea
      have Hfit := hide hfit
      have Hle := hide hle
      have Hln := hide hln
      have Hmo := hide hmo
      have hh4 := hf.2
      have Hp := hide hf.1
      clear hbs hN hq hr hv hlen hea hfit hle hln hmo hf
      go_upto_region 8 with (first
        | (go_at_call 11; go_fit (planOfProject_q L F ⟨(L.length : Int) + 2, bs⟩ true Hv.out A1 A2 b1 0 c1 b2 0 c2 _ _ hll hlf (Nat.le_refl _) hD.rl hD.rf); rintro e w2 ⟨A3, c3, g3, rfl, hx3, -, hb2⟩; have hD2 := hD.below hb2; have hX2 := pb_new (n := (L.length : Int) + 2) (c := c3) (t := 29) hD2.bel hx3; have hE2 := hD2.alloc (.cells #[.int .i64 ((L.length : Int) + 2), .slice A3 bs.length c3] 29); have q0 := hE2.c0; have q1 := hE2.c1)
        | (go_at_call 12; go_fit (sPlanOfProject_q L F ⟨(L.length : Int) + 2, bs⟩ true Hv.out A1 A2 b1 0 c1 b2 0 c2 _ _ hll hlf (Nat.le_refl _) hE2.rl hE2.rf); rintro e w3 ⟨A4, c4, g4, rfl, hx4, -, hb3⟩; have hX3 := hX2.below hb3; have hE3 := hE2.below hb3; have hX3' := hX3.alloc (.cells #[.int .i64 ((L.length : Int) + 2), .slice A4 bs.length c4] 29); have hE3' := hE3.alloc (.cells #[.int .i64 ((L.length : Int) + 2), .slice A4 bs.length c4] 29); have hx4' := (hx4.below (show Below w3.heap.size w3 (w3.alloc (.cells #[.int .i64 ((L.length : Int) + 2), .slice A4 bs.length c4] 29)) by go_grown)).more (show w3.heap.size ≤ (w3.alloc (.cells #[.int .i64 ((L.length : Int) + 2), .slice A4 bs.length c4] 29)).heap.size by simp); have r0 := hX3'.c0; have r1 := hX3'.c1)
        | (go_at_call 13; go_fit (samePlan_yes ((L.length : Int) + 2) bs A3 A4 g3 0 c3 g4 0 c4 _ _ (by omega) (Nat.le_refl _) hX3'.rd hx4'); rintro e w4 ⟨rfl, hb4⟩; have hX4 := hX3'.below hb4; have hD4 := hE3'.below hb4))
      clear p0 p1 q0 q1 r0 r1 hb2 hb3 hb4 hD hD2 hE2 hE3 hE3' hX2 hX3 hX3' hx3 hx4 hx4'
      have p0 := hD4.c0
      have p1 := hD4.c1
      have x0 := hX4.c0
      have x1 := hX4.c1
      obtain ⟨ea, hEa⟩ : ∃ ea, Pp.early L F = ea := ⟨_, rfl⟩
      have hel : ea.length = L.length := by rw [← hEa]; exact earlyTo_length L F L.length
      have Hel := hide hel
      have hw1 : IntKind.i64.wrap ((L.length : Int) + 1) = (L.length : Int) + 1 := IntWalk.i64_in _ (by omega)
      rw [hEa] at Hea
      rw [hEa] at Hle
      clear hEa hel
      have hNw : -1000000000 ≤ N ∧ N ≤ 1000000000 := by omega
      have HNw := hide hNw
      clear hNw
      go_upto_region 14 with (first
        | (go_at_call 15; have hcall := earlyOf_q L F A1 A2 b1 0 c1 b2 0 c2 _ w4 hll hlf (Nat.le_refl _) hD4.rl hD4.rf; rw [Hea.out, Hel.out] at hcall; refine hcall.mono ?_; clear hcall; rintro e w5 ⟨A6, c6, b6, rfl, i6, hb5⟩; have hD5 := hD4.below hb5; have hX5 := hX4.below hb5; have q0 := hD5.c0; have q1 := hD5.c1)
        | (go_at_call 16; go_fit (lateOf_q L F Hp.out A1 A2 b1 0 c1 b2 0 c2 _ _ (Nat.le_refl _) hD5.rl hD5.rf); rintro e w6 ⟨g6, rfl, hg6, hrow6, hb6⟩; have i7 := row_ints (xs := lateL L F) (hrow6.congr (fun j hj => by rw [lateL_get hj])) (lateL_len L F); have hD6 := hD5.below hb6; have hX6 := hX5.below hb6; replace i6 := (i6.below hb6).more hb6.size; have r0 := hD6.c0; have r1 := hD6.c1)
        | (go_at_call 17; go_fit (lengthOf_c L F A1 A2 b1 0 c1 b2 0 c2 _ _ hll hlf (Nat.le_refl _) hD6.rl hD6.rf); rintro e w7 ⟨rfl, hb7⟩; rw [Hlen.out]; have hD7 := hD6.below hb7; have hX7 := hX6.below hb7; replace i6 := (i6.below hb7).more hb7.size; replace i7 := (i7.below hb7).more hb7.size))
      clear p0 p1 q0 q1 r0 r1 x0 x1 hb5 hb6 hb7 hD4 hD5 hD6 hX4 hX5 hX6 hrow6 hw1
      have p0 := hD7.c0
      have p1 := hD7.c1
      have x0 := hX7.c0
      have x1 := hX7.c1
      have hxx := hX7.ex
      have hbl4 : bs.length ≤ 10000 := by omega
      have hbl6 : bs.length ≤ 2000000 := by omega
      have hql6 : q.bs.length ≤ 2000000 := by omega
      go_upto_region 15 with (go_at_call 18; go_fit (setTo_q ⟨(L.length : Int) + 2, bs⟩ 0 ((L.length : Int) + 1) N q r Hq.out Hr.out HNw.out A3 g3 0 c3 _ _ hbl4 (Nat.le_refl _) hX7.rd); rintro e w8 ⟨A8, c8, g8, rfl, hx8, -, hb8⟩)
      have hX8 := hX7.below hb8
      have hD8 := hD7.below hb8
      have i6' := (i6.below hb8).more hb8.size
      have i7' := (i7.below hb8).more hb8.size
      have hS9 := pb_new (n := q.n) (c := c8) (t := 29) hX8.bel hx8
      have hb9 : Below w8.heap.size w8 (w8.alloc (.cells #[.int .i64 q.n, .slice A8 q.bs.length c8] 29)) := by go_grown
      have hX9 := hX8.below hb9
      have hD9 := hD8.below hb9
      replace i6' := (i6'.below hb9).more hb9.size
      replace i7' := (i7'.below hb9).more hb9.size
      clear i6 i7 p0 p1 x0 x1 hX7 hD7 hX8 hD8 hx8 hb8 hb9
      generalize w8.alloc (.cells #[.int .i64 q.n, .slice A8 q.bs.length c8] 29) = w9 at hX9 hD9 hS9 i6' i7' ⊢
      generalize w8.heap.size = Y at hS9 ⊢
      have p0 := hD9.c0
      have p1 := hD9.c1
      have x0 := hX9.c0
      have x1 := hX9.c1
      go_upto_region 17 with (go_at_call 19; go_fit (fitsOk_c ⟨(L.length : Int) + 2, bs⟩ A3 g3 0 c3 _ _ hbl6 (Nat.le_refl _) hX9.rd); rintro e w10 ⟨rfl, hb10⟩; rw [Hfit.out]; have hX10 := hX9.below hb10; have hD10 := hD9.below hb10; have hS10 := hS9.below hb10; replace i6' := (i6'.below hb10).more hb10.size; replace i7' := (i7'.below hb10).more hb10.size)
      clear p0 p1 x0 x1 hX9 hD9 hS9 hb10
      have hLL : (L.length == L.length) = true := by simp
      clear hLL
      go_wp2_with fail
      go_loopg [14] L.length (fun gh s wr => ∃ k : Nat, k ≤ L.length ∧ gh = L.length - k ∧ s = .int .i64 k ∧ Below w10.heap.size w10 wr)
      case atStart => exact ⟨0, Nat.zero_le _, rfl, rfl, Below.refl _ _⟩
      case round =>
        obtain ⟨k, hk, rfl, rfl, hW⟩ := hrel
        have hX := hX10.below hW
        have hD := hD10.below hW
        have hS := hS10.below hW
        have i6 := (i6'.below hW).more hW.size
        have i7 := (i7'.below hW).more hW.size
        have p0 := hD.c0
        have x0 := hX.c0
        have x1 := hX.c1
        by_cases hlt : k < L.length
        · have hlt' : (k : Int) < (L.length : Int) := by omega
          have hk0 : (0 : Int) ≤ (k : Int) := by omega
          have hwk : IntKind.i64.wrap ((k : Int) + 1) = (k : Int) + 1 := IntWalk.i64_in _ (by omega)
          have hkl : k < ea.length := by rw [Hel.out]; exact hlt
          obtain rfl := i6.addr (by omega)
          have d0 := i6.cell k hkl
          have d1 := i7.cell k (by rw [lateL_len]; exact hlt)
          have g0 := Hle.out k hlt
          have g1 := fun hr => Hmo.out hr k hlt
          rw [Nat.zero_add] at d0 d1
          generalize ea.getD k 0 = v at d0 g0
          generalize (lateL L F).getD k 0 = u at d1 g1
          have G1 : Hid ((Pp.leastOf ⟨(L.length : Int) + 2, bs⟩ 0 ((k : Int) + 1)).1 = v) := by rw [g0]; rfl
          have G2 : Hid ((Pp.leastOf ⟨(L.length : Int) + 2, bs⟩ 0 ((k : Int) + 1)).2 = true) := by rw [g0]; rfl
          clear hkl g0 hk
          cases r
          · obtain ⟨⟨m, tw⟩, hm⟩ : ∃ x, Pp.mostOf q 0 ((k : Int) + 1) = x := ⟨_, rfl⟩
            have M1 : Hid ((Pp.mostOf q 0 ((k : Int) + 1)).1 = m) := by rw [hm]; rfl
            have M2 : Hid ((Pp.mostOf q 0 ((k : Int) + 1)).2 = tw) := by rw [hm]; rfl
            clear hm g1
            have s0 := hS.c0
            have s1 := hS.c1
            go_wp2_with (first
              | (go_at_call 20; go_fit (leastOf_c ⟨(L.length : Int) + 2, bs⟩ 0 ((k : Int) + 1) A3 g3 0 c3 _ _ hbl6 (Nat.le_refl _) hX.rd); rintro e w11 ⟨rfl, hb11⟩; rw [G1.out, G2.out]; have hS11 := hS.below hb11; have t0 := hS11.c0; have t1 := hS11.c1; have e0 := ((bcell hb11).1 _ _ (i6.lt (by rw [Hel.out]; omega))).trans d0; have e1 := ((bcell hb11).1 _ _ (i7.lt (by rw [lateL_len]; omega))).trans d1)
              | (go_at_call 21; go_fit (mostOf_c q 0 ((k : Int) + 1) A8 g8 0 c8 _ _ hql6 (Nat.le_refl _) hS11.rd); rintro e w12 ⟨rfl, hb12⟩; rw [M1.out, M2.out]; have hW12 := bthen hW (bthen hb11 hb12); have hS12 := hS11.below hb12; have f0 := ((bcell hb12).1 _ _ (Nat.lt_of_lt_of_le (i6.lt (by rw [Hel.out]; omega)) hb11.size)).trans e0; have f1 := ((bcell hb12).1 _ _ (Nat.lt_of_lt_of_le (i7.lt (by rw [lateL_len]; omega)) hb11.size)).trans e1))
            go_roundg (L.length - (k + 1))
            case measure => go_light; omega
            case rel => go_light; exact ⟨k + 1, by omega, rfl, by go_num, hW12⟩
          · have hm := g1 rfl
            have M1 : Hid ((Pp.mostOf q 0 ((k : Int) + 1)).1 = u) := by rw [hm]; rfl
            have M2 : Hid ((Pp.mostOf q 0 ((k : Int) + 1)).2 = true) := by rw [hm]; rfl
            clear hm g1
            have s0 := hS.c0
            have s1 := hS.c1
            go_wp2_with (first
              | (go_at_call 20; go_fit (leastOf_c ⟨(L.length : Int) + 2, bs⟩ 0 ((k : Int) + 1) A3 g3 0 c3 _ _ hbl6 (Nat.le_refl _) hX.rd); rintro e w11 ⟨rfl, hb11⟩; rw [G1.out, G2.out]; have hS11 := hS.below hb11; have t0 := hS11.c0; have t1 := hS11.c1; have e0 := ((bcell hb11).1 _ _ (i6.lt (by rw [Hel.out]; omega))).trans d0; have e1 := ((bcell hb11).1 _ _ (i7.lt (by rw [lateL_len]; omega))).trans d1)
              | (go_at_call 21; go_fit (mostOf_c q 0 ((k : Int) + 1) A8 g8 0 c8 _ _ hql6 (Nat.le_refl _) hS11.rd); rintro e w12 ⟨rfl, hb12⟩; rw [M1.out, M2.out]; have hW12 := bthen hW (bthen hb11 hb12); have hS12 := hS11.below hb12; have f0 := ((bcell hb12).1 _ _ (Nat.lt_of_lt_of_le (i6.lt (by rw [Hel.out]; omega)) hb11.size)).trans e0; have f1 := ((bcell hb12).1 _ _ (Nat.lt_of_lt_of_le (i7.lt (by rw [lateL_len]; omega)) hb11.size)).trans e1))
            go_roundg (L.length - (k + 1))
            case measure => go_light; omega
            case rel => go_light; exact ⟨k + 1, by omega, rfl, by go_num, hW12⟩
        · obtain rfl : k = L.length := by omega
          by_cases hz : L.length = 0
          · obtain ⟨⟨m, tw⟩, hm⟩ : ∃ x, Pp.leastOf ⟨(L.length : Int) + 2, bs⟩ 0 ((L.length : Int) + 1) = x := ⟨_, rfl⟩
            have M1 : Hid ((Pp.leastOf ⟨(L.length : Int) + 2, bs⟩ 0 ((L.length : Int) + 1)).1 = m) := by rw [hm]; rfl
            have M2 : Hid ((Pp.leastOf ⟨(L.length : Int) + 2, bs⟩ 0 ((L.length : Int) + 1)).2 = tw) := by rw [hm]; rfl
            have hzz : ((L.length : Int) == 0) = true := by rw [beq_iff_eq]; omega
            clear hm hz
            go_wp2_with (go_at_call 20; go_fit (leastOf_c ⟨(L.length : Int) + 2, bs⟩ 0 ((L.length : Int) + 1) A3 g3 0 c3 _ _ hbl6 (Nat.le_refl _) hX.rd); rintro e w11 ⟨rfl, hb11⟩; rw [M1.out, M2.out]; have hD11 := hD.below hb11; have t0 := hD11.c0; have t1 := hD11.c1)
            go_ret
            exact ⟨rfl, hD11.bel⟩
          · have hm := Hln.out (by omega)
            have M1 : Hid ((Pp.leastOf ⟨(L.length : Int) + 2, bs⟩ 0 ((L.length : Int) + 1)).1 = N) := by rw [hm]; rfl
            have M2 : Hid ((Pp.leastOf ⟨(L.length : Int) + 2, bs⟩ 0 ((L.length : Int) + 1)).2 = true) := by rw [hm]; rfl
            have hzz : ((L.length : Int) == 0) = false := by rw [beq_eq_false_iff_ne]; omega
            clear hm hz
            go_wp2_with (go_at_call 20; go_fit (leastOf_c ⟨(L.length : Int) + 2, bs⟩ 0 ((L.length : Int) + 1) A3 g3 0 c3 _ _ hbl6 (Nat.le_refl _) hX.rd); rintro e w11 ⟨rfl, hb11⟩; rw [M1.out, M2.out]; have hD11 := hD.below hb11; have t0 := hD11.c0; have t1 := hD11.c1)
            go_ret
            exact ⟨rfl, hD11.bel⟩
end Go.Proofs.Ytmgikoaeomieeaa
