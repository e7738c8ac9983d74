/-
  The law of SetTo: its walk.
-/
import Derived.Test.YtjlaljnffmncpaaW2
import Derived.Test.YtjlaljnffmncpaaP3
import Derived.Test.YtjlaljnffmncpaaD8
import Derived.Test.YtjlaljnffmncpaaS4
import Derived.Test.YtjlaljnffmncpaaL1c
namespace Go.Proofs.Ytjlaljnffmncpaa
set_option linter.unusedVariables false
set_option linter.unusedSimpArgs false
open Go.RowKit Pp

set_option maxHeartbeats 8000000 in
set_option maxRecDepth 100000 in
theorem lawSet_c (a0 : Option Addr) (len0 cap0 : Nat) (z0 : List Int) (w : World) (w0 : RowU w a0 len0 cap0 z0) :
    Calls Try.prog 6 #[.slice a0 len0 cap0] w fun e w' => e = .returned (.bool true) ∧ Below w.heap.size w w' := by
  obtain ⟨hlc, hAs, hby⟩ := w0.bytes
  clear w0
  by_cases hlen : (1048576 : Int) < (len0 : Int)
  · go_enter Try.func6, Try.ntmps6
    go_wp2_with fail
    go_ret
    exact ⟨rfl, Below.refl _ _⟩
  · go_enter Try.func6, Try.ntmps6
    go_upto_region 4 with (go_at_call 35; go_fit (drawSet_c a0 len0 cap0 z0 _ (by omega) hlc hAs hby); rintro e w1 ⟨n, A, c, bs, b, f, t, y, rfl, ⟨hn0, hn7⟩, hbl, hsm, ⟨hf0, hf1⟩, ⟨ht0, ht1⟩, ⟨hy0, hy1⟩, hrd, hW⟩)
    have hP := pb_new (n := n) (c := c) (t := 25) hW hrd
    generalize w1.alloc (.cells #[.int .i64 n, .slice A bs.length c] 25) = wa at hP ⊢
    generalize w1.heap.size = X at hP ⊢
    clear hW hrd hlen hby hAs hsm
    have p0 := hP.c0
    have p1 := hP.c1
    have hbl' : bs.length ≤ 10000 := by omega
    have hbl6 : bs.length ≤ 1000000 := by omega
    have hyy : -1000000000 ≤ y ∧ y ≤ 1000000000 := by omega
    have Hyy := hide hyy
    clear hyy
    cases hr : planOk ⟨n, bs ++ [(⟨f, t, y⟩ : Bd), ⟨t, f, -y⟩]⟩
    · have Hq : Hid (toldP ⟨n, bs ++ [(⟨f, t, y⟩ : Bd), ⟨t, f, -y⟩]⟩ = ⟨0, []⟩) := toldP_no hr
      have Hr := hide hr
      clear hr
      go_wp2_with (first
        | (go_at_call 36; go_fit (setTo_q ⟨n, bs⟩ f t y ⟨0, []⟩ false Hq.out Hr.out Hyy.out A b 0 c _ _ hbl' (Nat.le_refl _) hP.rd); rintro e w2 ⟨A1, c1, g1, rfl, hx1, hown1, hb2⟩; have hP2 := hP.below hb2; have q0 := hP2.c0; have q1 := hP2.c1; have qx := hP2.ex)
        | (go_at_call 37; go_fit (sSetTo_q n bs f t y ⟨0, []⟩ false Hq.out Hr.out Hyy.out A b 0 c _ _ hbl' (Nat.le_refl _) (hP2.alloc _).rd); rintro e w3 ⟨A2, c2, g2, rfl, hx2, hown2, hb3⟩; have hP3 := (hP2.alloc _).below hb3; have hQ3 := (pb_new hP2.bel hx1).below hb3; have r0 := hQ3.c0; have r1 := hQ3.c1; have rx := hQ3.ex)
        | (go_at_call 18; go_fit (samePlan_yes 0 [] A1 A2 0 0 c1 0 0 c2 _ _ (by simp) (Nat.le_refl _) (BdsR.nil _ _ _) (BdsR.nil _ _ _)); rintro e w4 ⟨rfl, hb4⟩; have hQ4 := (hQ3.alloc _).below hb4; have s0 := hQ4.c0; have s1 := hQ4.c1; have hb4' : Below w.heap.size w w4 := hQ4.bel)
        | (go_at_call 18; go_fit (samePlan_yes 0 [] A1 none 0 0 c1 0 0 0 _ _ (by simp) (Nat.le_refl _) (BdsR.nil _ _ _) (BdsR.nil _ _ _)); rintro e w5 ⟨rfl, hb5⟩; have hb5' : Below w.heap.size w w5 := bthen hb4' hb5)
        | (go_at_call 19; go_fit (alive_c w5); rintro e w6 ⟨rfl, hb6⟩))
      go_ret
      exact ⟨rfl, bthen hb5' hb6⟩
    · obtain ⟨bs2, hbs2⟩ : ∃ bs2, bs ++ [(⟨f, t, y⟩ : Bd), ⟨t, f, -y⟩] = bs2 := ⟨_, rfl⟩
      have hfits := set_fits hr
      have hset := @set_most n bs f t y
      have hr0 := hr
      rw [hbs2] at hfits hset hr
      have Hq : Hid (toldP ⟨n, bs ++ [(⟨f, t, y⟩ : Bd), ⟨t, f, -y⟩]⟩ = ⟨n, bs2⟩) := by rw [hbs2]; exact toldP_yes hr
      have Hr : Hid (planOk ⟨n, bs ++ [(⟨f, t, y⟩ : Bd), ⟨t, f, -y⟩]⟩ = true) := hr0
      have hbl2 : bs2.length ≤ 1000000 := by rw [← hbs2]; simp; omega
      clear hr hr0 hbs2
      cases hfv : fits ⟨n, bs2⟩
      · have hmo : mostOf ⟨n, bs2⟩ f t = (0, false) := by unfold mostOf; rw [hfv]; rfl
        have hmo2 : mostOf ⟨n, bs2⟩ t f = (0, false) := by unfold mostOf; rw [hfv]; rfl
        have Hm1 : Hid ((mostOf ⟨n, bs2⟩ f t).1 = 0) := by rw [hmo]; rfl
        have Hm2 : Hid ((mostOf ⟨n, bs2⟩ f t).2 = false) := by rw [hmo]; rfl
        have Hl1 : Hid ((Pp.leastOf ⟨n, bs2⟩ f t).1 = 0) := by unfold Pp.leastOf; rw [hmo2]; rfl
        have Hl2 : Hid ((Pp.leastOf ⟨n, bs2⟩ f t).2 = false) := by unfold Pp.leastOf; rw [hmo2]; rfl
        have Hmay : Hid (mayBe ⟨n, bs⟩ f t y = false) := by rw [← hfits]; exact hfv
        have Hfv := hide hfv
        clear hfv hfits hset hmo hmo2
        go_wp2_with (first
          | (go_at_call 36; go_fit (setTo_q ⟨n, bs⟩ f t y ⟨n, bs2⟩ true Hq.out Hr.out Hyy.out A b 0 c _ _ hbl' (Nat.le_refl _) hP.rd); rintro e w2 ⟨A1, c1, g1, rfl, hx1, hown1, hb2⟩; have hP2 := hP.below hb2; have q0 := hP2.c0; have q1 := hP2.c1; have qx := hP2.ex)
          | (go_at_call 37; go_fit (sSetTo_q n bs f t y ⟨n, bs2⟩ true Hq.out Hr.out Hyy.out A b 0 c _ _ hbl' (Nat.le_refl _) (hP2.alloc _).rd); rintro e w3 ⟨A2, c2, g2, rfl, hx2, hown2, hb3⟩; have hP3 := (hP2.alloc _).below hb3; have hQ3 := (pb_new hP2.bel hx1).below hb3; have r0 := hQ3.c0; have r1 := hQ3.c1; have rx := hQ3.ex; have hY3 := pb_new (n := n) (c := c2) (t := 25) hQ3.bel hx2; have rp0 := hP3.c0; have rp1 := hP3.c1; have rpx := hP3.ex)
          | (go_at_call 18; go_fit (samePlan_yes n bs2 A1 A2 g1 0 c1 g2 0 c2 _ _ hbl2 (Nat.le_refl _) (hQ3.alloc _).rd hY3.rd); rintro e w4 ⟨rfl, hb4⟩; have hQ4 := (hQ3.alloc _).below hb4; have hP4 := (hP3.alloc _).below hb4; have s0 := hQ4.c0; have s1 := hQ4.c1)
          | (go_at_call 38; go_fit (mostOf_c ⟨n, bs2⟩ f t A1 g1 0 c1 _ _ hbl2 (Nat.le_refl _) hQ4.rd); rintro e w5 ⟨rfl, hb5⟩; rw [Hm1.out, Hm2.out]; have hQ5 := hQ4.below hb5; have hP5 := hP4.below hb5; have t0 := hQ5.c0; have t1 := hQ5.c1)
          | (go_at_call 25; go_fit (leastOf_c ⟨n, bs2⟩ f t A1 g1 0 c1 _ _ hbl2 (Nat.le_refl _) hQ5.rd); rintro e w6 ⟨rfl, hb6⟩; rw [Hl1.out, Hl2.out]; have hQ6 := hQ5.below hb6; have hP6 := hP5.below hb6; have u0 := hQ6.c0; have u1 := hQ6.c1)
          | (go_at_call 39; go_fit (fitsOk_c ⟨n, bs2⟩ A1 g1 0 c1 _ _ hbl2 (Nat.le_refl _) hQ6.rd); rintro e w7 ⟨rfl, hb7⟩; rw [Hfv.out]; have hP7 := hP6.below hb7; have v0 := hP7.c0; have v1 := hP7.c1)
          | (go_at_call 26; go_fit (mayBeOk_c ⟨n, bs⟩ f t y A b 0 c _ _ hbl6 (Nat.le_refl _) hP7.rd); rintro e w8 ⟨rfl, hb8⟩; rw [Hmay.out]; have hP8 := hP7.below hb8))
        go_ret
        exact ⟨rfl, hP8.bel⟩
      · obtain ⟨hmo, hle⟩ := hset hfv
        have Hm1 : Hid ((mostOf ⟨n, bs2⟩ f t).1 = y) := by rw [hmo]; rfl
        have Hm2 : Hid ((mostOf ⟨n, bs2⟩ f t).2 = true) := by rw [hmo]; rfl
        have Hl1 : Hid ((Pp.leastOf ⟨n, bs2⟩ f t).1 = y) := by rw [hle]; rfl
        have Hl2 : Hid ((Pp.leastOf ⟨n, bs2⟩ f t).2 = true) := by rw [hle]; rfl
        have Hmay : Hid (mayBe ⟨n, bs⟩ f t y = true) := by rw [← hfits]; exact hfv
        have Hfv := hide hfv
        clear hfv hfits hset hmo hle
        go_wp2_with (first
          | (go_at_call 36; go_fit (setTo_q ⟨n, bs⟩ f t y ⟨n, bs2⟩ true Hq.out Hr.out Hyy.out A b 0 c _ _ hbl' (Nat.le_refl _) hP.rd); rintro e w2 ⟨A1, c1, g1, rfl, hx1, hown1, hb2⟩; have hP2 := hP.below hb2; have q0 := hP2.c0; have q1 := hP2.c1; have qx := hP2.ex)
          | (go_at_call 37; go_fit (sSetTo_q n bs f t y ⟨n, bs2⟩ true Hq.out Hr.out Hyy.out A b 0 c _ _ hbl' (Nat.le_refl _) (hP2.alloc _).rd); rintro e w3 ⟨A2, c2, g2, rfl, hx2, hown2, hb3⟩; have hP3 := (hP2.alloc _).below hb3; have hQ3 := (pb_new hP2.bel hx1).below hb3; have r0 := hQ3.c0; have r1 := hQ3.c1; have rx := hQ3.ex; have hY3 := pb_new (n := n) (c := c2) (t := 25) hQ3.bel hx2; have rp0 := hP3.c0; have rp1 := hP3.c1; have rpx := hP3.ex)
          | (go_at_call 18; go_fit (samePlan_yes n bs2 A1 A2 g1 0 c1 g2 0 c2 _ _ hbl2 (Nat.le_refl _) (hQ3.alloc _).rd hY3.rd); rintro e w4 ⟨rfl, hb4⟩; have hQ4 := (hQ3.alloc _).below hb4; have hP4 := (hP3.alloc _).below hb4; have s0 := hQ4.c0; have s1 := hQ4.c1)
          | (go_at_call 38; go_fit (mostOf_c ⟨n, bs2⟩ f t A1 g1 0 c1 _ _ hbl2 (Nat.le_refl _) hQ4.rd); rintro e w5 ⟨rfl, hb5⟩; rw [Hm1.out, Hm2.out]; have hQ5 := hQ4.below hb5; have hP5 := hP4.below hb5; have t0 := hQ5.c0; have t1 := hQ5.c1)
          | (go_at_call 25; go_fit (leastOf_c ⟨n, bs2⟩ f t A1 g1 0 c1 _ _ hbl2 (Nat.le_refl _) hQ5.rd); rintro e w6 ⟨rfl, hb6⟩; rw [Hl1.out, Hl2.out]; have hQ6 := hQ5.below hb6; have hP6 := hP5.below hb6; have u0 := hQ6.c0; have u1 := hQ6.c1)
          | (go_at_call 39; go_fit (fitsOk_c ⟨n, bs2⟩ A1 g1 0 c1 _ _ hbl2 (Nat.le_refl _) hQ6.rd); rintro e w7 ⟨rfl, hb7⟩; rw [Hfv.out]; have hP7 := hP6.below hb7; have v0 := hP7.c0; have v1 := hP7.c1)
          | (go_at_call 26; go_fit (mayBeOk_c ⟨n, bs⟩ f t y A b 0 c _ _ hbl6 (Nat.le_refl _) hP7.rd); rintro e w8 ⟨rfl, hb8⟩; rw [Hmay.out]; have hP8 := hP7.below hb8))
        go_ret
        exact ⟨rfl, hP8.bel⟩
end Go.Proofs.Ytjlaljnffmncpaa
