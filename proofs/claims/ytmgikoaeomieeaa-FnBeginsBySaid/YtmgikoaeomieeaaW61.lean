/-
  The law of BeginsBy: its walk.
-/
import Derived.Test.YtmgikoaeomieeaaD62
import Derived.Test.YtmgikoaeomieeaaL69
import Derived.Test.YtmgikoaeomieeaaL72
import Derived.Test.YtmgikoaeomieeaaS75
import Derived.Test.YtmgikoaeomieeaaW4
namespace Go.Proofs.Ytmgikoaeomieeaa
set_option linter.unusedVariables false
set_option linter.unusedSimpArgs false
open Go.RowKit Pp

theorem by_facts {L F xs : List Int} {h : Int} (hof : orderFits L F h xs = true) :
    ∃ b, beginsBy L F h xs = b ∧ b.length = L.length ∧ beginsOk L F h b = true ∧ fitB L F b = true ∧ (leastV L F h < 0 ∨ leastV L F h ≤ endOf L b) ∧ (h < (L.length : Int) ∨ earlyOf L F = b) ∧ xs.length = L.length := by
  obtain ⟨hp, hh, ho⟩ := orderFits_iff.1 hof
  have hb := by_ok (h := h) hp hh ho
  refine ⟨_, rfl, (beginsOk_iff.1 hb).2.1, hb, ?_, ?_, ?_, ho.1⟩
  · rw [beginsOk_eq] at hb
    simp only [Bool.and_eq_true] at hb
    exact hb.1.1
  · unfold leastV
    split
    · exact .inr (least_all hb)
    · left; omega
  · by_cases hn : h < (L.length : Int)
    · exact .inl hn
    · right
      rw [by_many hp hh.1 (by omega) ho]
      unfold earlyOf
      rw [if_pos hp]
theorem ints_none (w : World) (B : Nat) (A : Option Addr) : IntsR w B 0 0 A [] := ⟨fun h => absurd h (by simp), fun h => absurd h (by simp), fun j hj => absurd hj (by simp)⟩

set_option maxHeartbeats 4000000 in
set_option maxRecDepth 100000 in
theorem lawBegins_c (a0 : Option Addr) (len0 cap0 : Nat) (z0 : List Int) (w : World) (w0 : RowU w a0 len0 cap0 z0) :
    Calls Try.prog 6 #[.slice a0 len0 cap0] w fun e w' => e = .returned (.bool true) ∧ Below w.heap.size w w' := by
  obtain ⟨hlc, hAs, hby⟩ := w0.bytes
  clear w0
  by_cases hlen : (1048576 : Int) < (len0 : Int)
  · go_enter Try.func6, Try.ntmps6
    go_wp2_with fail
    go_ret
    exact ⟨rfl, Below.refl _ _⟩
  · go_enter Try.func6, Try.ntmps6
    go_upto_region 4 with (go_at_call 28; go_fit (drawBy_c a0 len0 cap0 z0 _ (by omega) hlc hAs hby); rintro e w1 ⟨A1, c1, L, A2, c2, F, h, A3, c3, xs, rfl, hL7, hF7, hh, hx10, hxc, o1, o2, o3, hW⟩)
    obtain ⟨b1, i1⟩ := own_IntsR o1
    obtain ⟨b2, i2⟩ := own_IntsR o2
    obtain ⟨b3, i3⟩ := own_IntsR o3
    have hD := pj_law (cl := c1) (cf := c2) (t := 25) hW i1 i2
    have hX := (i3.below (show Below w1.heap.size w1 (w1.alloc (.cells #[.slice A1 L.length c1, .slice A2 F.length c2] 25)) by go_grown)).more (show w1.heap.size ≤ (w1.alloc (.cells #[.slice A1 L.length c1, .slice A2 F.length c2] 25)).heap.size by simp)
    generalize w1.alloc (.cells #[.slice A1 L.length c1, .slice A2 F.length c2] 25) = wa at hD hX ⊢
    generalize w1.heap.size = D at hD ⊢
    clear hW i1 i2 i3 o1 o2 o3 hlen hby hAs
    have hll : L.length ≤ 2000000 := by omega
    have hlf : F.length ≤ 2000000 := by omega
    have hlx : xs.length ≤ 2000000 := by omega
    have p0 := hD.c0
    have p1 := hD.c1
    cases hof : orderFits L F h xs
    · have Hof := hide hof
      clear hof
      go_upto_region 8 with (first
        | (go_at_call 29; go_fit (beginsBy_no L F xs h Hof.out A1 A2 A3 b1 0 c1 b2 0 c2 b3 0 c3 _ _ hll hlf hlx hxc (Nat.le_refl _) hD.rl hD.rf hX); rintro e w2 ⟨rfl, hb2⟩; have hD2 := hD.below hb2; have hX2 := (hX.below hb2).more hb2.size; have q0 := hD2.c0; have q1 := hD2.c1)
        | (go_at_call 30; go_fit (sBeginsBy_no L F xs h Hof.out A1 A2 A3 b1 0 c1 b2 0 c2 b3 0 c3 _ _ hll hlf hlx (Nat.le_refl _) hD2.rl hD2.rf hX2); rintro e w3 ⟨A5, rfl, hb3⟩; have hD3 := hD2.below hb3)
        | (go_at_call 31; go_fit (sameInts_yes [] none A5 0 0 0 0 0 0 _ _ (by simp) (Nat.le_refl _) (ints_none _ _ _) (ints_none _ _ _)); rintro e w4 ⟨rfl, hb4⟩; have hD4 := hD3.below hb4))
      go_wp2_with (go_at_call 14; go_fit (alive_c _); rintro e w6 ⟨rfl, hb6⟩; have hD6 := hD4.below hb6)
      go_ret
      exact ⟨rfl, hD6.bel⟩
    · obtain ⟨bg, hbg, hbl, hbo, hbf, hlv, hea, hxl⟩ := by_facts hof
      have Hof := hide hof
      have Hbg := hide hbg
      clear hof hbg
      have hbl2 : bg.length ≤ 2000000 := by omega
      obtain ⟨V, hV⟩ : ∃ V, leastV L F h = V := ⟨_, rfl⟩
      obtain ⟨E, hE⟩ : ∃ E, endOf L bg = E := ⟨_, rfl⟩
      rw [hV, hE] at hlv
      have HV := hide hV
      have HE : Hid ((if fitB L F bg then endOf L bg else -1) = E) := by unfold Hid; rw [if_pos hbf]; exact hE
      have Hbo := hide hbo
      have Hbl := hide hbl
      rw [hxl]
      have Hxl := hide hxl
      clear hV hE hbo hbf hbl hxl
      go_upto_region 10 with (first
        | (go_at_call 29; have hcall := beginsBy_yes L F xs h Hof.out A1 A2 A3 b1 0 c1 b2 0 c2 b3 0 c3 _ wa hxc (Nat.le_refl _) hD.rl hD.rf hX; rw [Hxl.out, Hbg.out] at hcall; refine hcall.mono ?_; clear hcall; rintro e w2 ⟨g, rfl, hg, hrow, hb2⟩; have hr2 := row_ints hrow Hbl.out; have hD2 := hD.below hb2; have hX2 := (hX.below hb2).more hb2.size; have q0 := hD2.c0; have q1 := hD2.c1)
        | (go_at_call 30; have hcall := sBeginsBy_yes L F xs h Hof.out A1 A2 A3 b1 0 c1 b2 0 c2 b3 0 c3 _ w2 (Nat.le_refl _) hD2.rl hD2.rf hX2; rw [Hxl.out, Hbg.out] at hcall; refine hcall.mono ?_; clear hcall; rintro e w3 ⟨A5, c5, rfl, o5, hb3⟩; have hD3 := hD2.below hb3; replace hr2 := (hr2.below hb3).more hb3.size)
        | (go_at_call 31; obtain ⟨b5, i5⟩ := own_IntsR (xs := bg) (by rw [Hbl.out]; exact o5); have hcall := sameInts_yes bg (some ⟨g, 0, none⟩) A5 g 0 L.length b5 0 c5 _ w3 hbl2 (Nat.le_refl _) hr2 i5; rw [Hbl.out] at hcall; refine hcall.mono ?_; clear hcall; rintro e w4 ⟨rfl, hb4⟩; have hD4 := hD3.below hb4; replace hr2 := (hr2.below hb4).more hb4.size))
      clear p0 p1 q0 q1 hb2 hb3 hb4 hD hD2 hD3 hX hX2 o5 i5 hrow
      have p0 := hD4.c0
      have p1 := hD4.c1
      go_upto_region 12 with (first
        | (go_at_call 25; go_fit (leastEnd_c L F h A1 A2 b1 0 c1 b2 0 c2 _ _ hll hlf (Nat.le_refl _) hD4.rl hD4.rf); rintro e w5 ⟨rfl, hb5⟩; rw [HV.out]; have hD5 := hD4.below hb5; replace hr2 := (hr2.below hb5).more hb5.size; have q0 := hD5.c0; have q1 := hD5.c1)
        | (go_at_call 32; have hcall := endOf_c L F bg A1 A2 (some ⟨g, 0, none⟩) b1 0 c1 b2 0 c2 g 0 L.length _ w5 hll hlf hbl2 (Nat.le_refl _) hD5.rl hD5.rf hr2; rw [Hbl.out, HE.out] at hcall; refine hcall.mono ?_; clear hcall; rintro e w6 ⟨rfl, hb6⟩; have hD6 := hD5.below hb6; replace hr2 := (hr2.below hb6).more hb6.size))
      clear p0 p1 q0 q1 hb5 hb6 hD4 hD5 HV HE
      have p0 := hD6.c0
      have p1 := hD6.c1
      by_cases hV0 : V < 0
      · by_cases hn : h < (L.length : Int)
        · skip
          go_wp2_with (first
            | (go_at_call 33; have hcall := beginsOk_c L F bg h A1 A2 (some ⟨g, 0, none⟩) b1 0 c1 b2 0 c2 g 0 L.length _ w6 hll hlf hbl2 (Nat.le_refl _) hD6.rl hD6.rf hr2; rw [Hbl.out, Hbo.out] at hcall; refine hcall.mono ?_; clear hcall; rintro e w7 ⟨rfl, hb7⟩; have hD7 := hD6.below hb7; replace hr2 := (hr2.below hb7).more hb7.size; have q0 := hD7.c0; have q1 := hD7.c1)
            | (go_at_call 15; have hcall := earlyOf_q L F A1 A2 b1 0 c1 b2 0 c2 _ w7 hll hlf (Nat.le_refl _) hD7.rl hD7.rf; rw [HA.out, Hbl.out] at hcall; refine hcall.mono ?_; clear hcall; rintro e w8 ⟨A6, c6, b6, rfl, i6, hb8⟩; have hD8 := hD7.below hb8; replace hr2 := (hr2.below hb8).more hb8.size)
            | (go_at_call 31; have hcall := sameInts_yes bg (some ⟨g, 0, none⟩) A6 g 0 L.length b6 0 c6 _ w8 hbl2 (Nat.le_refl _) hr2 i6; rw [Hbl.out] at hcall; refine hcall.mono ?_; clear hcall; rintro e w9 ⟨rfl, hb9⟩; have hD9 := hD8.below hb9))
          go_ret
          exact ⟨rfl, (by first | exact hD9.bel | exact hD7.bel)⟩
        · have HA : Hid (earlyOf L F = bg) := by unfold Hid; rcases hea with e | e; exact absurd e hn; exact e
          clear hea
          go_wp2_with (first
            | (go_at_call 33; have hcall := beginsOk_c L F bg h A1 A2 (some ⟨g, 0, none⟩) b1 0 c1 b2 0 c2 g 0 L.length _ w6 hll hlf hbl2 (Nat.le_refl _) hD6.rl hD6.rf hr2; rw [Hbl.out, Hbo.out] at hcall; refine hcall.mono ?_; clear hcall; rintro e w7 ⟨rfl, hb7⟩; have hD7 := hD6.below hb7; replace hr2 := (hr2.below hb7).more hb7.size; have q0 := hD7.c0; have q1 := hD7.c1)
            | (go_at_call 15; have hcall := earlyOf_q L F A1 A2 b1 0 c1 b2 0 c2 _ w7 hll hlf (Nat.le_refl _) hD7.rl hD7.rf; rw [HA.out, Hbl.out] at hcall; refine hcall.mono ?_; clear hcall; rintro e w8 ⟨A6, c6, b6, rfl, i6, hb8⟩; have hD8 := hD7.below hb8; replace hr2 := (hr2.below hb8).more hb8.size)
            | (go_at_call 31; have hcall := sameInts_yes bg (some ⟨g, 0, none⟩) A6 g 0 L.length b6 0 c6 _ w8 hbl2 (Nat.le_refl _) hr2 i6; rw [Hbl.out] at hcall; refine hcall.mono ?_; clear hcall; rintro e w9 ⟨rfl, hb9⟩; have hD9 := hD8.below hb9))
          go_ret
          exact ⟨rfl, (by first | exact hD9.bel | exact hD7.bel)⟩
      · have hVE : V ≤ E := by omega
        by_cases hn : h < (L.length : Int)
        · skip
          go_wp2_with (first
            | (go_at_call 33; have hcall := beginsOk_c L F bg h A1 A2 (some ⟨g, 0, none⟩) b1 0 c1 b2 0 c2 g 0 L.length _ w6 hll hlf hbl2 (Nat.le_refl _) hD6.rl hD6.rf hr2; rw [Hbl.out, Hbo.out] at hcall; refine hcall.mono ?_; clear hcall; rintro e w7 ⟨rfl, hb7⟩; have hD7 := hD6.below hb7; replace hr2 := (hr2.below hb7).more hb7.size; have q0 := hD7.c0; have q1 := hD7.c1)
            | (go_at_call 15; have hcall := earlyOf_q L F A1 A2 b1 0 c1 b2 0 c2 _ w7 hll hlf (Nat.le_refl _) hD7.rl hD7.rf; rw [HA.out, Hbl.out] at hcall; refine hcall.mono ?_; clear hcall; rintro e w8 ⟨A6, c6, b6, rfl, i6, hb8⟩; have hD8 := hD7.below hb8; replace hr2 := (hr2.below hb8).more hb8.size)
            | (go_at_call 31; have hcall := sameInts_yes bg (some ⟨g, 0, none⟩) A6 g 0 L.length b6 0 c6 _ w8 hbl2 (Nat.le_refl _) hr2 i6; rw [Hbl.out] at hcall; refine hcall.mono ?_; clear hcall; rintro e w9 ⟨rfl, hb9⟩; have hD9 := hD8.below hb9))
          go_ret
          exact ⟨rfl, (by first | exact hD9.bel | exact hD7.bel)⟩
        · have HA : Hid (earlyOf L F = bg) := by unfold Hid; rcases hea with e | e; exact absurd e hn; exact e
          clear hea
          go_wp2_with (first
            | (go_at_call 33; have hcall := beginsOk_c L F bg h A1 A2 (some ⟨g, 0, none⟩) b1 0 c1 b2 0 c2 g 0 L.length _ w6 hll hlf hbl2 (Nat.le_refl _) hD6.rl hD6.rf hr2; rw [Hbl.out, Hbo.out] at hcall; refine hcall.mono ?_; clear hcall; rintro e w7 ⟨rfl, hb7⟩; have hD7 := hD6.below hb7; replace hr2 := (hr2.below hb7).more hb7.size; have q0 := hD7.c0; have q1 := hD7.c1)
            | (go_at_call 15; have hcall := earlyOf_q L F A1 A2 b1 0 c1 b2 0 c2 _ w7 hll hlf (Nat.le_refl _) hD7.rl hD7.rf; rw [HA.out, Hbl.out] at hcall; refine hcall.mono ?_; clear hcall; rintro e w8 ⟨A6, c6, b6, rfl, i6, hb8⟩; have hD8 := hD7.below hb8; replace hr2 := (hr2.below hb8).more hb8.size)
            | (go_at_call 31; have hcall := sameInts_yes bg (some ⟨g, 0, none⟩) A6 g 0 L.length b6 0 c6 _ w8 hbl2 (Nat.le_refl _) hr2 i6; rw [Hbl.out] at hcall; refine hcall.mono ?_; clear hcall; rintro e w9 ⟨rfl, hb9⟩; have hD9 := hD8.below hb9))
          go_ret
          exact ⟨rfl, (by first | exact hD9.bel | exact hD7.bel)⟩
end Go.Proofs.Ytmgikoaeomieeaa
