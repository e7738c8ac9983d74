/-
  The law of LatestOf: its walk.
-/
import Derived.Test.YtjlaljnffmncpaaW4
import Derived.Test.YtjlaljnffmncpaaP6
import Derived.Test.YtjlaljnffmncpaaD9
import Derived.Test.YtjlaljnffmncpaaL3
import Derived.Test.YtjlaljnffmncpaaL4
import Derived.Test.YtjlaljnffmncpaaL6
import Derived.Test.YtjlaljnffmncpaaS5
namespace Go.Proofs.Ytjlaljnffmncpaa
set_option linter.unusedVariables false
set_option linter.unusedSimpArgs false
open Go.RowKit Pp

theorem IntsR.next {W W' : World} {b o : Nat} {A : Option Addr} {xs : List Int} (h : IntsR W W.heap.size b o A xs) (hb : Below W.heap.size W W') : IntsR W' W'.heap.size b o A xs := (h.below hb).more hb.size

theorem early_l (n f : Int) (bs : List Bd) (len : Nat) (hlen : bs.length = len) (A : Option Addr) (b o c B : Nat) (w : World) (hn : bs.length ≤ 1000000) (hB : B ≤ w.heap.size) (hR : BdsR w B b o A bs) (xs : List Int) (r : Bool) (hxs : earliest ⟨n, bs⟩ f = (xs, r)) :
    Calls Try.prog 32 #[.agg #[.int .i64 n, .slice A len c], .int .i64 f] w fun e w' => ∃ A1 c1 g1, e = .returned (.tuple #[.slice A1 xs.length c1, .bool r]) ∧ IntsR w' w'.heap.size g1 0 A1 xs ∧ Below w.heap.size w w' := by
  subst hlen
  exact early_c ⟨n, bs⟩ f A b o c B w hn hB hR xs r hxs
set_option maxHeartbeats 8000000 in
set_option maxRecDepth 100000 in
theorem lawLate_c (a0 : Option Addr) (len0 cap0 : Nat) (z0 : List Int) (w : World) (w0 : RowU w a0 len0 cap0 z0) :
    Calls Try.prog 5 #[.slice a0 len0 cap0] w fun e w' => e = .returned (.bool true) ∧ Below w.heap.size w w' := by
  obtain ⟨hlc, hAs, hby⟩ := w0.bytes
  clear w0
  by_cases hlen : (1048576 : Int) < (len0 : Int)
  · go_enter Try.func5, Try.ntmps5
    go_wp2_with fail
    go_ret
    exact ⟨rfl, Below.refl _ _⟩
  · go_enter Try.func5, Try.ntmps5
    go_upto_region 4 with (go_at_call 28; go_fit (drawLate_c a0 len0 cap0 z0 _ (by omega) hlc hAs hby); rintro e w1 ⟨n, A, c, bs, b, f, rfl, ⟨hn0, hn7⟩, hbl, hsm, ⟨hf0, hf1⟩, hrd, hW⟩)
    have hP := pb_new (n := n) (c := c) (t := 25) hW hrd
    generalize w1.alloc (.cells #[.int .i64 n, .slice A bs.length c] 25) = wa at hP ⊢
    generalize w1.heap.size = X at hP ⊢
    clear hW hrd hlen hby hAs hsm
    have p0 := hP.c0
    have p1 := hP.c1
    have hbl6 : bs.length ≤ 1000000 := by omega
    obtain ⟨xs, r, hx⟩ : ∃ xs r, latest ⟨n, bs⟩ f = (xs, r) := ⟨_, _, rfl⟩
    cases r
    · obtain rfl := latest_no hx
      have Hx := hide hx
      clear hx
      go_wp2_with (first
        | (go_at_call 29; go_fit (late_c ⟨n, bs⟩ f A b 0 c _ _ hbl6 (Nat.le_refl _) hP.rd [] false Hx.out); rintro e w2 ⟨A1, c1, g1, rfl, hx1, hb2⟩; have hP2 := hP.below hb2; have q0 := hP2.c0; have q1 := hP2.c1)
        | (go_at_call 30; go_fit (sLatestOf_c ⟨n, bs⟩ f A b 0 c _ _ hbl6 (Nat.le_refl _) hP2.rd [] false Hx.out); rintro e w3 ⟨A2, c2, g2, rfl, hx2, hb3⟩; have hP3 := hP2.below hb3)
        | (go_at_call 31; go_fit (sameInts_yes [] A1 A2 0 0 c1 0 0 c2 _ _ (by simp) (Nat.le_refl _) (IntsR.nil _ _ _) (IntsR.nil _ _ _)); rintro e w4 ⟨rfl, hb4⟩; have hP4 := hP3.below hb4)
        | (go_at_call 19; go_fit (alive_c w4); rintro e w6 ⟨rfl, hb6⟩; have hP6 := hP4.below hb6))
      go_ret
      exact ⟨rfl, hP6.bel⟩
    · obtain ⟨hkeep, hfit, ⟨hff0, hff1⟩, hl, hz0, _⟩ := latest_keeps hx
      have hp := planOk_of_fits hfit
      have hnn := nn_ok hp
      obtain ⟨zs, hz, hzl, hzk⟩ := turned_early hx
      have hts : turn ⟨n, bs⟩ = ⟨n, bs.map swapB⟩ := by unfold turn; rw [if_pos hp]; rfl
      rw [hts] at hz
      have hsmall := latest_small hx
      have hxl : xs.length ≤ 1000000 := by omega
      have hfl : f < (xs.length : Int) := by dsimp only at hff1 hnn; omega
      obtain ⟨fn, rfl⟩ := Int.eq_ofNat_of_zero_le hf0
      simp only [Int.toNat_natCast] at hz0
      obtain ⟨ys, ry, hy⟩ : ∃ ys ry, earliest ⟨n, bs⟩ (fn : Int) = (ys, ry) := ⟨_, _, rfl⟩
      have hyl : ry = true → ys.length = xs.length ∧ ∀ k, k < xs.length → ys.getD k 0 ≤ xs.getD k 0 := fun h => by subst h; exact early_late hx hy
      have hml : (bs.map swapB).length = bs.length := by simp
      have Hml := hide hml
      have Hx := hide hx
      have Hy := hide hy
      have Hz := hide hz
      have Hp := hide hp
      have Hk := hide hkeep
      have Hzl := hide hzl
      have Hzk := hide hzk
      have Hyl := hide hyl
      have Hz0 := hide hz0
      have Hsm := hide hsmall
      clear hx hy hz hp hkeep hzl hzk hyl hz0 hsmall hl hnn hfit hts hml hff0 hff1
      go_upto_region 12 with (first
        | (go_at_call 29; go_fit (late_c ⟨n, bs⟩ (fn : Int) A b 0 c _ _ hbl6 (Nat.le_refl _) hP.rd xs true Hx.out); rintro e w2 ⟨A1, c1, g1, rfl, hx2, hb2⟩; have hP2 := hP.below hb2; have q0 := hP2.c0; have q1 := hP2.c1)
        | (go_at_call 30; go_fit (sLatestOf_c ⟨n, bs⟩ (fn : Int) A b 0 c _ _ hbl6 (Nat.le_refl _) hP2.rd xs true Hx.out); rintro e w3 ⟨A2, c2, g2, rfl, hs3, hb3⟩; have hP3 := hP2.below hb3; have hx3 := hx2.next hb3)
        | (go_at_call 31; go_fit (sameInts_yes xs A1 A2 g1 0 c1 g2 0 c2 _ _ hxl (Nat.le_refl _) hx3 hs3); rintro e w4 ⟨rfl, hb4⟩; have hP4 := hP3.below hb4; have hx4 := hx3.next hb4; have hs4 := hs3.next hb4; have r0 := hP4.c0; have r1 := hP4.c1)
        | (go_at_call 32; go_fit (early_c ⟨n, bs⟩ (fn : Int) A b 0 c _ _ hbl6 (Nat.le_refl _) hP4.rd ys ry Hy.out); rintro e w5 ⟨A3, c3, g3, rfl, hy5, hb5⟩; have hP5 := hP4.below hb5; have hx5 := hx4.next hb5; have hs5 := hs4.next hb5; have s0 := hP5.c0; have s1 := hP5.c1)
        | (go_at_call 33; go_fit (turnedPlan_c n bs Hp.out A b 0 c _ _ hbl6 (Nat.le_refl _) hP5.rd); rintro e w6 ⟨A4, c4, g4, rfl, ht6, hb6⟩; have hP6 := hP5.below hb6; have hx6 := hx5.next hb6; have hs6 := hs5.next hb6; have hy6 := hy5.next hb6)
        | (go_at_call 32; go_fit (early_l n (fn : Int) (bs.map swapB) bs.length Hml.out A4 g4 0 c4 _ _ (by rw [Hml.out]; exact hbl6) (Nat.le_refl _) ht6 zs true Hz.out); rintro e w7 ⟨A5, c5, g5, rfl, hz7, hb7⟩; rw [Hzl.out]; have hP7 := hP6.below hb7; have hx7 := hx6.next hb7; have hs7 := hs6.next hb7; have hy7 := hy6.next hb7))
      clear Hx Hy Hz Hp
      cases ry
      · skip
        clear hb2 hb3 hb4 hb5 hb6 hb7 hx2 hx3 hx4 hx5 hx6 hs3 hs4 hs5 hs6 hy5 hy6 ht6 hP hP2 hP3 hP4 hP5 hP6 p0 p1 q0 q1 r0 r1 s0 s1
        go_wp2_with fail
        go_loopg [13] xs.length (fun gh s wr => ∃ k : Nat, k ≤ xs.length ∧ gh = xs.length - k ∧ s = .int .i64 k ∧ PB w wr X b n A c bs ∧ IntsR wr wr.heap.size g1 0 A1 xs ∧ IntsR wr wr.heap.size g2 0 A2 xs ∧ IntsR wr wr.heap.size g3 0 A3 ys ∧ IntsR wr wr.heap.size g5 0 A5 zs)
        case atStart => exact ⟨0, Nat.zero_le _, rfl, rfl, hP7, hx7, hs7, hy7, hz7⟩
        case round =>
          clear hP7 hx7 hs7 hy7 hz7
          obtain ⟨k, hk, rfl, rfl, hP, hx, hs, hy, hz⟩ := hrel
          by_cases hlt : k < xs.length
          · have hlt' : (k : Int) < (xs.length : Int) := by omega
            have hzk := Hzk.out k hlt
            obtain ⟨v1, v2⟩ := Hsm.out k hlt
            obtain rfl := hs.addr (by omega)
            obtain rfl := hz.addr (by rw [Hzl.out]; omega)
            have d0 := hs.cell k hlt
            have d1 := hz.cell k (by rw [Hzl.out]; exact hlt)
            rw [hzk] at d1
            simp only [Nat.zero_add] at d0 d1
            skip
            generalize xs.getD k 0 = x at *
            have hneg : IntKind.i64.wrap (-x) = -x := by rw [IntWalk.i64_left, IntWalk.wrap64_in _ (by omega)]
            skip
            go_upto_region 17 with fail
            go_quiet (fail)
            go_wp2_with fail
            go_roundg (xs.length - (k + 1))
            case measure => go_light; omega
            case rel =>
              go_light
              have hd : ∀ m, Below wr.heap.size wr (wr.drewN m) := fun m => ⟨rfl, rfl, rfl, Nat.le_refl _, fun _ _ => rfl⟩
              exact ⟨k + 1, by omega, rfl, by go_num, hP.below (hd _), hx.next (hd _), hs.next (hd _), hy.next (hd _), hz.next (hd _)⟩
          · obtain rfl : k = xs.length := by omega
            have p0 := hP.c0
            have p1 := hP.c1
            have hfn : fn < xs.length := by omega
            obtain rfl := hx.addr (by omega)
            go_wp2_with (go_at_call 34; go_fit (keepsOk_c ⟨n, bs⟩ xs A (some ⟨g1, 0, none⟩) b 0 c g1 0 c1 _ _ hbl6 hxl (Nat.le_refl _) hP.rd hx); rintro e w8 ⟨rfl, hb8⟩; rw [Hk.out]; have hP8 := hP.below hb8; have e0 := (hx.next hb8).cell fn hfn; rw [Hz0.out] at e0; simp only [Nat.zero_add] at e0)
            go_ret
            exact ⟨rfl, hP8.bel⟩
      · obtain ⟨hyl, hyk⟩ := Hyl.out rfl
        rw [hyl]
        have Hyk := hide hyk
        have Hyl2 := hide hyl
        clear hyl hyk
        clear hb2 hb3 hb4 hb5 hb6 hb7 hx2 hx3 hx4 hx5 hx6 hs3 hs4 hs5 hs6 hy5 hy6 ht6 hP hP2 hP3 hP4 hP5 hP6 p0 p1 q0 q1 r0 r1 s0 s1
        go_wp2_with fail
        go_loopg [13] xs.length (fun gh s wr => ∃ k : Nat, k ≤ xs.length ∧ gh = xs.length - k ∧ s = .int .i64 k ∧ PB w wr X b n A c bs ∧ IntsR wr wr.heap.size g1 0 A1 xs ∧ IntsR wr wr.heap.size g2 0 A2 xs ∧ IntsR wr wr.heap.size g3 0 A3 ys ∧ IntsR wr wr.heap.size g5 0 A5 zs)
        case atStart => exact ⟨0, Nat.zero_le _, rfl, rfl, hP7, hx7, hs7, hy7, hz7⟩
        case round =>
          clear hP7 hx7 hs7 hy7 hz7
          obtain ⟨k, hk, rfl, rfl, hP, hx, hs, hy, hz⟩ := hrel
          by_cases hlt : k < xs.length
          · have hlt' : (k : Int) < (xs.length : Int) := by omega
            have hzk := Hzk.out k hlt
            obtain ⟨v1, v2⟩ := Hsm.out k hlt
            obtain rfl := hs.addr (by omega)
            obtain rfl := hz.addr (by rw [Hzl.out]; omega)
            have d0 := hs.cell k hlt
            have d1 := hz.cell k (by rw [Hzl.out]; exact hlt)
            rw [hzk] at d1
            simp only [Nat.zero_add] at d0 d1
            obtain rfl := hy.addr (by rw [Hyl2.out]; omega); have d2 := hy.cell k (by rw [Hyl2.out]; exact hlt); have hyk := Hyk.out k hlt; simp only [Nat.zero_add] at d2
            generalize xs.getD k 0 = x at *
            have hneg : IntKind.i64.wrap (-x) = -x := by rw [IntWalk.i64_left, IntWalk.wrap64_in _ (by omega)]
            generalize ys.getD k 0 = y at d2 hyk
            go_upto_region 17 with fail
            go_quiet (fail)
            go_wp2_with fail
            go_roundg (xs.length - (k + 1))
            case measure => go_light; omega
            case rel =>
              go_light
              have hd : ∀ m, Below wr.heap.size wr (wr.drewN m) := fun m => ⟨rfl, rfl, rfl, Nat.le_refl _, fun _ _ => rfl⟩
              exact ⟨k + 1, by omega, rfl, by go_num, hP.below (hd _), hx.next (hd _), hs.next (hd _), hy.next (hd _), hz.next (hd _)⟩
          · obtain rfl : k = xs.length := by omega
            have p0 := hP.c0
            have p1 := hP.c1
            have hfn : fn < xs.length := by omega
            obtain rfl := hx.addr (by omega)
            go_wp2_with (go_at_call 34; go_fit (keepsOk_c ⟨n, bs⟩ xs A (some ⟨g1, 0, none⟩) b 0 c g1 0 c1 _ _ hbl6 hxl (Nat.le_refl _) hP.rd hx); rintro e w8 ⟨rfl, hb8⟩; rw [Hk.out]; have hP8 := hP.below hb8; have e0 := (hx.next hb8).cell fn hfn; rw [Hz0.out] at e0; simp only [Nat.zero_add] at e0)
            go_ret
            exact ⟨rfl, hP8.bel⟩
end Go.Proofs.Ytjlaljnffmncpaa
