/-
  The law of ExactWayOf: its walk.
-/
import Derived.Test.YtledgblepdjjlaaE50
import Derived.Test.YtledgblepdjjlaaS52
import Derived.Test.YtledgblepdjjlaaL52
import Derived.Test.YtledgblepdjjlaaE3
namespace Go.Proofs.Ytledgblepdjjlaa
set_option linter.unusedVariables false
set_option linter.unusedSimpArgs false
open Go.RowKit Pp

theorem RP.gin {lo hi : Nat} {W W' : World} {X b o : Nat} {n : Int} {A : Option Addr} {c : Nat} {bs : List Bd} (h : RP W X b o n A c bs) (hg : GIn lo hi W W') (hX : ¬ (lo ≤ X ∧ X < hi)) (hb : 0 < bs.length → ¬ (lo ≤ b ∧ b < hi)) : RP W' X b o n A c bs :=
  ⟨Nat.lt_of_lt_of_le h.ex hg.size, hg.cell h.c0 hX, hg.cell h.c1 hX, h.rd.gin hg hb⟩
theorem wayOf_len (n : Int) (bs : List Bd) (cs : List (List Bd)) (ls : List Int) {q : Pl} {r : Bool} (hq : wayOf ⟨n, bs⟩ cs ls = (q, r)) (hc : bs.length + cs.length ≤ 1048576) : q.bs.length ≤ 2000000 := by
  unfold wayOf at hq
  split at hq
  · rename_i h
    rw [← (Prod.mk.inj hq).1]
    rw [Bool.and_eq_true] at h
    have h1 := (picksOk_iff.1 h.2).1
    have h2 := picked_length cs ls (by omega)
    simp only [wayP, List.length_append]
    omega
  · rw [← (Prod.mk.inj hq).1]
    exact Nat.zero_le _
set_option maxHeartbeats 8000000 in
set_option maxRecDepth 100000 in
theorem exactWayOf_c (n : Int) (bs : List Bd) (cs : List (List Bd)) (ls : List Int) (A A2 Al : Option Addr) (b o c b2 o2 c2 bl ol cl : Nat) (w : World) (hl : bs.length ≤ 9223372036854775807) (hl2 : cs.length ≤ 9223372036854775807) (hl4 : ∀ x ∈ cs, x.length ≤ 9223372036854775807) (hl3 : ls.length ≤ 9223372036854775807) (hR : BdsR w w.heap.size b o A bs) (hC : ChR w w.heap.size b2 o2 A2 cs) (hL0 : IntsR w w.heap.size bl ol Al ls) :
    Calls Try.prog 3 #[.agg #[.int .i64 n, .slice A bs.length c, .slice A2 cs.length c2], .slice Al ls.length cl] w fun e w' => e = .returned (.bool true) ∧ Below w.heap.size w w' := by
  by_cases h3 : (1048576 : Int) < (ls.length : Int)
  · go_enter Try.func3, Try.ntmps3
    go_wp2_with fail
    go_ret
    exact ⟨rfl, by go_grown⟩
  have hn3 : ls.length ≤ 2000000 := by omega
  have hA := rc_new (n := n) (c := c) (c2 := c2) (t := 27) hR hC
  have hW : Below w.heap.size w (w.alloc (.cells #[.int .i64 n, .slice A bs.length c, .slice A2 cs.length c2] 27)) := by go_grown
  have HR := hide hR
  have HC := hide hC
  clear hR hC
  obtain ⟨R, hRq⟩ : ∃ R : Int, (if (1048576 : Int) - (bs.length : Int) < 0 then -1 else szV (1048576 - bs.length) cs) = R := ⟨_, rfl⟩
  have hcase := szCase_cases bs cs R hRq
  have hcb : R = -1 ∨ (bs.length ≤ 1048576 ∧ cs.length ≤ 1048576 ∧ bs.length + cs.length ≤ 1048576) := by
    by_cases h0 : (1048576 : Int) - (bs.length : Int) < 0
    · rw [if_pos h0] at hRq; exact .inl hRq.symm
    · rw [if_neg h0] at hRq
      unfold szV at hRq
      split at hRq
      · exact .inl hRq.symm
      · exact .inr ⟨by omega, by omega, by omega⟩
  have H := hide hRq
  have H3l := hide hl4
  clear hRq hl4
  rcases hcase with h1 | ⟨h1, hn, hn2, hn3c, hsum⟩
  · subst h1
    clear hcb
    go_enter Try.func3, Try.ntmps3
    go_upto_region 1 with fail
    generalize w.alloc (.cells #[.int .i64 n, .slice A bs.length c, .slice A2 cs.length c2] 27) = W at hA hW ⊢
    have a0 := hA.c0
    have a1 := hA.c1
    have a2 := hA.c2
    go_wp2_with (go_at_call 15; go_fit (szCase_c 1048576 n A A2 b o c b2 o2 c2 _ bs cs _ (by omega) hl hl2 H3l.out (Nat.le_refl _) hA.rd hA.rc); rintro e w2 ⟨rfl, hb2⟩; rw [H.out])
    go_ret
    exact ⟨rfl, bthen hW hb2⟩
  · have h1' : ¬ R < 0 := by omega
    have hcb2 : bs.length + cs.length ≤ 1048576 := by rcases hcb with h | h <;> omega
    have H3 := hide hn3c
    clear hn3c hcb
    obtain ⟨q, r, hq⟩ : ∃ q r, wayOf ⟨n, bs⟩ cs ls = (q, r) := ⟨_, _, rfl⟩
    have hql : q.bs.length ≤ 2000000 := wayOf_len n bs cs ls hq hcb2
    have Hq := hide hq
    clear hq
    go_enter Try.func3, Try.ntmps3
    go_upto_region 1 with fail
    have hW0s : w.heap.size ≤ (w.alloc (.cells #[.int .i64 n, .slice A bs.length c, .slice A2 cs.length c2] 27)).heap.size := hW.size
    generalize w.alloc (.cells #[.int .i64 n, .slice A bs.length c, .slice A2 cs.length c2] 27) = W at hA hW hW0s ⊢
    have hX0 : w.heap.size ≤ w.heap.size := Nat.le_refl _
    have a0 := hA.c0
    have a1 := hA.c1
    have a2 := hA.c2
    go_upto_region 7 with (go_at_call 15; go_fit (szCase_c 1048576 n A A2 b o c b2 o2 c2 _ bs cs _ (by omega) hl hl2 H3l.out (Nat.le_refl _) hA.rd hA.rc); rintro e w2 ⟨rfl, hb2⟩; rw [H.out]; replace hW := bthen hW hb2; replace hA := hA.below hb2; (try replace h4 := h4.below hb2); (try replace h5 := h5.below hb2); (try replace h6 := h6.below hb2); (try replace own5 := own_below own5 hb2); (try replace hO := hO.below hb2); (try replace own6 := own_below own6 hb2); (try replace ownJ := own_below ownJ hb2); (try replace hJ := (hJ.below hb2).more (Below.size hb2)); clear a0 a1 a2; have a0 := hA.c0; have a1 := hA.c1; have a2 := hA.c2)
    go_upto_region 8 with (first
      | (go_at_call 17; go_fit (toCase_q n bs cs A A2 b o c b2 o2 c2 _ _ hn hn2 H3.out (Nat.le_refl _) hA.rd hA.rc); rintro e w3 ⟨A1, c1, g1, A3, c3, g3, F3, rfl, hr1, hown1, hr3, hown3, hqf3, hb3⟩; replace hW := bthen hW hb3; replace hA := hA.below hb3; (try replace h4 := h4.below hb3); (try replace h5 := h5.below hb3); (try replace h6 := h6.below hb3); (try replace own5 := own_below own5 hb3); (try replace hO := hO.below hb3); (try replace own6 := own_below own6 hb3); (try replace ownJ := own_below ownJ hb3); (try replace hJ := (hJ.below hb3).more (Below.size hb3)))
      | (go_at_call 18; go_fit (toIntS_q Al bl ol cl _ ls _ hn3 (Nat.le_refl _) ((hL0.below hW).more hW.size)); rintro e w31 ⟨A31, c31, g31, rfl, hJ31, ownJ31, hbj31⟩; replace hr1 := (hr1.below hbj31).more hbj31.size; replace hr3 := (hr3.below hbj31).more hbj31.size; replace hW := bthen hW hbj31; replace hA := hA.below hbj31; (try replace h4 := h4.below hbj31); (try replace h5 := h5.below hbj31); (try replace h6 := h6.below hbj31); (try replace own5 := own_below own5 hbj31); (try replace hO := hO.below hbj31); (try replace own6 := own_below own6 hbj31); (try replace ownJ := own_below ownJ hbj31); (try replace hJ := (hJ.below hbj31).more (Below.size hbj31)))
      | (go_at_call 16; go_fit (sWayOf_q n bs cs ls q r Hq.out A1 A3 A31 g1 0 c1 g3 0 c3 g31 0 c31 _ _ hn hn2 H3.out hn3 (Nat.le_refl _) hr1 hr3 hJ31); rintro e w4 ⟨A4, c4, g4, rfl, hr4, hown4, hb4⟩; replace hW := bthen hW hb4; replace hA := hA.below hb4; (try replace h4 := h4.below hb4); (try replace h5 := h5.below hb4); (try replace h6 := h6.below hb4); (try replace own5 := own_below own5 hb4); (try replace hO := hO.below hb4); (try replace own6 := own_below own6 hb4); (try replace ownJ := own_below ownJ hb4); (try replace hJ := (hJ.below hb4).more (Below.size hb4))))
    have h4 := rp_new (n := q.n) (c := c4) (t := 32) hr4
    have hbn : Below w4.heap.size w4 (w4.alloc (.cells #[.int .i64 q.n, .slice A4 q.bs.length c4] 32)) := by go_grown
    replace hW := bthen hW hbn
    replace hA := hA.below hbn
    have hg4 : 0 < q.bs.length → g4 < w4.heap.size := hr4.lt
    have hs4 : w4.heap.size < (w4.alloc (.cells #[.int .i64 q.n, .slice A4 q.bs.length c4] 32)).heap.size := by simp
    generalize w4.alloc (.cells #[.int .i64 q.n, .slice A4 q.bs.length c4] 32) = W4 at hA hW h4 hs4 ⊢
    have hX4 : w4.heap.size < W4.heap.size := hs4
    have hW4 : w.heap.size ≤ w4.heap.size := by have h := hb3.size; have h' := hb4.size; have := hW0s; have h'' := hb2.size; have h3' := hbj31.size; omega
    generalize w4.heap.size = X4 at h4 hg4 hX4 hW4 ⊢
    clear a0 a1 a2 hr1 hown1 hr3 hown3 hr4 hown4 hb2 hb3 hb4 hbn hs4 hJ31 ownJ31 hbj31
    have a0 := hA.c0
    have a1 := hA.c1
    have a2 := hA.c2
    go_upto_region 9 with (go_at_call 17; go_fit (toCase_q n bs cs A A2 b o c b2 o2 c2 _ _ hn hn2 H3.out (Nat.le_refl _) hA.rd hA.rc); rintro e w5 ⟨A5, c5, g5, B5, d5, k5, F5, rfl, hr5, own5, hp5, hO, hqf, hb5⟩; replace hW := bthen hW hb5; replace hA := hA.below hb5; (try replace h4 := h4.below hb5); (try replace h5 := h5.below hb5); (try replace h6 := h6.below hb5); (try replace own5 := own_below own5 hb5); (try replace hO := hO.below hb5); (try replace own6 := own_below own6 hb5); (try replace ownJ := own_below ownJ hb5); (try replace hJ := (hJ.below hb5).more (Below.size hb5)))
    have h5 := rc_new (n := n) (c := c5) (c2 := d5) (t := 37) hr5 hp5
    have hbn : Below w5.heap.size w5 (w5.alloc (.cells #[.int .i64 n, .slice A5 bs.length c5, .slice B5 cs.length d5] 37)) := by go_grown
    replace hW := bthen hW hbn
    replace hA := hA.below hbn
    replace h4 := h4.below hbn
    replace own5 := own_below own5 hbn
    replace hO := hO.below hbn
    have hs5 : w5.heap.size < (w5.alloc (.cells #[.int .i64 n, .slice A5 bs.length c5, .slice B5 cs.length d5] 37)).heap.size := by simp
    have hs45 : W4.heap.size ≤ w5.heap.size := hb5.size
    generalize w5.alloc (.cells #[.int .i64 n, .slice A5 bs.length c5, .slice B5 cs.length d5] 37) = W5 at hA hW h4 h5 own5 hO hs5 ⊢
    generalize w5.heap.size = X5 at h5 hO hs5 hs45 ⊢
    clear a0 a1 a2 hr5 hp5 hb5 hbn
    go_upto_region 10 with (go_at_call 18; go_fit (toIntS_q Al bl ol cl _ ls _ hn3 (Nat.le_refl _) ((hL0.below hW).more hW.size)); rintro e wj ⟨Aj, cj, gj, rfl, hJ, ownJ, hbjj⟩; replace hW := bthen hW hbjj; replace hA := hA.below hbjj; (try replace h4 := h4.below hbjj); (try replace h5 := h5.below hbjj); (try replace h6 := h6.below hbjj); (try replace own5 := own_below own5 hbjj); (try replace hO := hO.below hbjj); (try replace own6 := own_below own6 hbjj); (try replace ownJ := own_below ownJ hbjj); (try replace hJ := (hJ.below hbjj).more (Below.size hbjj)))
    have hqJ : ∀ k, (Value.slice Aj ls.length cj).ownBlock = some k → W5.heap.size ≤ k ∧ k < wj.heap.size := fun k hk => ownJ.lt k hk
    have hsJ : W5.heap.size ≤ wj.heap.size := hbjj.size
    clear hbjj
    have a0 := h5.c0
    have a1 := h5.c1
    have a2 := h5.c2
    go_upto_region 11 with (go_at_call 19; go_fit (wayOf_q n bs cs ls q r Hq.out A5 B5 Aj g5 0 c5 k5 0 d5 gj 0 cj _ _ hn hn2 H3.out hn3 (Nat.le_refl _) h5.rd h5.rc hJ); rintro e w6 ⟨A6, c6, g6, rfl, hr6_, own6, hb6⟩; replace hW := bthen hW hb6; replace hA := hA.below hb6; (try replace h4 := h4.below hb6); (try replace h5 := h5.below hb6); (try replace h6 := h6.below hb6); (try replace own5 := own_below own5 hb6); (try replace hO := hO.below hb6); (try replace own6 := own_below own6 hb6); (try replace ownJ := own_below ownJ hb6); (try replace hJ := (hJ.below hb6).more (Below.size hb6)))
    have h6 := rp_new (n := q.n) (c := c6) (t := 32) hr6_
    have hbn : Below w6.heap.size w6 (w6.alloc (.cells #[.int .i64 q.n, .slice A6 q.bs.length c6] 32)) := by go_grown
    replace hW := bthen hW hbn
    replace hA := hA.below hbn
    replace h4 := h4.below hbn
    replace h5 := h5.below hbn
    have hq6 : ∀ k, (Value.slice A6 q.bs.length c6).ownBlock = some k → wj.heap.size ≤ k ∧ k < w6.heap.size := fun k hk => own6.lt k hk
    have hg6 : 0 < q.bs.length → wj.heap.size ≤ g6 := fun h => (own_at own6 hr6_ h).1
    replace own6 := own_below own6 hbn
    replace own5 := own_below own5 hbn
    replace hO := hO.below hbn
    replace ownJ := own_below ownJ hbn
    replace hJ := (hJ.below hbn).more hbn.size
    have hs6 : w6.heap.size < (w6.alloc (.cells #[.int .i64 q.n, .slice A6 q.bs.length c6] 32)).heap.size := by simp
    have hs56 : W5.heap.size ≤ w6.heap.size := Nat.le_trans hsJ hb6.size
    have hsj6 : wj.heap.size ≤ w6.heap.size := hb6.size
    generalize w6.alloc (.cells #[.int .i64 q.n, .slice A6 q.bs.length c6] 32) = W6 at hA hW h4 h5 h6 own5 hO own6 ownJ hJ hs6 ⊢
    generalize w6.heap.size = X6 at h6 hq6 hs6 hs56 hsj6 ⊢
    clear a0 a1 a2 hr6_ hb6 hbn
    have b40 := h4.c0
    have b41 := h4.c1
    have b60 := h6.c0
    have b61 := h6.c1
    go_upto_region 13 with (go_at_call 20; go_fit (eqPlan_yes q.n q.bs A6 A4 g6 0 c6 g4 0 c4 _ _ hql (Nat.le_refl _) h6.rd h4.rd); rintro e w7 ⟨rfl, hb7⟩; replace hW := bthen hW hb7; replace hA := hA.below hb7; (try replace h4 := h4.below hb7); (try replace h5 := h5.below hb7); (try replace h6 := h6.below hb7); (try replace own5 := own_below own5 hb7); (try replace hO := hO.below hb7); (try replace own6 := own_below own6 hb7); (try replace ownJ := own_below ownJ hb7); (try replace hJ := (hJ.below hb7).more (Below.size hb7)))
    have hs67 : W6.heap.size ≤ w7.heap.size := hb7.size
    clear b40 b41 b60 b61 hb7
    have hX0w := hA.ex
    have hX5w := h5.ex
    have hX0W4 : w.heap.size < W4.heap.size := Nat.lt_of_le_of_lt hW4 hX4
    have a0 := hA.c0
    have a1 := hA.c1
    have a2 := hA.c2
    have e0 := h5.c0
    have e1 := h5.c1
    have e2 := h5.c2
    go_cut [56] (fun s wx => s = .bool false ∧ Below w.heap.size w wx ∧ RC wx w.heap.size b o n A c bs b2 o2 A2 c2 cs ∧ RP wx X4 g4 0 q.n A4 c4 q.bs ∧ RC wx X5 g5 0 n A5 c5 bs k5 0 B5 d5 cs ∧ RP wx X6 g6 0 q.n A6 c6 q.bs ∧ OwnB W4.heap.size wx (.slice A5 bs.length c5) bs ∧ ChO W4.heap.size X5 wx k5 F5 B5 cs ∧ OwnB wj.heap.size wx (.slice A6 q.bs.length c6) q.bs ∧ IntsR wx wx.heap.size gj 0 Aj ls ∧ OwnI W5.heap.size wx (.slice Aj ls.length cj) ls ∧ W6.heap.size ≤ wx.heap.size)
    case first =>
      replace hW := hW.drew
      replace hA := hA.drew
      replace h4 := h4.drew
      replace h5 := h5.drew
      replace h6 := h6.drew
      replace own5 := own_below own5 (show Below w7.heap.size w7 w7.drew by go_grown)
      replace own6 := own_below own6 (show Below w7.heap.size w7 w7.drew by go_grown)
      replace hO := hO.below (show Below w7.heap.size w7 w7.drew by go_grown)
      replace ownJ := own_below ownJ (show Below w7.heap.size w7 w7.drew by go_grown)
      replace hJ : IntsR w7.drew w7.drew.heap.size gj 0 Aj ls := hJ.below (show Below w7.heap.size w7 w7.drew by go_grown)
      have hs7 : W6.heap.size ≤ w7.drew.heap.size := hs67
      go_region_held3 (fun w' => w'.cell? ⟨w.heap.size, 0, none⟩ = some (.int .i64 n) ∧ w'.cell? ⟨w.heap.size, 1, none⟩ = some (.slice A bs.length c) ∧ w'.cell? ⟨w.heap.size, 2, none⟩ = some (.slice A2 cs.length c2) ∧ w'.cell? ⟨X5, 0, none⟩ = some (.int .i64 n) ∧ w'.cell? ⟨X5, 1, none⟩ = some (.slice A5 bs.length c5) ∧ w'.cell? ⟨X5, 2, none⟩ = some (.slice B5 cs.length d5))
        (first
          | (go_split_ands; (repeat' apply And.intro) <;> assumption)
          | exact ⟨hA.c0, hA.c1, hA.c2, h5.c0, h5.c1, h5.c2⟩
          | (go_keep; done))
        (first
          | (go_at_call 17; go_fit (toCase_q n bs cs A A2 b o c b2 o2 c2 _ _ hn hn2 H3.out (Nat.le_refl _) hA.rd hA.rc); rintro e w8 ⟨A9, c9, g9, B9, d9, k9, F9, rfl, hr9, own9, hp9, ownP9, hqf9, hb8⟩; replace hW := bthen hW hb8; replace hA := hA.below hb8; (try replace h4 := h4.below hb8); (try replace h5 := h5.below hb8); (try replace h6 := h6.below hb8); (try replace own5 := own_below own5 hb8); (try replace hO := hO.below hb8); (try replace own6 := own_below own6 hb8); (try replace ownJ := own_below ownJ hb8); (try replace hJ := (hJ.below hb8).more (Below.size hb8)); have hs8 := Nat.le_trans hs7 hb8.size; clear a0 a1 a2 e0 e1 e2; have a0 := hA.c0; have a1 := hA.c1; have a2 := hA.c2; have e0 := h5.c0; have e1 := h5.c1; have e2 := h5.c2)
          | (go_at_call 21; go_fit (eqCase_yes n bs cs A5 A9 B5 B9 g5 0 c5 g9 0 c9 k5 0 d5 k9 0 d9 _ _ hn hn2 H3.out (Nat.le_refl _) h5.rd hr9 h5.rc hp9); rintro e w9 ⟨rfl, hb9⟩; replace hW := bthen hW hb9; replace hA := hA.below hb9; (try replace h4 := h4.below hb9); (try replace h5 := h5.below hb9); (try replace h6 := h6.below hb9); (try replace own5 := own_below own5 hb9); (try replace hO := hO.below hb9); (try replace own6 := own_below own6 hb9); (try replace ownJ := own_below ownJ hb9); (try replace hJ := (hJ.below hb9).more (Below.size hb9)); have hs9 := Nat.le_trans hs8 hb9.size; clear a0 a1 a2 e0 e1 e2; have a0 := hA.c0; have a1 := hA.c1; have a2 := hA.c2; have e0 := h5.c0; have e1 := h5.c1; have e2 := h5.c2))
      go_wp2_with fail
      go_meet
      case rel => exact ⟨rfl, hW, hA, h4, h5, h6, own5, hO, own6, hJ, ownJ, hs9⟩
    case rest =>
      clear hW hA h4 h5 h6 own5 hO own6 hJ ownJ hs67 hX0w hX5w a0 a1 a2 e0 e1 e2
      obtain ⟨rfl, hW, hA, h4, h5, h6, own5, hO, own6, hJ, ownJ, hsc⟩ := hcut
      go_upto_region 17 with (first
        | (go_at_call 18; go_fit (toIntS_q Al bl ol cl _ ls _ hn3 (Nat.le_refl _) ((hL0.below hW).more hW.size)); rintro e wk ⟨Ak, ck, gk, rfl, hJk, ownJk, hbjk⟩; replace hW := bthen hW hbjk; replace hA := hA.below hbjk; (try replace h4 := h4.below hbjk); (try replace h5 := h5.below hbjk); (try replace h6 := h6.below hbjk); (try replace own5 := own_below own5 hbjk); (try replace hO := hO.below hbjk); (try replace own6 := own_below own6 hbjk); (try replace ownJ := own_below ownJ hbjk); (try replace hJ := (hJ.below hbjk).more (Below.size hbjk)); replace hsc := Nat.le_trans hsc hbjk.size)
        | (go_at_call 22; go_fit (eqIntS_yes ls Aj Ak gj 0 cj gk 0 ck _ _ hn3 (Nat.le_refl _) hJ hJk); rintro e wb ⟨rfl, hbb⟩; replace hW := bthen hW hbb; replace hA := hA.below hbb; (try replace h4 := h4.below hbb); (try replace h5 := h5.below hbb); (try replace h6 := h6.below hbb); (try replace own5 := own_below own5 hbb); (try replace hO := hO.below hbb); (try replace own6 := own_below own6 hbb); (try replace ownJ := own_below ownJ hbb); (try replace hJ := (hJ.below hbb).more (Below.size hbb)); replace hsc := Nat.le_trans hsc hbb.size))
      clear hJk ownJk hbjk hbb
      have e0 := h5.c0
      have e1 := h5.c1
      have e2 := h5.c2
      have hlm : ¬ (1 + 3 * (bs.length : Int) + 3 * (sumL cs : Int) + (ls.length : Int)) < 0 := by omega
      have hlq : ¬ (1 + 3 * (q.bs.length : Int)) < 0 := by omega
      go_upto_region 19 with (go_at_call 23; go_fit (markCase_c n 1 W4.heap.size X5 k5 F5 A5 B5 c5 d5 bs cs _ (by omega) hn hn2 H3.out (by omega) own5 hqf hO); rintro e w9 ⟨rfl, hG⟩)
      replace hA := hA.gin hX0W4 (by omega) ((HR.out.below hW).more (by omega)) ((HC.out.below hW).more (by omega)) hG
      replace hW := hG.bel hW (by omega) hW.size
      replace h4 := h4.gin hG (by omega) (fun h => by have := hg4 h; omega)
      replace h6 := h6.gin hG (by omega) (fun h => by have := hg6 h; omega)
      replace own6 : OwnB wj.heap.size w9 (.slice A6 q.bs.length c6) q.bs := own_gin own6 hG (fun k hk e => by have := hq6 k hk; omega)
      replace ownJ : OwnI W5.heap.size w9 (.slice Aj ls.length cj) ls := own_gin ownJ hG (fun k hk e => by have := hqJ k hk; omega)
      replace hsc := Nat.le_trans hsc hG.size
      clear hJ
      go_upto_region 20 with (go_at_call 24; go_fit (markIntS_c (1 + 3 * bs.length + 3 * (sumL cs : Int)) W5.heap.size Aj cj ls _ (by omega) hn3 ownJ (by omega)); rintro e w9b ⟨rfl, ownJ', hGJ⟩)
      have hG7 : GIn W5.heap.size wj.heap.size _ w9b := gin_grown hGJ hqJ
      replace hA := hA.gin (lo := W5.heap.size) (by omega) (by omega) ((HR.out.below hW).more (by omega)) ((HC.out.below hW).more (by omega)) hG7
      replace hW := hG7.bel hW (by omega) hW.size
      replace h4 := h4.gin hG7 (by omega) (fun h => by have := hg4 h; omega)
      replace h6 := h6.gin hG7 (by omega) (fun h => by have := hg6 h; omega)
      replace own6 : OwnB wj.heap.size w9b (.slice A6 q.bs.length c6) q.bs := own_gin own6 hG7 (fun k hk e => by have := hq6 k hk; omega)
      replace hsc := Nat.le_trans hsc hGJ.size
      clear ownJ ownJ'
      clear own5 hO h5 e0 e1 e2
      have b40 := h4.c0
      have b41 := h4.c1
      have b60 := h6.c0
      have b61 := h6.c1
      go_upto_region 23 with (go_at_call 20; go_fit (eqPlan_yes q.n q.bs A6 A4 g6 0 c6 g4 0 c4 _ _ hql (Nat.le_refl _) h6.rd h4.rd); rintro e w10 ⟨rfl, hb10⟩; replace hW := bthen hW hb10; replace hA := hA.below hb10; (try replace h4 := h4.below hb10); (try replace h5 := h5.below hb10); (try replace h6 := h6.below hb10); (try replace own5 := own_below own5 hb10); (try replace hO := hO.below hb10); (try replace own6 := own_below own6 hb10); (try replace ownJ := own_below ownJ hb10); (try replace hJ := (hJ.below hb10).more (Below.size hb10)))
      replace hsc := Nat.le_trans hsc hb10.size
      clear b40 b41 b60 b61 hG hGJ hG7
      have b60 := h6.c0
      have b61 := h6.c1
      go_upto_region 24 with (go_at_call 25; go_fit (markPlan_c q.n 1 wj.heap.size A6 c6 q.bs _ (by omega) hql own6 (by omega)); rintro e w11 ⟨rfl, own6', hG⟩)
      have hG8 : GIn wj.heap.size X6 _ w11 := gin_grown hG hq6
      replace hA := hA.gin (lo := wj.heap.size) (by omega) (by omega) ((HR.out.below hW).more (by omega)) ((HC.out.below hW).more (by omega)) hG8
      replace hW := hG8.bel hW (by omega) hW.size
      replace h4 := h4.gin hG8 (by omega) (fun h => by have := hg4 h; omega)
      obtain ⟨gm, h5⟩ : ∃ gm, RP w11 X6 gm 0 q.n A6 c6 (marks 1 q.bs.length) := by
        have hml := marks_length 1 q.bs.length
        obtain ⟨gm, hrm⟩ : ∃ gm, BdsR w11 w11.heap.size gm 0 A6 (marks 1 q.bs.length) := OwnB.readsA (c := c6) (by rw [hml]; exact own6')
        have hne : some X6 ≠ (Value.slice A6 q.bs.length c6).ownBlock := fun e => by have := hq6 _ e.symm; omega
        exact ⟨gm, Nat.lt_of_lt_of_le h6.ex hG.size, hG.cell h6.c0 hne, by rw [hml]; exact hG.cell h6.c1 hne, hrm⟩
      clear own6 own6' h6 hG hG8 b60 b61 hqf hq6 hg6
      have b60 := h5.c0
      have b61 := h5.c1
      rw [marks_length] at b61
      go_upto_region 30 with (go_at_call 26; go_fit (heldPlan_c q.n 1 A6 gm 0 c6 q.bs.length _ _ (by omega) hql (Nat.le_refl _) h5.rd); rintro e w12 ⟨rfl, hb12⟩; replace hW := bthen hW hb12; replace hA := hA.below hb12; (try replace h4 := h4.below hb12); (try replace h5 := h5.below hb12); (try replace h6 := h6.below hb12); (try replace own5 := own_below own5 hb12); (try replace hO := hO.below hb12); (try replace own6 := own_below own6 hb12); (try replace ownJ := own_below ownJ hb12); (try replace hJ := (hJ.below hb12).more (Below.size hb12)))
      clear b60 b61 hb12
      have a0 := hA.c0
      have a1 := hA.c1
      have a2 := hA.c2
      go_upto_region 31 with (first
        | (go_at_call 17; go_fit (toCase_q n bs cs A A2 b o c b2 o2 c2 _ _ hn hn2 H3.out (Nat.le_refl _) hA.rd hA.rc); rintro e w13 ⟨A7, c7, g7, B7, d7, k7, F7, rfl, hr7, own7, hp7, ownP7, hqf7, hb13⟩; replace hW := bthen hW hb13; replace hA := hA.below hb13; (try replace h4 := h4.below hb13); (try replace h5 := h5.below hb13); (try replace h6 := h6.below hb13); (try replace own5 := own_below own5 hb13); (try replace hO := hO.below hb13); (try replace own6 := own_below own6 hb13); (try replace ownJ := own_below ownJ hb13); (try replace hJ := (hJ.below hb13).more (Below.size hb13)))
        | (go_at_call 18; go_fit (toIntS_q Al bl ol cl _ ls _ hn3 (Nat.le_refl _) ((hL0.below hW).more hW.size)); rintro e w71 ⟨A71, c71, g71, rfl, hJ71, ownJ71, hbj71⟩; replace hr7 := (hr7.below hbj71).more hbj71.size; replace hp7 := (hp7.below hbj71).more hbj71.size; replace hW := bthen hW hbj71; replace hA := hA.below hbj71; (try replace h4 := h4.below hbj71); (try replace h5 := h5.below hbj71); (try replace h6 := h6.below hbj71); (try replace own5 := own_below own5 hbj71); (try replace hO := hO.below hbj71); (try replace own6 := own_below own6 hbj71); (try replace ownJ := own_below ownJ hbj71); (try replace hJ := (hJ.below hbj71).more (Below.size hbj71)))
        | (go_at_call 19; go_fit (wayOf_q n bs cs ls q r Hq.out A7 B7 A71 g7 0 c7 k7 0 d7 g71 0 c71 _ _ hn hn2 H3.out hn3 (Nat.le_refl _) hr7 hp7 hJ71); rintro e w14 ⟨A8, c8, g8, rfl, hr8, own8, hb14⟩; replace hW := bthen hW hb14; replace hA := hA.below hb14; (try replace h4 := h4.below hb14); (try replace h5 := h5.below hb14); (try replace h6 := h6.below hb14); (try replace own5 := own_below own5 hb14); (try replace hO := hO.below hb14); (try replace own6 := own_below own6 hb14); (try replace ownJ := own_below ownJ hb14); (try replace hJ := (hJ.below hb14).more (Below.size hb14))))
      have h6 := rp_new (n := q.n) (c := c8) (t := 32) hr8
      have hbn : Below w14.heap.size w14 (w14.alloc (.cells #[.int .i64 q.n, .slice A8 q.bs.length c8] 32)) := by go_grown
      replace hW := bthen hW hbn
      replace h4 := h4.below hbn
      replace h5 := h5.below hbn
      generalize w14.alloc (.cells #[.int .i64 q.n, .slice A8 q.bs.length c8] 32) = W14 at hW h4 h5 h6 ⊢
      generalize w14.heap.size = X10 at h6 ⊢
      clear a0 a1 a2 hr7 hr8 own7 own8 hp7 ownP7 hb13 hb14 hbn hA
      have b40 := h4.c0
      have b41 := h4.c1
      have b60 := h6.c0
      have b61 := h6.c1
      go_upto_region 34 with (go_at_call 20; go_fit (eqPlan_yes q.n q.bs A8 A4 g8 0 c8 g4 0 c4 _ _ hql (Nat.le_refl _) h6.rd h4.rd); rintro e w15 ⟨rfl, hb15⟩; replace hW := bthen hW hb15; replace h5 := h5.below hb15)
      clear b40 b41 b60 b61 hb15 h4 h6
      have b60 := h5.c0
      have b61 := h5.c1
      rw [marks_length] at b61
      go_wp2_with (go_at_call 26; go_fit (heldPlan_c q.n 1 A6 gm 0 c6 q.bs.length _ _ (by omega) hql (Nat.le_refl _) h5.rd); rintro e w16 ⟨rfl, hb16⟩; replace hW := bthen hW hb16)
      go_ret
      exact ⟨rfl, hW⟩
end Go.Proofs.Ytledgblepdjjlaa
