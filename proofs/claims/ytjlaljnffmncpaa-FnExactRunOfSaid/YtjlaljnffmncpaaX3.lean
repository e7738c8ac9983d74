/-
  The law of ExactRunOf: its walk.
-/
import Derived.Test.YtjlaljnffmncpaaE4
import Derived.Test.YtjlaljnffmncpaaS12
namespace Go.Proofs.Ytjlaljnffmncpaa
set_option linter.unusedVariables false
set_option linter.unusedSimpArgs false
open Go.RowKit Pp

theorem ownI_kept3 {W W' : World} {base k0 k1 j0 j1 c : Nat} {A : Option Addr} {xs : List Int} {v : Value} (h : OwnI base W (.slice A xs.length c) xs) (hG : W.grownBy W' v.ownBlock) (hv : ∀ k, v.ownBlock = some k → k0 ≤ k ∧ k < k1) (hA : ∀ k, (Value.slice A xs.length c).ownBlock = some k → j0 ≤ k ∧ k < j1) (hk : k1 ≤ j0) : OwnI base W' (.slice A xs.length c) xs :=
  h.kept hG (by
    cases hk6 : (Value.slice A xs.length c).ownBlock with
    | none => exact .inl rfl
    | some k6 =>
      refine .inr (fun e => ?_)
      have h1 := hv k6 e.symm
      have h2 := hA k6 hk6
      omega)
theorem drew_bel3 (w : World) : Below w.heap.size w w.drew := by go_grown
set_option maxHeartbeats 8000000 in
set_option maxRecDepth 100000 in
theorem exactRunOf_c (n : Int) (bs : List Bd) (xs : List Int) (A A' : Option Addr) (b o c b' o' c' : Nat) (w : World) (hl : bs.length ≤ 9223372036854775807) (hl' : xs.length ≤ 9223372036854775807) (hR : BdsR w w.heap.size b o A bs) (hR' : IntsR w w.heap.size b' o' A' xs) (hx : ∀ (j : Nat) (y : Int), xs[j]? = some y → -9223372036854775808 ≤ y ∧ y ≤ 9223372036854775807) :
    Calls Try.prog 14 #[.agg #[.int .i64 n, .slice A bs.length c], .slice A' xs.length c'] w fun e w' => e = .returned (.bool true) ∧ Below w.heap.size w w' := by
  have hA := rp_new (n := n) (c := c) (t := 62) hR
  have hW : Below w.heap.size w (w.alloc (.cells #[.int .i64 n, .slice A bs.length c] 62)) := by go_grown
  have hlA : 0 < bs.length → b < w.heap.size := hR.lt
  clear hR
  by_cases hlx : (1048576 : Int) < (xs.length : Int)
  · go_enter Try.func14, Try.ntmps14
    go_wp2_with fail
    go_ret
    exact ⟨rfl, hW⟩
  · have hl3 : xs.length ≤ 2000000 := by omega
    by_cases hlen : (1048576 : Int) - (bs.length : Int) < 0
    · have H : Hid ((if (1048576 : Int) - (bs.length : Int) < 0 then (-1 : Int) else 1048576 - (bs.length : Int)) = -1) := if_pos hlen
      clear hlen
      go_enter Try.func14, Try.ntmps14
      go_wp2_with (go_at_call 51; go_fit (szPlan_c 1048576 n A bs.length c _ (by omega) hl); rintro e w2 ⟨rfl, hb2⟩; rw [H.out])
      go_ret
      exact ⟨rfl, bthen hW hb2⟩
    · obtain ⟨r, hr⟩ : ∃ r, (1048576 : Int) - (bs.length : Int) = r := ⟨_, rfl⟩
      have H : Hid ((if (1048576 : Int) - (bs.length : Int) < 0 then (-1 : Int) else 1048576 - (bs.length : Int)) = r) := by rw [if_neg hlen]; exact hr
      have hr0 : ¬ r < 0 := by omega
      have hl2 : bs.length ≤ 2000000 := by omega
      clear hr hlen
      obtain ⟨q, ok, hq⟩ : ∃ q ok, runOf ⟨n, bs⟩ xs = (q, ok) := ⟨_, _, rfl⟩
      have Hq := hide hq
      have hql : q.done.length ≤ 2000000 := by
        unfold runOf at hq
        split at hq
        · rename_i hf
          injection hq with e1 e2
          have h := (stateOk_iff.1 (runTo_ok hf xs (nn ⟨n, bs⟩))).len
          have h6 := (nn_ok (planOk_of_fits hf)).1
          rw [e1] at h
          omega
        · injection hq with e1 e2; subst e1; exact Nat.zero_le _
      clear hq
      go_enter Try.func14, Try.ntmps14
      go_upto_region 1 with fail
      have hX0 : w.heap.size < (w.alloc (.cells #[.int .i64 n, .slice A bs.length c] 62)).heap.size := by simp
      generalize w.alloc (.cells #[.int .i64 n, .slice A bs.length c] 62) = W at hW hA hX0 ⊢
      have a0 := hA.c0
      have a1 := hA.c1
      go_upto_region 7 with (go_at_call 51; go_fit (szPlan_c 1048576 n A bs.length c _ (by omega) hl); rintro e w2 ⟨rfl, hb2⟩; rw [H.out]; replace hW := bthen hW hb2; replace hA := hA.below hb2; (try replace h4 := h4.below hb2); (try replace h5 := h5.below hb2); (try replace h7 := h7.below hb2); (try replace hI6 := (hI6.below hb2).more (Below.size hb2)); (try replace own5 := own_below own5 hb2); (try replace own6 := own_below own6 hb2); (try replace own7 := own_below own7 hb2); (try replace hr1 := (hr1.below hb2).more (Below.size hb2)); (try replace hr2 := (hr2.below hb2).more (Below.size hb2)); (try replace hs7 := Nat.le_trans hs7 (Below.size hb2)); clear a0 a1; have a0 := hA.c0; have a1 := hA.c1)
      go_upto_region 8 with (first
        | (go_at_call 52; go_fit (toPlan_q n bs A b o c _ _ hl2 (Nat.le_refl _) hA.rd); rintro e w3 ⟨A1, c1, g1, rfl, hr1, hown1, hb3⟩; replace hW := bthen hW hb3; replace hA := hA.below hb3; (try replace h4 := h4.below hb3); (try replace h5 := h5.below hb3); (try replace h7 := h7.below hb3); (try replace hI6 := (hI6.below hb3).more (Below.size hb3)); (try replace own5 := own_below own5 hb3); (try replace own6 := own_below own6 hb3); (try replace own7 := own_below own7 hb3); (try replace hr1 := (hr1.below hb3).more (Below.size hb3)); (try replace hr2 := (hr2.below hb3).more (Below.size hb3)); (try replace hs7 := Nat.le_trans hs7 (Below.size hb3)); clear a0 a1; have a0 := hA.c0; have a1 := hA.c1)
        | (go_at_call 76; go_fit (toIntS_q A' b' o' c' _ xs _ hl3 hW.size (hR'.below hW)); rintro e w4 ⟨A2, c2, g2, rfl, hr2, hown2, hb4⟩; replace hW := bthen hW hb4; replace hA := hA.below hb4; (try replace h4 := h4.below hb4); (try replace h5 := h5.below hb4); (try replace h7 := h7.below hb4); (try replace hI6 := (hI6.below hb4).more (Below.size hb4)); (try replace own5 := own_below own5 hb4); (try replace own6 := own_below own6 hb4); (try replace own7 := own_below own7 hb4); (try replace hr1 := (hr1.below hb4).more (Below.size hb4)); (try replace hr2 := (hr2.below hb4).more (Below.size hb4)); (try replace hs7 := Nat.le_trans hs7 (Below.size hb4)); clear a0 a1; have a0 := hA.c0; have a1 := hA.c1)
        | (go_at_call 68; go_fit (sRunOf_c ⟨n, bs⟩ xs q ok Hq.out hx A1 A2 g1 0 c1 g2 0 c2 _ _ hl2 hl3 (Nat.le_refl _) hr1 hr2); rintro e w5 ⟨A3, c3, g3, rfl, hr3, hown3, hb5⟩; replace hW := bthen hW hb5; replace hA := hA.below hb5; (try replace h4 := h4.below hb5); (try replace h5 := h5.below hb5); (try replace h7 := h7.below hb5); (try replace hI6 := (hI6.below hb5).more (Below.size hb5)); (try replace own5 := own_below own5 hb5); (try replace own6 := own_below own6 hb5); (try replace own7 := own_below own7 hb5); (try replace hr1 := (hr1.below hb5).more (Below.size hb5)); (try replace hr2 := (hr2.below hb5).more (Below.size hb5)); (try replace hs7 := Nat.le_trans hs7 (Below.size hb5)); clear a0 a1; have a0 := hA.c0; have a1 := hA.c1))
      clear hr1 hr2 hown1 hown2 hown3
      have h4 := rs_new (n := q.now) (c := c3) (t := 70) hr3
      have hbn : Below w5.heap.size w5 (w5.alloc (.cells #[.int .i64 q.now, .slice A3 q.done.length c3] 70)) := by go_grown
      have hg2 : 0 < q.done.length → g3 < w5.heap.size := hr3.lt
      have hX4s : w5.heap.size < (w5.alloc (.cells #[.int .i64 q.now, .slice A3 q.done.length c3] 70)).heap.size := by simp
      have hX4 : w.heap.size < w5.heap.size := hA.ex
      replace hW := bthen hW hbn; replace hA := hA.below hbn; (try replace h4 := h4.below hbn); (try replace h5 := h5.below hbn); (try replace h7 := h7.below hbn); (try replace hI6 := (hI6.below hbn).more (Below.size hbn)); (try replace own5 := own_below own5 hbn); (try replace own6 := own_below own6 hbn); (try replace own7 := own_below own7 hbn); (try replace hr1 := (hr1.below hbn).more (Below.size hbn)); (try replace hr2 := (hr2.below hbn).more (Below.size hbn)); (try replace hs7 := Nat.le_trans hs7 (Below.size hbn))
      generalize w5.alloc (.cells #[.int .i64 q.now, .slice A3 q.done.length c3] 70) = W4 at hW hA h4 hX4s ⊢
      generalize w5.heap.size = X4 at h4 hg2 hX4s hX4 ⊢
      clear hr3 hb3 hb4 hb5 hbn hb2 hX0
      clear a0 a1; have a0 := hA.c0; have a1 := hA.c1
      go_upto_region 9 with (go_at_call 52; go_fit (toPlan_q n bs A b o c _ _ hl2 (Nat.le_refl _) hA.rd); rintro e w5 ⟨A5, c5, g5, rfl, hr5, own5, hb5⟩; replace hW := bthen hW hb5; replace hA := hA.below hb5; (try replace h4 := h4.below hb5); (try replace h5 := h5.below hb5); (try replace h7 := h7.below hb5); (try replace hI6 := (hI6.below hb5).more (Below.size hb5)); (try replace own5 := own_below own5 hb5); (try replace own6 := own_below own6 hb5); (try replace own7 := own_below own7 hb5); (try replace hr1 := (hr1.below hb5).more (Below.size hb5)); (try replace hr2 := (hr2.below hb5).more (Below.size hb5)); (try replace hs7 := Nat.le_trans hs7 (Below.size hb5)); clear a0 a1; have a0 := hA.c0; have a1 := hA.c1)
      have h5 := rp_new (n := n) (c := c5) (t := 25) hr5
      have hbn : Below w5.heap.size w5 (w5.alloc (.cells #[.int .i64 n, .slice A5 bs.length c5] 25)) := by go_grown
      have hq5 : ∀ k, (Value.slice A5 bs.length c5).ownBlock = some k → W4.heap.size ≤ k ∧ k < w5.heap.size := fun k hk => own5.lt k hk
      replace hW := bthen hW hbn; replace hA := hA.below hbn; (try replace h4 := h4.below hbn); (try replace h5 := h5.below hbn); (try replace h7 := h7.below hbn); (try replace hI6 := (hI6.below hbn).more (Below.size hbn)); (try replace own5 := own_below own5 hbn); (try replace own6 := own_below own6 hbn); (try replace own7 := own_below own7 hbn); (try replace hr1 := (hr1.below hbn).more (Below.size hbn)); (try replace hr2 := (hr2.below hbn).more (Below.size hbn)); (try replace hs7 := Nat.le_trans hs7 (Below.size hbn))
      have hs5 : w5.heap.size < (w5.alloc (.cells #[.int .i64 n, .slice A5 bs.length c5] 25)).heap.size := by simp
      have hs45 : W4.heap.size ≤ w5.heap.size := hb5.size
      generalize w5.alloc (.cells #[.int .i64 n, .slice A5 bs.length c5] 25) = W5 at hW hA h4 h5 own5 hs5 ⊢
      generalize w5.heap.size = X5 at h5 hq5 hs5 hs45 ⊢
      clear hr5 hb5 hbn
      clear a0 a1
      have e0 := h5.c0
      have e1 := h5.c1
      go_upto_region 10 with (go_at_call 76; go_fit (toIntS_q A' b' o' c' _ xs _ hl3 hW.size (hR'.below hW)); rintro e w6 ⟨A6, c6, g6, rfl, hI6, own6, hb6⟩; replace hW := bthen hW hb6; replace hA := hA.below hb6; (try replace h4 := h4.below hb6); (try replace h5 := h5.below hb6); (try replace h7 := h7.below hb6); (try replace hI6 := (hI6.below hb6).more (Below.size hb6)); (try replace own5 := own_below own5 hb6); (try replace own6 := own_below own6 hb6); (try replace own7 := own_below own7 hb6); (try replace hr1 := (hr1.below hb6).more (Below.size hb6)); (try replace hr2 := (hr2.below hb6).more (Below.size hb6)); (try replace hs7 := Nat.le_trans hs7 (Below.size hb6)); clear e0 e1; have e0 := h5.c0; have e1 := h5.c1)
      have hq6 : ∀ k, (Value.slice A6 xs.length c6).ownBlock = some k → W5.heap.size ≤ k ∧ k < w6.heap.size := fun k hk => own6.lt k hk
      have hg6 : 0 < xs.length → W5.heap.size ≤ g6 := fun h => (ownI_at own6 hI6 h).1
      have hs56 : W5.heap.size ≤ w6.heap.size := hb6.size
      go_upto_region 11 with (go_at_call 67; go_fit (runOf_c ⟨n, bs⟩ xs q ok Hq.out hx A5 A6 g5 0 c5 g6 0 c6 _ _ hl2 hl3 (Nat.le_refl _) h5.rd hI6); rintro e w7 ⟨A7, c7, g7, rfl, hr7, own7, hb7⟩; replace hW := bthen hW hb7; replace hA := hA.below hb7; (try replace h4 := h4.below hb7); (try replace h5 := h5.below hb7); (try replace h7 := h7.below hb7); (try replace hI6 := (hI6.below hb7).more (Below.size hb7)); (try replace own5 := own_below own5 hb7); (try replace own6 := own_below own6 hb7); (try replace own7 := own_below own7 hb7); (try replace hr1 := (hr1.below hb7).more (Below.size hb7)); (try replace hr2 := (hr2.below hb7).more (Below.size hb7)); (try replace hs7 := Nat.le_trans hs7 (Below.size hb7)))
      have h7 := rs_new (n := q.now) (c := c7) (t := 70) hr7
      have hbn : Below w7.heap.size w7 (w7.alloc (.cells #[.int .i64 q.now, .slice A7 q.done.length c7] 70)) := by go_grown
      have hq7 : ∀ k, (Value.slice A7 q.done.length c7).ownBlock = some k → w6.heap.size ≤ k ∧ k < w7.heap.size := fun k hk => own7.lt k hk
      have hg7 : 0 < q.done.length → w6.heap.size ≤ g7 := fun h => (ownI_at own7 hr7 h).1
      replace hW := bthen hW hbn; replace hA := hA.below hbn; (try replace h4 := h4.below hbn); (try replace h5 := h5.below hbn); (try replace h7 := h7.below hbn); (try replace hI6 := (hI6.below hbn).more (Below.size hbn)); (try replace own5 := own_below own5 hbn); (try replace own6 := own_below own6 hbn); (try replace own7 := own_below own7 hbn); (try replace hr1 := (hr1.below hbn).more (Below.size hbn)); (try replace hr2 := (hr2.below hbn).more (Below.size hbn)); (try replace hs7 := Nat.le_trans hs7 (Below.size hbn))
      have hs7 : w7.heap.size < (w7.alloc (.cells #[.int .i64 q.now, .slice A7 q.done.length c7] 70)).heap.size := by simp
      have hs67 : w6.heap.size ≤ w7.heap.size := hb7.size
      generalize w7.alloc (.cells #[.int .i64 q.now, .slice A7 q.done.length c7] 70) = W7 at hW hA h4 h5 h7 hI6 own5 own6 own7 hs7 ⊢
      generalize w7.heap.size = X7 at h7 hq7 hs7 hs67 ⊢
      clear hr7 hb7 hbn e0 e1 hb6
      have i40 := h4.c0
      have i41 := h4.c1
      have i70 := h7.c0
      have i71 := h7.c1
      go_upto_region 13 with (go_at_call 73; go_fit (eqState_yes q.now q.done A7 A3 g7 0 c7 g3 0 c3 _ _ hql (Nat.le_refl _) h7.rd h4.rd); rintro e w8 ⟨rfl, hb8⟩; replace hW := bthen hW hb8; replace hA := hA.below hb8; (try replace h4 := h4.below hb8); (try replace h5 := h5.below hb8); (try replace h7 := h7.below hb8); (try replace hI6 := (hI6.below hb8).more (Below.size hb8)); (try replace own5 := own_below own5 hb8); (try replace own6 := own_below own6 hb8); (try replace own7 := own_below own7 hb8); (try replace hr1 := (hr1.below hb8).more (Below.size hb8)); (try replace hr2 := (hr2.below hb8).more (Below.size hb8)); (try replace hs7 := Nat.le_trans hs7 (Below.size hb8)))
      clear i40 i41 i70 i71 hb8
      have a0 := hA.c0
      have a1 := hA.c1
      have e0 := h5.c0
      have e1 := h5.c1
      go_cut [56] (fun s wx => s = .bool false ∧ Below w8.heap.size w8 wx)
      case first =>
        replace hA := hA.drew
        replace h5 := h5.drew
        go_region_held3 (fun w' => w'.cell? ⟨w.heap.size, 0, none⟩ = some (.int .i64 n) ∧ w'.cell? ⟨w.heap.size, 1, none⟩ = some (.slice A bs.length c) ∧ w'.cell? ⟨X5, 0, none⟩ = some (.int .i64 n) ∧ w'.cell? ⟨X5, 1, none⟩ = some (.slice A5 bs.length c5))
          (first
            | (go_split_ands; (repeat' apply And.intro) <;> assumption)
            | exact ⟨hA.c0, hA.c1, h5.c0, h5.c1⟩
            | (go_keep; done))
          (first
            | (go_at_call 52; go_fit (toPlan_q n bs A b o c _ _ hl2 (Nat.le_refl _) hA.rd); rintro e w9 ⟨A9, c9, g9, rfl, hr9, own9, hb9⟩; replace hA := hA.below hb9; replace h5 := h5.below hb9; have hB9 := bthen (drew_bel3 w8) hb9; clear a0 a1 e0 e1; have a0 := hA.c0; have a1 := hA.c1; have e0 := h5.c0; have e1 := h5.c1)
            | (go_at_call 53; go_fit (eqPlan_yes n bs A5 A9 g5 0 c5 g9 0 c9 _ _ hl2 (Nat.le_refl _) h5.rd hr9); rintro e w10 ⟨rfl, hb10⟩; replace hA := hA.below hb10; replace h5 := h5.below hb10; have hB10 := bthen hB9 hb10; clear a0 a1 e0 e1; have a0 := hA.c0; have a1 := hA.c1; have e0 := h5.c0; have e1 := h5.c1))
        go_wp2_with fail
        go_meet
        case rel => exact ⟨rfl, hB10⟩
      case rest =>
        obtain ⟨rfl, hbc⟩ := hcut
        replace hW := bthen hW hbc; replace hA := hA.below hbc; (try replace h4 := h4.below hbc); (try replace h5 := h5.below hbc); (try replace h7 := h7.below hbc); (try replace hI6 := (hI6.below hbc).more (Below.size hbc)); (try replace own5 := own_below own5 hbc); (try replace own6 := own_below own6 hbc); (try replace own7 := own_below own7 hbc); (try replace hr1 := (hr1.below hbc).more (Below.size hbc)); (try replace hr2 := (hr2.below hbc).more (Below.size hbc)); (try replace hs7 := Nat.le_trans hs7 (Below.size hbc))
        clear a0 a1 e0 e1 hbc
        go_upto_region 17 with (first
          | (go_at_call 76; go_fit (toIntS_q A' b' o' c' _ xs _ hl3 hW.size (hR'.below hW)); rintro e w9 ⟨A9, c9, g9, rfl, hr1, own9, hb9⟩; replace hW := bthen hW hb9; replace hA := hA.below hb9; (try replace h4 := h4.below hb9); (try replace h5 := h5.below hb9); (try replace h7 := h7.below hb9); (try replace hI6 := (hI6.below hb9).more (Below.size hb9)); (try replace own5 := own_below own5 hb9); (try replace own6 := own_below own6 hb9); (try replace own7 := own_below own7 hb9); (try replace hr1 := (hr1.below hb9).more (Below.size hb9)); (try replace hr2 := (hr2.below hb9).more (Below.size hb9)); (try replace hs7 := Nat.le_trans hs7 (Below.size hb9)))
          | (go_at_call 77; go_fit (eqIntS_yes xs A6 A9 g6 0 c6 g9 0 c9 _ _ hl3 (Nat.le_refl _) hI6 hr1); rintro e w16 ⟨rfl, hb16⟩; replace hW := bthen hW hb16; replace hA := hA.below hb16; (try replace h4 := h4.below hb16); (try replace h5 := h5.below hb16); (try replace h7 := h7.below hb16); (try replace hI6 := (hI6.below hb16).more (Below.size hb16)); (try replace own5 := own_below own5 hb16); (try replace own6 := own_below own6 hb16); (try replace own7 := own_below own7 hb16); (try replace hr1 := (hr1.below hb16).more (Below.size hb16)); (try replace hr2 := (hr2.below hb16).more (Below.size hb16)); (try replace hs7 := Nat.le_trans hs7 (Below.size hb16))))
        clear hr1 own9 hb9 hb16
        have hlm1 : (0 : Int) ≤ 1 + 3 * (bs.length : Int) := by omega
        have hlm2 : 1 + 3 * (bs.length : Int) ≤ 1000000000000 := by omega
        have hlm : ¬ (1 + 3 * (bs.length : Int) + (xs.length : Int)) < 0 := by omega
        have hlq : ¬ (1 + (q.done.length : Int)) < 0 := by omega
        have e0 := h5.c0
        have e1 := h5.c1
        go_upto_region 19 with (go_at_call 54; go_fit (markPlan_c n 1 _ A5 c5 bs _ (by omega) hl2 own5 (by omega)); rintro e w19 ⟨rfl, own5', hG⟩)
        replace hW := hW.grown hG hW.size (fun k hk => by have := hq5 k hk; omega)
        replace hA := hA.grown hG (fun e => by have := hq5 _ e.symm; omega) (fun h e => by have := hq5 _ e.symm; have := hlA h; omega)
        replace h4 := h4.grown hG (fun e => by have := hq5 _ e.symm; omega) (fun h e => by have := hq5 _ e.symm; have := hg2 h; omega)
        replace h7 := h7.grown hG (fun e => by have := hq5 _ e.symm; omega) (fun h e => by have := hq5 _ e.symm; have := hg7 h; omega)
        replace own6 := ownI_kept3 own6 hG hq5 hq6 (by omega)
        replace own7 := ownI_kept3 own7 hG hq5 hq7 (by omega)
        replace hs7 := Nat.le_trans hs7 hG.size
        clear own5 own5' h5 e0 e1 hG hI6
        go_upto_region 20 with (go_at_call 78; go_fit (markIntS_c (1 + 3 * (bs.length : Int)) _ A6 c6 xs _ ⟨hlm1, hlm2⟩ hl3 own6 (by omega)); rintro e w20 ⟨rfl, own6', hG⟩)
        replace hW := hW.grown hG hW.size (fun k hk => by have := hq6 k hk; omega)
        replace hA := hA.grown hG (fun e => by have := hq6 _ e.symm; omega) (fun h e => by have := hq6 _ e.symm; have := hlA h; omega)
        replace h4 := h4.grown hG (fun e => by have := hq6 _ e.symm; omega) (fun h e => by have := hq6 _ e.symm; have := hg2 h; omega)
        replace h7 := h7.grown hG (fun e => by have := hq6 _ e.symm; omega) (fun h e => by have := hq6 _ e.symm; have := hg7 h; omega)
        replace own7 := ownI_kept3 own7 hG hq6 hq7 (by omega)
        replace hs7 := Nat.le_trans hs7 hG.size
        clear own6 own6' hG
        have i40 := h4.c0
        have i41 := h4.c1
        have i70 := h7.c0
        have i71 := h7.c1
        go_upto_region 23 with (go_at_call 73; go_fit (eqState_yes q.now q.done A7 A3 g7 0 c7 g3 0 c3 _ _ hql (Nat.le_refl _) h7.rd h4.rd); rintro e w21 ⟨rfl, hb21⟩; replace hW := bthen hW hb21; replace hA := hA.below hb21; (try replace h4 := h4.below hb21); (try replace h5 := h5.below hb21); (try replace h7 := h7.below hb21); (try replace hI6 := (hI6.below hb21).more (Below.size hb21)); (try replace own5 := own_below own5 hb21); (try replace own6 := own_below own6 hb21); (try replace own7 := own_below own7 hb21); (try replace hr1 := (hr1.below hb21).more (Below.size hb21)); (try replace hr2 := (hr2.below hb21).more (Below.size hb21)); (try replace hs7 := Nat.le_trans hs7 (Below.size hb21)))
        clear i40 i41 i70 i71 hb21
        have i70 := h7.c0
        have i71 := h7.c1
        go_upto_region 24 with (go_at_call 74; go_fit (markState_c q.now 1 _ A7 c7 q.done _ (by omega) hql own7 (by omega)); rintro e w24 ⟨rfl, own7', hG⟩)
        replace hW := hW.grown hG hW.size (fun k hk => by have := hq7 k hk; omega)
        replace hA := hA.grown hG (fun e => by have := hq7 _ e.symm; omega) (fun h e => by have := hq7 _ e.symm; have := hlA h; omega)
        replace h4 := h4.grown hG (fun e => by have := hq7 _ e.symm; omega) (fun h e => by have := hq7 _ e.symm; have := hg2 h; omega)
        obtain ⟨gm, h5⟩ : ∃ gm, RS w24 X7 gm 0 q.now A7 c7 (markI 1 q.done.length) := by
          have hml := markI_length 1 q.done.length
          obtain ⟨gm, hrm⟩ : ∃ gm, IntsR w24 w24.heap.size gm 0 A7 (markI 1 q.done.length) := own_IntsR (c := c7) (by rw [hml]; exact own7')
          have hne : some X7 ≠ (Value.slice A7 q.done.length c7).ownBlock := fun e => by have := hq7 _ e.symm; omega
          exact ⟨gm, Nat.lt_of_lt_of_le h7.ex hG.size, hG.cell h7.c0 hne, by rw [hml]; exact hG.cell h7.c1 hne, hrm⟩
        clear own7 own7' h7 hG i70 i71 hq5 hq6 hq7 hg6 hg7
        have i70 := h5.c0
        have i71 := h5.c1
        rw [markI_length] at i71
        go_upto_region 30 with (go_at_call 75; go_fit (heldState_c q.now 1 A7 gm 0 c7 q.done.length _ _ (by omega) hql (Nat.le_refl _) h5.rd); rintro e w26 ⟨rfl, hb26⟩; replace hW := bthen hW hb26; replace hA := hA.below hb26; (try replace h4 := h4.below hb26); (try replace h5 := h5.below hb26); (try replace h7 := h7.below hb26); (try replace hI6 := (hI6.below hb26).more (Below.size hb26)); (try replace own5 := own_below own5 hb26); (try replace own6 := own_below own6 hb26); (try replace own7 := own_below own7 hb26); (try replace hr1 := (hr1.below hb26).more (Below.size hb26)); (try replace hr2 := (hr2.below hb26).more (Below.size hb26)); (try replace hs7 := Nat.le_trans hs7 (Below.size hb26)))
        clear i70 i71 hb26
        have a0 := hA.c0
        have a1 := hA.c1
        go_upto_region 31 with (first
          | (go_at_call 52; go_fit (toPlan_q n bs A b o c _ _ hl2 (Nat.le_refl _) hA.rd); rintro e w3 ⟨A1, c1, g1, rfl, hr1, hown1, hb3⟩; replace hW := bthen hW hb3; replace hA := hA.below hb3; (try replace h4 := h4.below hb3); (try replace h5 := h5.below hb3); (try replace h7 := h7.below hb3); (try replace hI6 := (hI6.below hb3).more (Below.size hb3)); (try replace own5 := own_below own5 hb3); (try replace own6 := own_below own6 hb3); (try replace own7 := own_below own7 hb3); (try replace hr1 := (hr1.below hb3).more (Below.size hb3)); (try replace hr2 := (hr2.below hb3).more (Below.size hb3)); (try replace hs7 := Nat.le_trans hs7 (Below.size hb3)); clear a0 a1; have a0 := hA.c0; have a1 := hA.c1)
          | (go_at_call 76; go_fit (toIntS_q A' b' o' c' _ xs _ hl3 hW.size (hR'.below hW)); rintro e w4 ⟨A2, c2, g2, rfl, hr2, hown2, hb4⟩; replace hW := bthen hW hb4; replace hA := hA.below hb4; (try replace h4 := h4.below hb4); (try replace h5 := h5.below hb4); (try replace h7 := h7.below hb4); (try replace hI6 := (hI6.below hb4).more (Below.size hb4)); (try replace own5 := own_below own5 hb4); (try replace own6 := own_below own6 hb4); (try replace own7 := own_below own7 hb4); (try replace hr1 := (hr1.below hb4).more (Below.size hb4)); (try replace hr2 := (hr2.below hb4).more (Below.size hb4)); (try replace hs7 := Nat.le_trans hs7 (Below.size hb4)); clear a0 a1; have a0 := hA.c0; have a1 := hA.c1)
          | (go_at_call 67; go_fit (runOf_c ⟨n, bs⟩ xs q ok Hq.out hx A1 A2 g1 0 c1 g2 0 c2 _ _ hl2 hl3 (Nat.le_refl _) hr1 hr2); rintro e w5 ⟨A8, c8, g8, rfl, hr8, hown3, hb5⟩; replace hW := bthen hW hb5; replace hA := hA.below hb5; (try replace h4 := h4.below hb5); (try replace h5 := h5.below hb5); (try replace h7 := h7.below hb5); (try replace hI6 := (hI6.below hb5).more (Below.size hb5)); (try replace own5 := own_below own5 hb5); (try replace own6 := own_below own6 hb5); (try replace own7 := own_below own7 hb5); (try replace hr1 := (hr1.below hb5).more (Below.size hb5)); (try replace hr2 := (hr2.below hb5).more (Below.size hb5)); (try replace hs7 := Nat.le_trans hs7 (Below.size hb5)); clear a0 a1; have a0 := hA.c0; have a1 := hA.c1))
        clear hr1 hr2 hown1 hown2 hown3
        have h6 := rs_new (n := q.now) (c := c8) (t := 70) hr8
        have hbn : Below w5.heap.size w5 (w5.alloc (.cells #[.int .i64 q.now, .slice A8 q.done.length c8] 70)) := by go_grown
        replace hW := bthen hW hbn; replace hA := hA.below hbn; (try replace h4 := h4.below hbn); (try replace h5 := h5.below hbn); (try replace h7 := h7.below hbn); (try replace hI6 := (hI6.below hbn).more (Below.size hbn)); (try replace own5 := own_below own5 hbn); (try replace own6 := own_below own6 hbn); (try replace own7 := own_below own7 hbn); (try replace hr1 := (hr1.below hbn).more (Below.size hbn)); (try replace hr2 := (hr2.below hbn).more (Below.size hbn)); (try replace hs7 := Nat.le_trans hs7 (Below.size hbn))
        generalize w5.alloc (.cells #[.int .i64 q.now, .slice A8 q.done.length c8] 70) = W8 at hW hA h4 h5 h6 ⊢
        generalize w5.heap.size = X8 at h6 ⊢
        clear hr8 hb3 hb4 hb5 hbn a0 a1 hA
        have i40 := h4.c0
        have i41 := h4.c1
        have i60 := h6.c0
        have i61 := h6.c1
        go_upto_region 34 with (go_at_call 73; go_fit (eqState_yes q.now q.done A8 A3 g8 0 c8 g3 0 c3 _ _ hql (Nat.le_refl _) h6.rd h4.rd); rintro e w32 ⟨rfl, hb32⟩; replace hW := bthen hW hb32; replace h5 := h5.below hb32)
        clear i40 i41 i60 i61 hb32 h4 h6
        have i70 := h5.c0
        have i71 := h5.c1
        rw [markI_length] at i71
        go_wp2_with (go_at_call 75; go_fit (heldState_c q.now 1 A7 gm 0 c7 q.done.length _ _ (by omega) hql (Nat.le_refl _) h5.rd); rintro e w36 ⟨rfl, hb36⟩; replace hW := bthen hW hb36)
        go_ret
        exact ⟨rfl, hW⟩
end Go.Proofs.Ytjlaljnffmncpaa
