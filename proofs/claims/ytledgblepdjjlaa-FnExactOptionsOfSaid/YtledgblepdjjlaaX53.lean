/-
  The law of ExactOptionsOf: its walk.
-/
import Derived.Test.YtledgblepdjjlaaE50
import Derived.Test.YtledgblepdjjlaaE3
import Derived.Test.YtledgblepdjjlaaL58
import Derived.Test.YtledgblepdjjlaaS57
namespace Go.Proofs.Ytledgblepdjjlaa
set_option linter.unusedVariables false
set_option linter.unusedSimpArgs false
open Go.RowKit Pp

theorem options_len (n : Int) (bs : List Bd) (cs : List (List Bd)) (ch : Int) (h : ∀ x ∈ cs, x.length ≤ 2000000) {q : List Int} (hq : optionsOf ⟨n, bs⟩ cs ch = q) : q.length ≤ 2000000 := by
  by_cases hc : caseOk ⟨n, bs⟩ cs && inB ch 0 ((cs.length : Int) - 1)
  · rw [Bool.and_eq_true] at hc
    have hi := inB_iff.1 hc.2
    obtain ⟨k, hk⟩ : ∃ k : Nat, ch = (k : Int) := ⟨ch.toNat, by omega⟩
    subst hk
    have hl : k < cs.length := by omega
    have hx := List.getElem?_eq_getElem hl
    rw [← hq, options_eq hc.1 hc.2 hx]
    have h1 := outS_len k (fitsW ⟨n, bs⟩ cs) (allB cs cs.length) cs[k].length
    have h2 := h _ (List.mem_of_getElem? hx)
    omega
  · rw [← hq]
    unfold optionsOf
    rw [if_neg hc]
    simp
theorem ints_lo {W : World} {base b o : Nat} {A : Option Addr} {c : Nat} {xs : List Int} (h : OwnI base W (.slice A xs.length c) xs) (hr : IntsR W W.heap.size b o A xs) (h0 : 0 < xs.length) : base ≤ b := by
  obtain rfl := hr.addr h0
  exact (h.lt b rfl).1
set_option maxHeartbeats 8000000 in
set_option maxRecDepth 100000 in
theorem exactOptionsOf_c (n ch : Int) (bs : List Bd) (cs : List (List Bd)) (A A2 : Option Addr) (b o c b2 o2 c2 : Nat) (w : World) (hl : bs.length ≤ 9223372036854775807) (hl2 : cs.length ≤ 9223372036854775807) (hl3 : ∀ x ∈ cs, x.length ≤ 9223372036854775807) (hR : BdsR w w.heap.size b o A bs) (hC : ChR w w.heap.size b2 o2 A2 cs) :
    Calls Try.prog 14 #[.agg #[.int .i64 n, .slice A bs.length c, .slice A2 cs.length c2], .int .i64 ch] w fun e w' => e = .returned (.bool true) ∧ Below w.heap.size w w' := by
  have hA := rc_new (n := n) (c := c) (c2 := c2) (t := 27) hR hC
  have hW : Below w.heap.size w (w.alloc (.cells #[.int .i64 n, .slice A bs.length c, .slice A2 cs.length c2] 27)) := by go_grown
  have HR := hide hR
  have HC := hide hC
  clear hR hC
  obtain ⟨R, hRq⟩ : ∃ R : Int, (if (1048576 : Int) - (bs.length : Int) < 0 then -1 else szV (1048576 - bs.length) cs) = R := ⟨_, rfl⟩
  have hcase := szCase_cases bs cs R hRq
  have H := hide hRq
  have H3l := hide hl3
  clear hRq hl3
  rcases hcase with h1 | ⟨h1, hn, hn2, hn3, hsum⟩
  · subst h1
    go_enter Try.func14, Try.ntmps14
    go_upto_region 1 with fail
    generalize w.alloc (.cells #[.int .i64 n, .slice A bs.length c, .slice A2 cs.length c2] 27) = W at hA hW ⊢
    have a0 := hA.c0
    have a1 := hA.c1
    have a2 := hA.c2
    go_wp2_with (go_at_call 15; go_fit (szCase_c 1048576 n A A2 b o c b2 o2 c2 _ bs cs _ (by omega) hl hl2 H3l.out (Nat.le_refl _) hA.rd hA.rc); rintro e w2 ⟨rfl, hb2⟩; rw [H.out])
    go_ret
    exact ⟨rfl, bthen hW hb2⟩
  · have h1' : ¬ R < 0 := by omega
    obtain ⟨q, hq⟩ : ∃ q, optionsOf ⟨n, bs⟩ cs ch = q := ⟨_, rfl⟩
    have hql := options_len n bs cs ch hn3 hq
    have H3 := hide hn3
    clear hn3
    have Hq := hide hq
    clear hq
    go_enter Try.func14, Try.ntmps14
    go_upto_region 1 with fail
    generalize w.alloc (.cells #[.int .i64 n, .slice A bs.length c, .slice A2 cs.length c2] 27) = W at hA hW ⊢
    have a0 := hA.c0
    have a1 := hA.c1
    have a2 := hA.c2
    go_upto_region 5 with (go_at_call 15; go_fit (szCase_c 1048576 n A A2 b o c b2 o2 c2 _ bs cs _ (by omega) hl hl2 H3l.out (Nat.le_refl _) hA.rd hA.rc); rintro e w2 ⟨rfl, hb2⟩; rw [H.out]; replace hW := bthen hW hb2; replace hA := hA.below hb2; (try replace h4 := (h4.below hb2).more (Below.size hb2)); (try replace h5 := h5.below hb2); (try replace h6 := (h6.below hb2).more (Below.size hb2)); (try replace h9 := (h9.below hb2).more (Below.size hb2)); (try replace own5 := own_below own5 hb2); (try replace hO := hO.below hb2); (try replace own6 := own_below own6 hb2); clear a0 a1 a2; have a0 := hA.c0; have a1 := hA.c1; have a2 := hA.c2)
    clear hl hl2
    go_upto_region 6 with (first
      | (go_at_call 17; go_fit (toCase_q n bs cs A A2 b o c b2 o2 c2 _ _ hn hn2 H3.out (Nat.le_refl _) hA.rd hA.rc); rintro e w3 ⟨A1, c1, g1, A3, c3, g3, F, rfl, hr1, own1, hr3, own3, hqf, hb3⟩; replace hW := bthen hW hb3; replace hA := hA.below hb3; (try replace h4 := (h4.below hb3).more (Below.size hb3)); (try replace h5 := h5.below hb3); (try replace h6 := (h6.below hb3).more (Below.size hb3)); (try replace h9 := (h9.below hb3).more (Below.size hb3)); (try replace own5 := own_below own5 hb3); (try replace hO := hO.below hb3); (try replace own6 := own_below own6 hb3))
      | (go_at_call 62; go_fit (sOptionsOf_q n bs cs ch q Hq.out A1 A3 g1 0 c1 g3 0 c3 _ _ hn hn2 H3.out (Nat.le_refl _) hr1 hr3); rintro e W4 ⟨A4, c4, g4, rfl, h4, hb4⟩; replace hW := bthen hW hb4; replace hA := hA.below hb4; (try replace h4 := (h4.below hb4).more (Below.size hb4)); (try replace h5 := h5.below hb4); (try replace h6 := (h6.below hb4).more (Below.size hb4)); (try replace h9 := (h9.below hb4).more (Below.size hb4)); (try replace own5 := own_below own5 hb4); (try replace hO := hO.below hb4); (try replace own6 := own_below own6 hb4); clear a0 a1 a2; have a0 := hA.c0; have a1 := hA.c1; have a2 := hA.c2))
    have hg4 : 0 < q.length → g4 < W4.heap.size := h4.lt
    have hX0W4 : w.heap.size < W4.heap.size := hA.ex
    clear hr1 own1 hr3 own3 hb3 hb4 hqf
    go_upto_region 7 with (go_at_call 17; go_fit (toCase_q n bs cs A A2 b o c b2 o2 c2 _ _ hn hn2 H3.out (Nat.le_refl _) hA.rd hA.rc); rintro e w5 ⟨A5, c5, g5, B5, d5, k5, F5, rfl, hr5, own5, hp5, hO, hqf, hb5⟩; replace hW := bthen hW hb5; replace hA := hA.below hb5; (try replace h4 := (h4.below hb5).more (Below.size hb5)); (try replace h5 := h5.below hb5); (try replace h6 := (h6.below hb5).more (Below.size hb5)); (try replace h9 := (h9.below hb5).more (Below.size hb5)); (try replace own5 := own_below own5 hb5); (try replace hO := hO.below hb5); (try replace own6 := own_below own6 hb5))
    have h5 := rc_new (n := n) (c := c5) (c2 := d5) (t := 37) hr5 hp5
    have hbn : Below w5.heap.size w5 (w5.alloc (.cells #[.int .i64 n, .slice A5 bs.length c5, .slice B5 cs.length d5] 37)) := by go_grown
    have hs45 : W4.heap.size ≤ w5.heap.size := hb5.size
    replace hW := bthen hW hbn
    replace hA := hA.below hbn
    replace h4 := (h4.below hbn).more hbn.size
    replace own5 := own_below own5 hbn
    replace hO := hO.below hbn
    have hs5 : w5.heap.size < (w5.alloc (.cells #[.int .i64 n, .slice A5 bs.length c5, .slice B5 cs.length d5] 37)).heap.size := by simp
    generalize w5.alloc (.cells #[.int .i64 n, .slice A5 bs.length c5, .slice B5 cs.length d5] 37) = W5 at hA hW h4 h5 own5 hO hs5 ⊢
    generalize w5.heap.size = X5 at h5 hO hs5 hs45 ⊢
    clear a0 a1 a2 hr5 hp5 hb5 hbn
    have e0 := h5.c0
    have e1 := h5.c1
    have e2 := h5.c2
    go_upto_region 8 with (go_at_call 60; go_fit (optionsOf_q n bs cs ch q Hq.out A5 B5 g5 0 c5 k5 0 d5 _ _ hn hn2 H3.out (Nat.le_refl _) h5.rd h5.rc); rintro e W6 ⟨A6, c6, g6, rfl, h6, own6, hb6⟩; replace hW := bthen hW hb6; replace hA := hA.below hb6; (try replace h4 := (h4.below hb6).more (Below.size hb6)); (try replace h5 := h5.below hb6); (try replace h6 := (h6.below hb6).more (Below.size hb6)); (try replace h9 := (h9.below hb6).more (Below.size hb6)); (try replace own5 := own_below own5 hb6); (try replace hO := hO.below hb6); (try replace own6 := own_below own6 hb6))
    have hg6 : 0 < q.length → W5.heap.size ≤ g6 := fun h => ints_lo own6 h6 h
    have hq6 : ∀ k, (Value.slice A6 q.length c6).ownBlock = some k → W5.heap.size ≤ k ∧ k < W6.heap.size := fun k hk => own6.lt k hk
    have hs56 : W5.heap.size ≤ W6.heap.size := hb6.size
    clear e0 e1 e2 hb6
    go_upto_region 10 with (go_at_call 22; go_fit (eqIntS_yes q A6 A4 g6 0 c6 g4 0 c4 _ _ hql (Nat.le_refl _) h6 h4); rintro e w7 ⟨rfl, hb7⟩; replace hW := bthen hW hb7; replace hA := hA.below hb7; (try replace h4 := (h4.below hb7).more (Below.size hb7)); (try replace h5 := h5.below hb7); (try replace h6 := (h6.below hb7).more (Below.size hb7)); (try replace h9 := (h9.below hb7).more (Below.size hb7)); (try replace own5 := own_below own5 hb7); (try replace hO := hO.below hb7); (try replace own6 := own_below own6 hb7))
    have hs67 : W6.heap.size ≤ w7.heap.size := hb7.size
    clear hb7
    have hX0w := hA.ex
    have hX5w := h5.ex
    have a0 := hA.c0
    have a1 := hA.c1
    have a2 := hA.c2
    have e0 := h5.c0
    have e1 := h5.c1
    have e2 := h5.c2
    go_cut [35] (fun s wx => s = .bool false ∧ Below w.heap.size w wx ∧ RC wx w.heap.size b o n A c bs b2 o2 A2 c2 cs ∧ IntsR wx wx.heap.size g4 0 A4 q ∧ RC wx X5 g5 0 n A5 c5 bs k5 0 B5 d5 cs ∧ IntsR wx wx.heap.size g6 0 A6 q ∧ OwnB W4.heap.size wx (.slice A5 bs.length c5) bs ∧ ChO W4.heap.size X5 wx k5 F5 B5 cs ∧ OwnI W5.heap.size wx (.slice A6 q.length c6) q ∧ W6.heap.size ≤ wx.heap.size)
    case first =>
      replace hW := hW.drew
      replace hA := hA.drew
      replace h4 : IntsR w7.drew w7.drew.heap.size g4 0 A4 q := h4.below (show Below w7.heap.size w7 w7.drew by go_grown)
      replace h5 := h5.drew
      replace h6 : IntsR w7.drew w7.drew.heap.size g6 0 A6 q := h6.below (show Below w7.heap.size w7 w7.drew by go_grown)
      replace own5 := own_below own5 (show Below w7.heap.size w7 w7.drew by go_grown)
      replace own6 := own_below own6 (show Below w7.heap.size w7 w7.drew by go_grown)
      replace hO := hO.below (show Below w7.heap.size w7 w7.drew by go_grown)
      have hs7 : W6.heap.size ≤ w7.drew.heap.size := hs67
      go_region_held3 (fun w' => w'.cell? ⟨w.heap.size, 0, none⟩ = some (.int .i64 n) ∧ w'.cell? ⟨w.heap.size, 1, none⟩ = some (.slice A bs.length c) ∧ w'.cell? ⟨w.heap.size, 2, none⟩ = some (.slice A2 cs.length c2) ∧ w'.cell? ⟨X5, 0, none⟩ = some (.int .i64 n) ∧ w'.cell? ⟨X5, 1, none⟩ = some (.slice A5 bs.length c5) ∧ w'.cell? ⟨X5, 2, none⟩ = some (.slice B5 cs.length d5))
        (first
          | (go_split_ands; (repeat' apply And.intro) <;> assumption)
          | exact ⟨hA.c0, hA.c1, hA.c2, h5.c0, h5.c1, h5.c2⟩
          | (go_keep; done))
        (first
          | (go_at_call 17; go_fit (toCase_q n bs cs A A2 b o c b2 o2 c2 _ _ hn hn2 H3.out (Nat.le_refl _) hA.rd hA.rc); rintro e w8 ⟨A9, c9, g9, B9, d9, k9, F9, rfl, hr9, own9, hp9, ownP9, hqf9, hb8⟩; replace hW := bthen hW hb8; replace hA := hA.below hb8; (try replace h4 := (h4.below hb8).more (Below.size hb8)); (try replace h5 := h5.below hb8); (try replace h6 := (h6.below hb8).more (Below.size hb8)); (try replace h9 := (h9.below hb8).more (Below.size hb8)); (try replace own5 := own_below own5 hb8); (try replace hO := hO.below hb8); (try replace own6 := own_below own6 hb8); have hs8 := Nat.le_trans hs7 hb8.size; clear a0 a1 a2 e0 e1 e2; have a0 := hA.c0; have a1 := hA.c1; have a2 := hA.c2; have e0 := h5.c0; have e1 := h5.c1; have e2 := h5.c2)
          | (go_at_call 21; go_fit (eqCase_yes n bs cs A5 A9 B5 B9 g5 0 c5 g9 0 c9 k5 0 d5 k9 0 d9 _ _ hn hn2 H3.out (Nat.le_refl _) h5.rd hr9 h5.rc hp9); rintro e w9 ⟨rfl, hb9⟩; replace hW := bthen hW hb9; replace hA := hA.below hb9; (try replace h4 := (h4.below hb9).more (Below.size hb9)); (try replace h5 := h5.below hb9); (try replace h6 := (h6.below hb9).more (Below.size hb9)); (try replace h9 := (h9.below hb9).more (Below.size hb9)); (try replace own5 := own_below own5 hb9); (try replace hO := hO.below hb9); (try replace own6 := own_below own6 hb9); have hs9 := Nat.le_trans hs8 hb9.size; clear a0 a1 a2 e0 e1 e2; have a0 := hA.c0; have a1 := hA.c1; have a2 := hA.c2; have e0 := h5.c0; have e1 := h5.c1; have e2 := h5.c2))
      go_wp2_with fail
      go_meet
      case rel => exact ⟨rfl, hW, hA, h4, h5, h6, own5, hO, own6, hs9⟩
    case rest =>
      clear hW hA h4 h5 h6 own5 hO own6 hs67 hX0w hX5w a0 a1 a2 e0 e1 e2
      obtain ⟨rfl, hW, hA, h4, h5, h6, own5, hO, own6, hsc⟩ := hcut
      have e0 := h5.c0
      have e1 := h5.c1
      have e2 := h5.c2
      have hlm : ¬ (1 + 3 * (bs.length : Int) + 3 * (sumL cs : Int)) < 0 := by omega
      have hlq : ¬ (1 + (q.length : Int)) < 0 := by omega
      go_upto_region 14 with (go_at_call 23; go_fit (markCase_c n 1 W4.heap.size X5 k5 F5 A5 B5 c5 d5 bs cs _ (by omega) hn hn2 H3.out (by omega) own5 hqf hO); rintro e w9 ⟨rfl, hG⟩)
      replace hA := hA.gin hX0W4 (by omega) ((HR.out.below hW).more (by omega)) ((HC.out.below hW).more (by omega)) hG
      replace hW := hG.bel hW (by omega) hW.size
      replace h4 := h4.gin hG (fun h e => by have := hg4 h; omega)
      replace h6 := h6.gin hG (fun h e => by have := hg6 h; omega)
      replace own6 : OwnI W5.heap.size w9 (.slice A6 q.length c6) q := own_gin own6 hG (fun k hk e => by have := hq6 k hk; omega)
      replace hsc := Nat.le_trans hsc hG.size
      clear own5 hO h5 e0 e1 e2 hG
      go_upto_region 16 with (go_at_call 22; go_fit (eqIntS_yes q A6 A4 g6 0 c6 g4 0 c4 _ _ hql (Nat.le_refl _) h6 h4); rintro e w10 ⟨rfl, hb10⟩; replace hW := bthen hW hb10; replace hA := hA.below hb10; (try replace h4 := (h4.below hb10).more (Below.size hb10)); (try replace h5 := h5.below hb10); (try replace h6 := (h6.below hb10).more (Below.size hb10)); (try replace h9 := (h9.below hb10).more (Below.size hb10)); (try replace own5 := own_below own5 hb10); (try replace hO := hO.below hb10); (try replace own6 := own_below own6 hb10))
      replace hsc := Nat.le_trans hsc hb10.size
      clear hb10
      go_upto_region 18 with (go_at_call 24; go_fit (markIntS_c 1 W5.heap.size A6 c6 q _ (by omega) hql own6 (by omega)); rintro e w11 ⟨rfl, own6', hG6⟩)
      have hG7 : GIn W5.heap.size W6.heap.size _ w11 := gin_grown hG6 hq6
      replace hA := hA.gin (lo := W5.heap.size) (by omega) (by omega) ((HR.out.below hW).more (by omega)) ((HC.out.below hW).more (by omega)) hG7
      replace hW := hG7.bel hW (by omega) hW.size
      replace h4 := h4.gin hG7 (fun h e => by have := hg4 h; omega)
      obtain ⟨gm, h9⟩ : ∃ gm, IntsR w11 w11.heap.size gm 0 A6 (markI 1 q.length) := by
        have hml := markI_length 1 q.length
        exact own_IntsR (c := c6) (base := W5.heap.size) (by rw [hml]; exact own6')
      clear own6 own6' h6 hG6 hG7 hqf hq6 hg6
      go_upto_region 24 with (go_at_call 56; go_fit (heldIntS_c 1 A6 gm 0 c6 q.length _ _ (by omega) hql h9); rintro e w12 ⟨rfl, rfl⟩)
      have a0 := hA.c0
      have a1 := hA.c1
      have a2 := hA.c2
      go_upto_region 25 with (first
        | (go_at_call 17; go_fit (toCase_q n bs cs A A2 b o c b2 o2 c2 _ _ hn hn2 H3.out (Nat.le_refl _) hA.rd hA.rc); rintro e w13 ⟨A7, c7, g7, B7, d7, k7, F7, rfl, hr7, own7, hp7, ownP7, hqf7, hb13⟩; replace hW := bthen hW hb13; replace hA := hA.below hb13; (try replace h4 := (h4.below hb13).more (Below.size hb13)); (try replace h5 := h5.below hb13); (try replace h6 := (h6.below hb13).more (Below.size hb13)); (try replace h9 := (h9.below hb13).more (Below.size hb13)); (try replace own5 := own_below own5 hb13); (try replace hO := hO.below hb13); (try replace own6 := own_below own6 hb13))
        | (go_at_call 60; go_fit (optionsOf_q n bs cs ch q Hq.out A7 B7 g7 0 c7 k7 0 d7 _ _ hn hn2 H3.out (Nat.le_refl _) hr7 hp7); rintro e W14 ⟨A8, c8, g8, rfl, h6, own8, hb14⟩; replace hW := bthen hW hb14; replace hA := hA.below hb14; (try replace h4 := (h4.below hb14).more (Below.size hb14)); (try replace h5 := h5.below hb14); (try replace h6 := (h6.below hb14).more (Below.size hb14)); (try replace h9 := (h9.below hb14).more (Below.size hb14)); (try replace own5 := own_below own5 hb14); (try replace hO := hO.below hb14); (try replace own6 := own_below own6 hb14)))
      clear a0 a1 a2 hr7 own7 own8 hp7 ownP7 hb13 hb14 hA
      go_upto_region 28 with (go_at_call 22; go_fit (eqIntS_yes q A8 A4 g8 0 c8 g4 0 c4 _ _ hql (Nat.le_refl _) h6 h4); rintro e w15 ⟨rfl, hb15⟩; replace hW := bthen hW hb15; replace h9 := (h9.below hb15).more hb15.size)
      clear hb15 h4 h6
      go_wp2_with (go_at_call 56; go_fit (heldIntS_c 1 A6 gm 0 c6 q.length _ _ (by omega) hql h9); rintro e w16 ⟨rfl, rfl⟩)
      go_ret
      exact ⟨rfl, hW⟩
end Go.Proofs.Ytledgblepdjjlaa
