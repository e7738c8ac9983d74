/-
  The law of WideOf: its walk.
-/
import Derived.Test.YtjlaljnffmncpaaW0
import Derived.Test.YtjlaljnffmncpaaD6
import Derived.Test.YtjlaljnffmncpaaL1c
import Derived.Test.YtjlaljnffmncpaaD4
namespace Go.Proofs.Ytjlaljnffmncpaa
set_option linter.unusedVariables false
set_option linter.unusedSimpArgs false
open Go.RowKit Pp

set_option maxHeartbeats 4000000 in
set_option maxRecDepth 100000 in
theorem lawWide_c (a0 : Option Addr) (len0 cap0 : Nat) (z0 : List Int) (w : World) (w0 : RowU w a0 len0 cap0 z0) :
    Calls Try.prog 4 #[.slice a0 len0 cap0] w fun e w' => e = .returned (.bool true) ∧ Below w.heap.size w w' := by
  obtain ⟨hlc, hAs, hby⟩ := w0.bytes
  clear w0
  by_cases hlen : (1048576 : Int) < (len0 : Int)
  · go_enter Try.func4, Try.ntmps4
    go_wp2_with fail
    go_ret
    exact ⟨rfl, Below.refl _ _⟩
  · go_enter Try.func4, Try.ntmps4
    go_upto_region 4 with (go_at_call 22; go_fit (drawWide_c a0 len0 cap0 z0 _ (by omega) hlc hAs hby); rintro e w1 ⟨n, A, c, bs, b, f, t, rfl, ⟨hn0, hn7⟩, hbl, hsm, ⟨hf0, hf1⟩, ⟨ht0, ht1⟩, hrd, hW⟩)
    have hP := pb_new (n := n) (c := c) (t := 25) hW hrd
    generalize w1.alloc (.cells #[.int .i64 n, .slice A bs.length c] 25) = wa at hP ⊢
    generalize w1.heap.size = X at hP ⊢
    clear hW hrd hlen hby hAs
    have p0 := hP.c0
    have p1 := hP.c1
    have hbl' : bs.length ≤ 1000000 := by omega
    by_cases hv : wideOf ⟨n, bs⟩ f t = 0
    · have Hv := hide hv
      clear hv
      go_wp2_with (first
        | (go_at_call 23; go_fit (wideOf_c ⟨n, bs⟩ f t A b 0 c _ _ hbl' (Nat.le_refl _) hP.rd); rintro e w2 ⟨rfl, hb2⟩; rw [Hv.out]; have hP2 := hP.below hb2; have q0 := hP2.c0; have q1 := hP2.c1)
        | (go_at_call 24; go_fit (sWideOf_c ⟨n, bs⟩ f t A b 0 c _ _ hbl' (Nat.le_refl _) hP2.rd); rintro e w3 ⟨rfl, hb3⟩; rw [Hv.out]; have hP3 := hP2.below hb3)
        | (go_at_call 19; go_fit (alive_c w3); rintro e w4 ⟨rfl, hb4⟩; have hP4 := hP3.below hb4))
      go_ret
      exact ⟨rfl, hP4.bel⟩
    · obtain ⟨hv1, hone⟩ := wide_pos hv
      have hcnt := wide_count hv
      have hself := wide_self hv
      have hmore := wide_more (b := ⟨t, f, 0⟩) hv
      obtain ⟨v, hve⟩ : ∃ v, wideOf ⟨n, bs⟩ f t = v := ⟨_, rfl⟩
      obtain ⟨l, hle⟩ : ∃ l, (Pp.leastOf ⟨n, bs⟩ f t).1 = l := ⟨_, rfl⟩
      have hl : -100000 ≤ l ∧ l ≤ 10000 := by have := mostOf_abs ⟨n, bs⟩ t f; rw [← hle]; unfold Pp.leastOf; dsimp only; omega
      obtain ⟨hl0, hl1⟩ := hl
      rw [hve] at hv hv1 hcnt hmore
      rw [hle] at hcnt
      have Hv := hide hve
      have Hl := hide hle
      have Ho := hide hone
      have Hs := hide hself
      have Hm := hide hmore
      have Hc := hide hcnt
      clear hve hle hone hself hmore hcnt
      go_wp2_with (first
        | (go_at_call 23; go_fit (wideOf_c ⟨n, bs⟩ f t A b 0 c _ _ hbl' (Nat.le_refl _) hP.rd); rintro e w2 ⟨rfl, hb2⟩; rw [Hv.out]; have hP2 := hP.below hb2; have q0 := hP2.c0; have q1 := hP2.c1)
        | (go_at_call 24; go_fit (sWideOf_c ⟨n, bs⟩ f t A b 0 c _ _ hbl' (Nat.le_refl _) hP2.rd); rintro e w3 ⟨rfl, hb3⟩; rw [Hv.out]; have hP3 := hP2.below hb3; have r0 := hP3.c0; have r1 := hP3.c1)
        | (go_at_call 25; go_fit (leastOf_c ⟨n, bs⟩ f t A b 0 c _ _ hbl' (Nat.le_refl _) hP3.rd); rintro e w4 ⟨rfl, hb4⟩; rw [Hl.out, Ho.out]; have hP4 := hP3.below hb4))
      clear p0 p1 q0 q1 r0 r1 hP hP2 hP3 hb2 hb3 hb4
      go_loopg [9, 10] 400 (fun gh s i wr => ∃ k : Nat, gh = 400 - k ∧ k ≤ 400 ∧ i = .int .i64 k ∧ s = .int .i64 (countTo (fun k => mayBe ⟨n, bs⟩ f t (l + (k : Int))) k) ∧ PB w wr X b n A c bs)
      case atStart => exact ⟨0, rfl, by omega, rfl, rfl, hP4⟩
      case round =>
        clear hP4
        obtain ⟨k, rfl, hk, rfl, rfl, hP⟩ := hrel
        have p0 := hP.c0
        have p1 := hP.c1
        by_cases hlt : k < 400
        · have hlt' : (k : Int) < 400 := by omega
          have hcl := countTo_le (fun k => mayBe ⟨n, bs⟩ f t (l + (k : Int))) k
          have hcs : countTo (fun k => mayBe ⟨n, bs⟩ f t (l + (k : Int))) (k + 1) = countTo (fun k => mayBe ⟨n, bs⟩ f t (l + (k : Int))) k + (if mayBe ⟨n, bs⟩ f t (l + (k : Int)) = true then 1 else 0) := rfl
          generalize hC : countTo (fun k => mayBe ⟨n, bs⟩ f t (l + (k : Int))) k = C at hcl hcs ⊢
          have Hcs := hide hcs
          clear hcs hC
          cases hF : mayBe ⟨n, bs⟩ f t (l + (k : Int))
          · have HF := hide hF
            clear hF
            go_wp2_with (go_at_call 26; go_fit (mayBeOk_c ⟨n, bs⟩ f t (l + (k : Int)) A b 0 c _ _ hbl' (Nat.le_refl _) hP.rd); rintro e w2 ⟨rfl, hb2⟩; rw [HF.out]; have hP2 := hP.below hb2)
            go_roundg (400 - (k + 1))
            case measure => go_light; omega
            case rel => go_light; exact ⟨k + 1, rfl, by omega, by go_num, by rw [Hcs.out, HF.out]; simp, hP2⟩
          · have HF := hide hF
            clear hF
            go_wp2_with (go_at_call 26; go_fit (mayBeOk_c ⟨n, bs⟩ f t (l + (k : Int)) A b 0 c _ _ hbl' (Nat.le_refl _) hP.rd); rintro e w2 ⟨rfl, hb2⟩; rw [HF.out]; have hP2 := hP.below hb2)
            go_roundg (400 - (k + 1))
            case measure => go_light; omega
            case rel => go_light; exact ⟨k + 1, rfl, by omega, by go_num, by rw [Hcs.out, HF.out]; simp, hP2⟩
        · obtain rfl : k = 400 := by omega
          have hC4 : v ≤ 400 → (countTo (fun k => mayBe ⟨n, bs⟩ f t (l + (k : Int))) 400 : Int) = v := Hc.out
          have hcl := countTo_le (fun k => mayBe ⟨n, bs⟩ f t (l + (k : Int))) 400
          generalize countTo (fun k => mayBe ⟨n, bs⟩ f t (l + (k : Int))) 400 = C4 at hC4 hcl ⊢
          obtain ⟨bs2, hbs2⟩ : ∃ bs2, bs ++ [(⟨t, f, 0⟩ : Bd)] = bs2 := ⟨_, rfl⟩
          have hbl2 : bs2.length ≤ 1000000 := by rw [← hbs2]; simp; omega
          have Hbs2 := hide hbs2
          have hbl3 : bs.length ≤ 10000 := by omega
          have hm2 : wideOf ⟨n, bs2⟩ f t ≤ v := by rw [← hbs2]; exact Hm.out
          obtain ⟨v2, hv2e⟩ : ∃ v2, wideOf ⟨n, bs2⟩ f t = v2 := ⟨_, rfl⟩
          rw [hv2e] at hm2
          have Hv2 := hide hv2e
          clear hv2e
          have hd : 400 < v ∨ v = (C4 : Int) := by
            rcases Int.lt_or_le 400 v with h | h
            · exact .inl h
            · exact .inr (hC4 h).symm
          clear hC4
          rcases hd with hv4 | rfl
          all_goals (
            cases hr : planOk ⟨n, bs2⟩
            · have Hq : Hid (toldP ⟨n, bs ++ [(⟨t, f, 0⟩ : Bd)]⟩ = ⟨0, []⟩) := by rw [hbs2]; exact toldP_no hr
              have Hr : Hid (planOk ⟨n, bs ++ [(⟨t, f, 0⟩ : Bd)]⟩ = false) := by rw [hbs2]; exact hr
              clear hr hbs2
              go_wp2_with (first
                | (go_at_call 27; go_fit (withBound_q ⟨n, bs⟩ ⟨t, f, 0⟩ ⟨0, []⟩ false Hq.out Hr.out A b 0 c _ _ hbl3 (Nat.le_refl _) hP.rd); rintro e w2 ⟨A1, c1, g1, rfl, hx1, hown1, hb2⟩; have hP2 := hP.below hb2; have q0 := hP2.c0; have q1 := hP2.c1; have qx := hP2.ex)
                | (go_at_call 23; go_fit (wideOf_c ⟨n, bs⟩ f f A b 0 c _ _ hbl' (Nat.le_refl _) (hP2.alloc _).rd); rintro e w3 ⟨rfl, hb3⟩; rw [Hs.out]; have hP3 := (hP2.alloc _).below hb3))
              go_ret
              exact ⟨rfl, hP3.bel⟩
            · have Hq : Hid (toldP ⟨n, bs ++ [(⟨t, f, 0⟩ : Bd)]⟩ = ⟨n, bs2⟩) := by rw [hbs2]; exact toldP_yes hr
              have Hr : Hid (planOk ⟨n, bs ++ [(⟨t, f, 0⟩ : Bd)]⟩ = true) := by rw [hbs2]; exact hr
              clear hr hbs2
              go_wp2_with (first
                | (go_at_call 27; go_fit (withBound_q ⟨n, bs⟩ ⟨t, f, 0⟩ ⟨n, bs2⟩ true Hq.out Hr.out A b 0 c _ _ hbl3 (Nat.le_refl _) hP.rd); rintro e w2 ⟨A1, c1, g1, rfl, hx1, hown1, hb2⟩; have hP2 := hP.below hb2; have q0 := hP2.c0; have q1 := hP2.c1; have qx := hP2.ex)
                | (go_at_call 23; go_fit (wideOf_c ⟨n, bs2⟩ f t A1 g1 0 c1 _ _ hbl2 (show w2.heap.size ≤ _ by simp) (hx1.below (by go_grown))); rintro e w3 ⟨rfl, hb3⟩; rw [Hv2.out]; have hP3 := (hP2.alloc _).below hb3; have r0 := hP3.c0; have r1 := hP3.c1)
                | (go_at_call 23; go_fit (wideOf_c ⟨n, bs⟩ f f A b 0 c _ _ hbl' (Nat.le_refl _) hP3.rd); rintro e w4 ⟨rfl, hb4⟩; rw [Hs.out]; have hP4 := hP3.below hb4))
              go_ret
              exact ⟨rfl, hP4.bel⟩)
end Go.Proofs.Ytjlaljnffmncpaa
