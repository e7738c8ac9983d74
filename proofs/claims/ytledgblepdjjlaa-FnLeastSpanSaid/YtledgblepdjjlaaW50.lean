/-
  The law of LeastSpan: its walk.
-/
import Derived.Test.YtledgblepdjjlaaD52
import Derived.Test.YtledgblepdjjlaaP25
import Derived.Test.YtledgblepdjjlaaL56
import Derived.Test.YtledgblepdjjlaaS56
import Derived.Test.YtledgblepdjjlaaL2d
import Derived.Test.YtledgblepdjjlaaW0
namespace Go.Proofs.Ytledgblepdjjlaa
set_option linter.unusedVariables false
set_option linter.unusedSimpArgs false
open Go.RowKit Pp

set_option maxHeartbeats 4000000 in
set_option maxRecDepth 100000 in
theorem lawLeastSpan_c (a0 : Option Addr) (len0 cap0 : Nat) (z0 : List Int) (w : World) (w0 : RowU w a0 len0 cap0 z0) :
    Calls Try.prog 8 #[.slice a0 len0 cap0] w fun e w' => e = .returned (.bool true) ∧ Below w.heap.size w w' := by
  obtain ⟨hlc, hAs, hby⟩ := w0.bytes
  clear w0
  by_cases hlen : (1048576 : Int) < (len0 : Int)
  · go_enter Try.func8, Try.ntmps8
    go_wp2_with fail
    go_ret
    exact ⟨rfl, Below.refl _ _⟩
  · go_enter Try.func8, Try.ntmps8
    go_upto_region 4 with (go_at_call 46; go_fit (drawSpan_c a0 len0 cap0 z0 _ (by omega) hlc hAs hby); rintro e w1 ⟨n, A, c, bs, A2, c2, cs, b, b2, f, t, rfl, hn, hlb, hlcs, HL, _, hf, ht, hrd, hrc, hW⟩)
    have hD := cc_law (n := n) (c := c) (c2 := c2) (t := 37) hW hrd hrc
    generalize w1.alloc (.cells #[.int .i64 n, .slice A bs.length c, .slice A2 cs.length c2] 37) = wa at hD ⊢
    generalize w1.heap.size = D at hD ⊢
    clear hW hrd hrc hlen hby hAs
    have hlb' : bs.length ≤ 2000000 := by omega
    have hlc' : cs.length ≤ 2000000 := by omega
    have H3 : Hid (∀ l ∈ cs, l.length ≤ 2000000) := fun l hl => by have := HL.out l hl; omega
    have d0 := hD.r.c0
    have d1 := hD.r.c1
    have d2 := hD.r.c2
    obtain ⟨q, r, hq⟩ : ∃ q r, leastSpan ⟨n, bs⟩ cs f t = (q, r) := ⟨_, _, rfl⟩
    have Hq := hide hq
    go_upto_region 6 with (first
      | (go_at_call 47; go_fit (leastSpan_c n bs cs f t q r Hq.out A A2 b 0 c b2 0 c2 _ _ hlb' hlc' H3.out (Nat.le_refl _) hD.r.rd hD.r.rc); rintro e w2 ⟨rfl, hb2⟩; have hD2 := hD.below hb2; have e0 := hD2.r.c0; have e1 := hD2.r.c1; have e2 := hD2.r.c2)
      | (go_at_call 48; go_fit (sLeastSpan_c n bs cs f t q r Hq.out A A2 b 0 c b2 0 c2 _ _ hlb' hlc' H3.out (Nat.le_refl _) hD2.r.rd hD2.r.rc); rintro e w3 ⟨rfl, hb3⟩; have hD3 := hD2.below hb3))
    clear d0 d1 d2 e0 e1 e2 hD hD2 hb2 hb3
    cases r
    · obtain rfl := span_none hq
      clear hq
      go_wp2_with (go_at_call 31; go_fit (alive_c _); rintro e w5 ⟨rfl, hb5⟩; have hD5 := hD3.below hb5)
      go_ret
      exact ⟨rfl, hD5.bel⟩
    · obtain ⟨ks, m, hk1, hk2, hk3, hqm, hft⟩ := span_law hq
      have hkl : ks.length ≤ 2000000 := by
        have h2 := hk2
        unfold wayOf at h2
        split at h2
        · rename_i hb
          rw [Bool.and_eq_true] at hb
          have := (picksOk_iff.1 hb.2).1
          omega
        · exact absurd (Prod.mk.inj h2).2 (by simp)
      obtain ⟨Q, hQ⟩ : ∃ Q, wayP ⟨n, bs⟩ cs ks = Q := ⟨_, rfl⟩
      rw [hQ] at hk2 hk3
      have hQl : Q.bs.length ≤ 2000000 := by
        rw [← hQ]
        have h2 := hk2
        unfold wayOf at h2
        split at h2
        · rename_i hb
          rw [Bool.and_eq_true] at hb
          have h3 := (picksOk_iff.1 hb.2).1
          have h4 := picked_length cs ks (by omega)
          simp only [wayP, List.length_append]
          omega
        · exact absurd (Prod.mk.inj h2).2 (by simp)
      have K1 := hide hk1
      have K2 := hide hk2
      have K3 := hide hk3
      clear hq hk1 hk2 hk3 hQ
      have d0 := hD3.r.c0
      have d1 := hD3.r.c1
      have d2 := hD3.r.c2
      have hqm' : ¬ m < q := by omega
      go_upto_region 11 with (go_at_call 49; go_fit (firstWay_q n bs cs ks true K1.out A A2 b 0 c b2 0 c2 _ _ hlb' hlc' H3.out (Nat.le_refl _) hD3.r.rd hD3.r.rc); rintro e w4 ⟨A4, c4, g4, o4, rfl, hr4, -, hb4⟩)
      have hD4 := hD3.below hb4
      clear d0 d1 d2 hD3 hb4
      have d0 := hD4.r.c0
      have d1 := hD4.r.c1
      have d2 := hD4.r.c2
      go_upto_region 12 with (go_at_call 19; go_fit (wayOf_q n bs cs ks Q true K2.out A A2 A4 b 0 c b2 0 c2 g4 o4 c4 _ _ hlb' hlc' H3.out hkl (Nat.le_refl _) hD4.r.rd hD4.r.rc hr4); rintro e w5 ⟨A5, c5, g5, rfl, hr5, -, hb5⟩)
      have hD5 := hD4.below hb5
      have hbn : Below w5.heap.size w5 (w5.alloc (.cells #[.int .i64 Q.n, .slice A5 Q.bs.length c5] 32)) := by go_grown
      have hD6 := hD5.below hbn
      have x0 : (w5.alloc (.cells #[.int .i64 Q.n, .slice A5 Q.bs.length c5] 32)).cell? ⟨w5.heap.size, 0, none⟩ = some (.int .i64 Q.n) := by simp [go_sem]
      have x1 : (w5.alloc (.cells #[.int .i64 Q.n, .slice A5 Q.bs.length c5] 32)).cell? ⟨w5.heap.size, 1, none⟩ = some (.slice A5 Q.bs.length c5) := by simp [go_sem]
      have hr6 := (hr5.below hbn).more hbn.size
      generalize w5.alloc (.cells #[.int .i64 Q.n, .slice A5 Q.bs.length c5] 32) = W6 at hD6 x0 x1 hr6 ⊢
      generalize w5.heap.size = X6 at x0 x1 ⊢
      clear d0 d1 d2 hD4 hD5 hb5 hr5 hbn hr4
      go_upto_region 13 with (go_at_call 50; refine (leastOf_c Q f t A5 g5 0 c5 _ _ hQl (Nat.le_refl _) hr6).mono ?_; rw [K3.out]; rintro e w7 ⟨rfl, hb7⟩; have hD7 := hD6.below hb7)
      by_cases hft' : f = t
      · obtain rfl := hft hft'
        subst hft'
        go_wp2_with fail
        go_ret
        exact ⟨rfl, hD7.bel⟩
      · go_wp2_with fail
        go_ret
        exact ⟨rfl, hD7.bel⟩
end Go.Proofs.Ytledgblepdjjlaa
