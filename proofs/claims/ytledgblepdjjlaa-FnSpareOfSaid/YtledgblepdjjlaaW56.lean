/-
  The law of SpareOf: its walk.
-/
import Derived.Test.YtledgblepdjjlaaD57
import Derived.Test.YtledgblepdjjlaaL43
import Derived.Test.YtledgblepdjjlaaL45
import Derived.Test.YtledgblepdjjlaaS62
import Derived.Test.YtledgblepdjjlaaW0
namespace Go.Proofs.Ytledgblepdjjlaa
set_option linter.unusedVariables false
set_option linter.unusedSimpArgs false
open Go.RowKit Pp

theorem low_yes {p : Pl} {v : Int} (h : lowFits p v = true) : ∃ q, lowP p v = (q, true) ∧ fits q = true := by
  unfold lowFits at h
  rw [Bool.and_eq_true] at h
  exact ⟨(lowP p v).1, by rw [← h.1], h.2⟩
/-- The bad ring of a plan that was lowered by one too much. -/
theorem low_bad {n : Int} {bs : List Bd} {v : Int} {q : Pl} (hq : lowP ⟨n, bs⟩ v = (q, true)) (hno : lowFits ⟨n, bs⟩ v = false) :
    planOk q = true ∧ fits q = false ∧ q.n = n ∧ planOk ⟨n, bs⟩ = true ∧ ∀ (r : List Nat) (k : Int), path q k k r → sumR q r < 0 → path ⟨n, bs⟩ k k r ∧ sumR ⟨n, bs⟩ r < v * (r.length : Int) := by
  have hf : fits q = false := by
    unfold lowFits at hno
    rw [hq] at hno
    simpa using hno
  unfold lowP at hq
  split at hq
  · rename_i hc
    rw [Bool.and_eq_true] at hc
    have h1 := (Prod.mk.inj hq).1
    have h2 := (Prod.mk.inj hq).2
    rw [toldP_1 h2] at h1
    subst h1
    refine ⟨h2, hf, rfl, hc.1, fun r k hr hs => ?_⟩
    obtain ⟨e1, e2⟩ := low_path (p := ⟨n, bs⟩) (v := v) hr
    exact ⟨e1, by omega⟩
  · have := (Prod.mk.inj hq).2
    cases this

set_option maxHeartbeats 4000000 in
set_option maxRecDepth 100000 in
theorem lawSpare_c (a0 : Option Addr) (len0 cap0 : Nat) (z0 : List Int) (w : World) (w0 : RowU w a0 len0 cap0 z0) :
    Calls Try.prog 4 #[.slice a0 len0 cap0] w fun e w' => e = .returned (.bool true) ∧ Below w.heap.size w w' := by
  obtain ⟨hlc, hAs, hby⟩ := w0.bytes
  clear w0
  by_cases hlen : (1048576 : Int) < (len0 : Int)
  · go_enter Try.func4, Try.ntmps4
    go_wp2_with fail
    go_ret
    exact ⟨rfl, Below.refl _ _⟩
  · go_enter Try.func4, Try.ntmps4
    go_upto_region 4 with (go_at_call 27; go_fit (drawSpare_c a0 len0 cap0 z0 _ (by omega) hlc hAs hby); rintro e w1 ⟨n, A, c, bs, b, rfl, hn, hbl, hrd, hW⟩)
    have hP := pb_new (n := n) (c := c) (t := 32) hW hrd
    generalize w1.alloc (.cells #[.int .i64 n, .slice A bs.length c] 32) = wa at hP ⊢
    generalize w1.heap.size = X at hP ⊢
    clear hW hrd hlen hby hAs
    have hbl' : bs.length ≤ 2000000 := by omega
    have p0 := hP.c0
    have p1 := hP.c1
    obtain ⟨sp, hsp⟩ : ∃ sp, spare ⟨n, bs⟩ = sp := ⟨_, rfl⟩
    have Hsp := hide hsp
    go_upto_region 7 with (first
      | (go_at_call 28; go_fit (spareOf_c n bs A b 0 c _ _ hbl' (Nat.le_refl _) hP.rd); rintro e w2 ⟨rfl, hb2⟩; rw [Hsp.out]; replace hP := hP.below hb2; clear p0 p1; have p0 := hP.c0; have p1 := hP.c1)
      | (go_at_call 29; go_fit (sSpareOf_c n bs A b 0 c _ _ hbl' (Nat.le_refl _) hP.rd); rintro e w3 ⟨rfl, hb3⟩; rw [Hsp.out]; replace hP := hP.below hb3))
    clear p0 p1
    have p0 := hP.c0
    have p1 := hP.c1
    cases hf : fits ⟨n, bs⟩
    · obtain rfl : sp = -1 := by rw [← hsp]; unfold spare; rw [hf]; rfl
      have Hf := hide hf
      clear hf hsp
      go_wp2_with (first
        | (go_at_call 30; go_fit (fitsOk_c ⟨n, bs⟩ A b 0 c _ _ hbl' (Nat.le_refl _) hP.rd); rintro e w4 ⟨rfl, hb4⟩; rw [Hf.out]; replace hP := hP.below hb4)
        | (go_at_call 31; go_fit (alive_c _); rintro e w5 ⟨rfl, hb5⟩; have hP5 := hP.below hb5))
      go_ret
      exact ⟨rfl, hP5.bel⟩
    · obtain ⟨h1, h2, h3, h4⟩ := spare_law hf
      rw [hsp] at h1 h2 h3 h4
      obtain ⟨q, hq, hqf⟩ := low_yes h3
      obtain ⟨y, r, hy⟩ : ∃ y r, lowP ⟨n, bs⟩ (sp + 1) = (y, r) := ⟨_, _, rfl⟩
      have hql := lowP_len2 hq
      have hyl := lowP_len2 hy
      have hbad := fun (h : r = true) => low_bad (q := y) (by rw [hy, h]) h4
      have Hbad := hide hbad
      have Hq := hide hq
      have Hqf := hide hqf
      have Hy := hide hy
      have hwr : IntKind.i64.wrap (sp + 1) = sp + 1 := IntWalk.i64_in _ (by omega)
      have hneg : ¬ sp < 0 := by omega
      clear hf hsp h3 h4 hq hqf hy hbad
      go_upto_region 10 with (go_at_call 32; go_fit (lowered_q n bs sp q true Hq.out A b 0 c _ _ hbl' (Nat.le_refl _) hP.rd); rintro e w4 ⟨A2, c2, g2, rfl, hr2, hb2⟩)
      have hQ := pb_new (n := q.n) (c := c2) (t := 32) (bthen hP.bel hb2) hr2
      have hP2 := (hP.below hb2).alloc (.cells #[.int .i64 q.n, .slice A2 q.bs.length c2] 32)
      clear p0 p1 hP hb2 hr2
      generalize w4.alloc (.cells #[.int .i64 q.n, .slice A2 q.bs.length c2] 32) = W4 at hQ hP2 ⊢
      generalize w4.heap.size = X4 at hQ ⊢
      have p0 := hP2.c0
      have p1 := hP2.c1
      go_upto_region 11 with (go_at_call 32; go_fit (lowered_q n bs (sp + 1) y r Hy.out A b 0 c _ _ hbl' (Nat.le_refl _) hP2.rd); rintro e w5 ⟨A3, c3, g3, rfl, hr3, hb3⟩)
      have hY := pb_new (n := y.n) (c := c3) (t := 32) (bthen hP2.bel hb3) hr3
      have hP3 := (hP2.below hb3).alloc (.cells #[.int .i64 y.n, .slice A3 y.bs.length c3] 32)
      have hQ3 := (hQ.below hb3).alloc (.cells #[.int .i64 y.n, .slice A3 y.bs.length c3] 32)
      clear p0 p1 hP2 hb3 hr3 hQ
      generalize w5.alloc (.cells #[.int .i64 y.n, .slice A3 y.bs.length c3] 32) = W5 at hQ3 hP3 hY ⊢
      generalize w5.heap.size = X5 at hY ⊢
      have q0 := hQ3.c0
      have q1 := hQ3.c1
      go_upto_region 13 with (go_at_call 30; go_fit (fitsOk_c q A2 g2 0 c2 _ _ hql (Nat.le_refl _) hQ3.rd); rintro e w6 ⟨rfl, hb6⟩; rw [Hqf.out]; have hP6 := hP3.below hb6; have hY6 := hY.below hb6)
      clear q0 q1 hQ3 hP3 hY hb6
      cases r
      · go_wp2_with fail
        go_ret
        exact ⟨rfl, hP6.bel⟩
      · obtain ⟨b1, b2, b3, b4, b5⟩ := Hbad.out rfl
        have B1 := hide b1
        have B2 := hide b2
        have B4 := hide b4
        have B5 := hide b5
        have y0 := hY6.c0
        have y1 := hY6.c1
        clear b1 b2 b3 b4 b5
        go_upto_region 16 with (go_at_call 33; go_fit (badRing2_q y.n y.bs B1.out B2.out A3 g3 0 c3 _ _ (Nat.le_refl _) hY6.rd); rintro e w7 ⟨rr, k, b', o', c', rfl, r1, r2, r3, r4, hb7⟩; have hP7 := hP6.below hb7)
        obtain ⟨s1, s2⟩ := B5.out rr k r1 r2
        obtain ⟨sm, hsm⟩ : ∃ sm, sumR ⟨n, bs⟩ rr = sm := ⟨_, rfl⟩
        rw [hsm] at s2
        have S1 := hide s1
        have Hsm := hide hsm
        have hr16 : rr.length ≤ 16 := by omega
        have hwl : IntKind.i64.wrap ((sp + 1) * (rr.length : Int)) = (sp + 1) * (rr.length : Int) := by
          have a1 : (sp + 1) * (rr.length : Int) ≤ 100 * 6 := Int.mul_le_mul (by omega) (by omega) (by omega) (by omega)
          have a2 : 0 ≤ (sp + 1) * (rr.length : Int) := Int.mul_nonneg (by omega) (by omega)
          exact IntWalk.i64_in _ (by omega)
        obtain ⟨pr, hpr⟩ : ∃ pr, (sp + 1) * (rr.length : Int) = pr := ⟨_, rfl⟩
        rw [hpr] at s2 hwl
        clear y0 y1 hY6 hP6 hb7 r1 r2 s1 hsm
        have p0 := hP7.c0
        have p1 := hP7.c1
        go_wp2_with (go_at_call 34; go_fit (ringSum_c n bs rr k sm Hsm.out S1.out r3.1 hr16 B4.out A _ b 0 c b' o' c' _ _ (Nat.le_refl _) hP7.rd r4); rintro e w8 ⟨rfl, hb8⟩; have hP8 := hP7.below hb8)
        go_ret
        exact ⟨rfl, hP8.bel⟩
end Go.Proofs.Ytledgblepdjjlaa
