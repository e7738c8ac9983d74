/-
  The law of LastOf: its walk.
-/
import Derived.Test.YtofodhdpppjaoaaP56
import Derived.Test.YtofodhdpppjaoaaS83
import Derived.Test.YtofodhdpppjaoaaD72
import Derived.Test.YtofodhdpppjaoaaL2d
import Derived.Test.YtofodhdpppjaoaaW0
namespace Go.Proofs.Ytofodhdpppjaoaa
set_option linter.unusedVariables false
set_option linter.unusedSimpArgs false
open Go Go.RowKit Pp

theorem planOf_16 (t : List Mk) : (planOf t).bs.length ≤ 16 := by
  unfold planOf
  split
  · split
    · rename_i hp
      unfold planOk at hp
      simp only [Bool.and_eq_true, decide_eq_true_eq] at hp
      exact hp.1.2
    · simp
  · simp
theorem last_no {t : List Mk} {xs : List Int} (h : (lastOf t xs).2 = false) : (lastOf t xs).1 = -1 := by
  unfold lastOf at h ⊢
  cases ht : termOf t with
  | none => rfl
  | some a =>
    rw [ht] at h
    dsimp only at h ⊢
    split at h
    · cases h
    · rename_i hc; rw [if_neg hc]
set_option maxHeartbeats 4000000 in
set_option maxRecDepth 100000 in
theorem lawLast_c (a0 : Option Addr) (len0 cap0 : Nat) (z0 : List Int) (w : World) (w0 : RowU w a0 len0 cap0 z0) :
    Calls Try.prog 7 #[.slice a0 len0 cap0] w fun e w' => e = .returned (.bool true) ∧ Below w.heap.size w w' := by
  obtain ⟨hlc, hAs, hby⟩ := w0.bytes
  clear w0
  by_cases hlen : (1048576 : Int) < (len0 : Int)
  · go_enter Try.func7, Try.ntmps7
    go_wp2_with fail
    go_ret
    exact ⟨rfl, Below.refl _ _⟩
  · go_enter Try.func7, Try.ntmps7
    go_upto_region 4 with (go_at_call 33; go_fit (drawLast_c a0 len0 cap0 z0 _ (by omega) hlc hAs hby); rintro e w1 ⟨v, rfl, ⟨A1, c1, t, A2, c2, xs, rfl, htl, htc, hxl, hxc, hxb, ⟨g1, hr1⟩, ⟨g2, hI1⟩⟩, hW⟩)
    clear hlen hby hAs hlc
    have htl2 : t.length ≤ 2000000 := by omega
    obtain ⟨q, hq⟩ : ∃ q, planOf t = q := ⟨_, rfl⟩
    obtain ⟨r, hr⟩ : ∃ r, planIs t = r := ⟨_, rfl⟩
    have hl := planOf_16 t
    rw [hq] at hl
    have hql : q.bs.length ≤ 2000000 := by omega
    obtain ⟨n, hn⟩ : ∃ n, (lastOf t xs).1 = n := ⟨_, rfl⟩
    obtain ⟨s, hs⟩ : ∃ s, (lastOf t xs).2 = s := ⟨_, rfl⟩
    have hno := fun h => last_no (t := t) (xs := xs) (hs.trans h)
    have hyes := fun h => last_law (t := t) (xs := xs) (hs.trans h)
    rw [hn] at hno hyes
    rw [hq, hr] at hyes
    have hcA := lastOf_c t xs hxb A1 A2 g1 0 c1 g2 0 c2 _ w1 (Nat.le_refl _) hr1 hI1 htl2 hxc
    have hcB := fun wq hq hj => sLastOf_c t xs hxb A1 A2 g1 0 c1 g2 0 c2 _ wq htc (Nat.le_refl _) hq hj htl2
    rw [hn, hs] at hcA hcB
    have Hq := hide hq
    have Hr := hide hr
    clear hq hr hn hs hxb
    have hne : (n != n) = false := by simp
    have hse : (s != s) = false := by simp
    go_upto_region 6 with (first
      | (go_at_call 34; refine hcA.mono ?_; clear hcA; rintro e w2 ⟨rfl, hb2⟩; have hr2 := MkR.next hr1 hb2; have hI2 := hI1.next hb2; have hW2 := bthen hW hb2)
      | (go_at_call 35; refine (hcB _ hr2 hI2).mono ?_; clear hcB; rintro e w3 ⟨rfl, hb3⟩; have hr3 := MkR.next hr2 hb3; have hW3 := bthen hW2 hb3))
    clear hr1 hr2 hW hW2 hb2 hb3 hI1 hI2
    cases s
    · obtain rfl := hno rfl
      clear hyes hno
      go_wp2_with (go_at_call 11; go_fit (alive_c _); rintro e w6 ⟨rfl, hb6⟩)
      go_ret
      exact ⟨rfl, bthen hW3 hb6⟩
    · obtain ⟨u, v, hlu, hu, hv, hm⟩ := hyes rfl
      have Hl := hide hlu
      clear hyes hno hlu
      have hu' : u ≤ n := hu
      go_upto_region 11 with (go_at_call 28; go_fit (lengthsOf_q t A1 g1 0 c1 _ _ (Nat.le_refl _) hr3 htl2); rintro e w4 ⟨rfl, hb4⟩; rw [Hl.out]; dsimp only [Option.getD, Option.isSome])
      have hr4 := MkR.next hr3 hb4
      have hW4 := bthen hW3 hb4
      clear hr3 hW3 hb4
      go_upto_region 12 with (go_at_call 10; go_fit (planOf_q t q r Hq.out Hr.out A1 g1 0 c1 _ _ (Nat.le_refl _) hr4 htl2); rintro e w5 ⟨A3, c3, g3, rfl, hr5, own3, hb5⟩)
      have hW5 := bthen hW4 hb5
      have hp := po_new (w0 := w) (t := 29) (n := q.n) (c := c3) hW5 hr5
      clear hr5 own3 hb5 hr4 hW4 hW5
      generalize w5.alloc (.cells #[.int .i64 q.n, .slice A3 q.bs.length c3] 29) = W3 at hp ⊢
      generalize w5.heap.size = X3 at hp ⊢
      have p0 := hp.c0
      have p1 := hp.c1
      cases r
      · clear hm
        go_wp2_with fail
        go_ret
        exact ⟨rfl, hp.bel⟩
      · have Hm := hide (hm rfl)
        clear hm
        go_wp2_with (go_at_call 36; go_fit (mayBeOk_c q 0 1 n A3 g3 0 c3 _ _ hql (Nat.le_refl _) hp.rd); rintro e w7 ⟨rfl, hb7⟩; rw [Hm.out])
        go_ret
        exact ⟨rfl, bthen hp.bel hb7⟩
end Go.Proofs.Ytofodhdpppjaoaa
