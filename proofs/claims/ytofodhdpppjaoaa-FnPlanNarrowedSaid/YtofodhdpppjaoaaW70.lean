/-
  The law of PlanNarrowed: its walk.
-/
import Derived.Test.YtofodhdpppjaoaaP56
import Derived.Test.YtofodhdpppjaoaaD71
import Derived.Test.YtofodhdpppjaoaaI1
import Derived.Test.YtofodhdpppjaoaaW0
namespace Go.Proofs.Ytofodhdpppjaoaa
set_option linter.unusedVariables false
set_option linter.unusedSimpArgs false
open Go Go.RowKit Pp

theorem planOf_16 (t : List Mk) : (planOf t).bs.length ≤ 16 := by
  unfold planOf
  split
  · split
    · rename_i hp
      unfold planOk at hp
      simp only [Bool.and_eq_true, decide_eq_true_eq] at hp
      exact hp.1.2
    · simp
  · simp
set_option maxHeartbeats 4000000 in
set_option maxRecDepth 100000 in
theorem lawNarrowed_c (a0 : Option Addr) (len0 cap0 : Nat) (z0 : List Int) (w : World) (w0 : RowU w a0 len0 cap0 z0) :
    Calls Try.prog 3 #[.slice a0 len0 cap0] w fun e w' => e = .returned (.bool true) ∧ Below w.heap.size w w' := by
  obtain ⟨hlc, hAs, hby⟩ := w0.bytes
  clear w0
  by_cases hlen : (1048576 : Int) < (len0 : Int)
  · go_enter Try.func3, Try.ntmps3
    go_wp2_with fail
    go_ret
    exact ⟨rfl, Below.refl _ _⟩
  · go_enter Try.func3, Try.ntmps3
    go_upto_region 4 with (go_at_call 8; go_fit (drawNarrowed_c a0 len0 cap0 z0 _ (by omega) hlc hAs hby); rintro e w1 ⟨A1, c1, t, rfl, htl, htc, ⟨g1, hr1⟩, hW⟩)
    clear hlen hby hAs hlc
    have htl2 : t.length ≤ 2000000 := by omega
    obtain ⟨s, hs⟩ : ∃ s, (lensOf t).isSome = s := ⟨_, rfl⟩
    obtain ⟨x, hx⟩ : ∃ x, narrowOf t = x := ⟨_, rfl⟩
    have hxl := narrow_len (t := t)
    rw [hx] at hxl
    have hxl2 : x.length ≤ 2000000 := by omega
    obtain ⟨q, hq⟩ : ∃ q, planOf t = q := ⟨_, rfl⟩
    obtain ⟨r, hr⟩ : ∃ r, planIs t = r := ⟨_, rfl⟩
    obtain ⟨q', hq'⟩ : ∃ q, planOf x = q := ⟨_, rfl⟩
    obtain ⟨r', hr'⟩ : ∃ r, planIs x = r := ⟨_, rfl⟩
    have hl := planOf_16 t
    have hl' := planOf_16 x
    rw [hq] at hl
    rw [hq'] at hl'
    have hlaw : Hid (s = true → r = true → r' = true ∧ alike q q' = true) := fun h1 h2 => by
      have := narrow_law (t := t) (hs.trans h1) (hr.trans h2)
      rw [hx, hq, hq', hr'] at this
      exact this
    have Hs := hide hs
    have Hx := hide hx
    have Hq := hide hq
    have Hr := hide hr
    have Hq' := hide hq'
    have Hr' := hide hr'
    have hcall := narrowedOf_q t A1 g1 0 c1 _ w1 (Nat.le_refl _) hr1 htl2
    rw [hx, hs] at hcall
    clear hs hx hq hr hq' hr'
    go_upto_region 5 with (go_at_call 9; refine hcall.mono ?_; clear hcall; rintro e w2 ⟨A2, c2, rfl, hown2, hb2⟩)
    obtain ⟨g2, hr2⟩ := OwnM.reads hown2
    replace hW := bthen hW hb2
    replace hr1 := MkR.next hr1 hb2
    clear hown2 hb2
    go_upto_region 6 with (go_at_call 10; go_fit (planOf_q t q r Hq.out Hr.out A1 g1 0 c1 _ _ (Nat.le_refl _) hr1 htl2); rintro e w3 ⟨A3, c3, g3, rfl, hr3, own3, hb3⟩)
    replace hW := bthen hW hb3
    replace hr2 := MkR.next hr2 hb3
    have hp := po_new (w0 := w) (t := 29) (n := q.n) (c := c3) hW hr3
    have hal : Below w3.heap.size w3 (w3.alloc (.cells #[.int .i64 q.n, .slice A3 q.bs.length c3] 29)) := by go_grown
    replace hr2 := MkR.next hr2 hal
    clear hr3 own3 hb3 hr1 hW hal
    generalize w3.alloc (.cells #[.int .i64 q.n, .slice A3 q.bs.length c3] 29) = W3 at hp hr2 ⊢
    generalize w3.heap.size = X3 at hp ⊢
    go_upto_region 7 with (go_at_call 10; go_fit (planOf_q x q' r' Hq'.out Hr'.out A2 g2 0 c2 _ _ (Nat.le_refl _) hr2 hxl2); rintro e w4 ⟨A4, c4, g4, rfl, hr4, own4, hb4⟩)
    replace hp := hp.below hb4
    have hp2 := po_new (w0 := w) (t := 29) (n := q'.n) (c := c4) hp.bel hr4
    have hal : Below w4.heap.size w4 (w4.alloc (.cells #[.int .i64 q'.n, .slice A4 q'.bs.length c4] 29)) := by go_grown
    replace hp := hp.below hal
    clear hr4 own4 hb4 hr2 hal
    generalize w4.alloc (.cells #[.int .i64 q'.n, .slice A4 q'.bs.length c4] 29) = W4 at hp hp2 ⊢
    generalize w4.heap.size = X4 at hp2 ⊢
    cases s
    · go_wp2_with (go_at_call 11; go_fit (alive_c _); rintro e w6 ⟨rfl, hb6⟩)
      go_ret
      exact ⟨rfl, bthen hp.bel hb6⟩
    · cases r
      · go_wp2_with (go_at_call 11; go_fit (alive_c _); rintro e w6 ⟨rfl, hb6⟩)
        go_ret
        exact ⟨rfl, bthen hp.bel hb6⟩
      · obtain ⟨rfl, hak⟩ := hlaw.out rfl rfl
        have Hak := hide hak
        clear hak hlaw
        have p0 := hp.c0
        have p1 := hp.c1
        have q0 := hp2.c0
        have q1 := hp2.c1
        go_wp2_with (go_at_call 12; go_fit (alikeOk_c q q' A3 A4 g3 0 c3 g4 0 c4 _ _ (by omega) (by omega) (Nat.le_refl _) hp.rd hp2.rd); rintro e w6 ⟨rfl, hb6⟩; rw [Hak.out])
        go_ret
        exact ⟨rfl, bthen hp.bel hb6⟩
end Go.Proofs.Ytofodhdpppjaoaa
