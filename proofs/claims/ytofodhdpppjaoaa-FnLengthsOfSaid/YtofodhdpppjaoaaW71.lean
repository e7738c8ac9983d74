/-
  The law of LengthsOf: its walk.
-/
import Derived.Test.YtofodhdpppjaoaaP56
import Derived.Test.YtofodhdpppjaoaaS82
import Derived.Test.YtofodhdpppjaoaaD71
import Derived.Test.YtofodhdpppjaoaaL2d
import Derived.Test.YtofodhdpppjaoaaW0
namespace Go.Proofs.Ytofodhdpppjaoaa
set_option linter.unusedVariables false
set_option linter.unusedSimpArgs false
open Go Go.RowKit Pp

theorem planOf_16 (t : List Mk) : (planOf t).bs.length ≤ 16 := by
  unfold planOf
  split
  · split
    · rename_i hp
      unfold planOk at hp
      simp only [Bool.and_eq_true, decide_eq_true_eq] at hp
      exact hp.1.2
    · simp
  · simp
set_option maxHeartbeats 4000000 in
set_option maxRecDepth 100000 in
theorem lawLengths_c (a0 : Option Addr) (len0 cap0 : Nat) (z0 : List Int) (w : World) (w0 : RowU w a0 len0 cap0 z0) :
    Calls Try.prog 6 #[.slice a0 len0 cap0] w fun e w' => e = .returned (.bool true) ∧ Below w.heap.size w w' := by
  obtain ⟨hlc, hAs, hby⟩ := w0.bytes
  clear w0
  by_cases hlen : (1048576 : Int) < (len0 : Int)
  · go_enter Try.func6, Try.ntmps6
    go_wp2_with fail
    go_ret
    exact ⟨rfl, Below.refl _ _⟩
  · go_enter Try.func6, Try.ntmps6
    go_upto_region 4 with (go_at_call 27; go_fit (drawLengths_c a0 len0 cap0 z0 _ (by omega) hlc hAs hby); rintro e w1 ⟨A1, c1, t, rfl, htl, htc, ⟨g1, hr1⟩, hW⟩)
    clear hlen hby hAs hlc
    have htl2 : t.length ≤ 2000000 := by omega
    obtain ⟨x, hx⟩ : ∃ x, backTerm t = x := ⟨_, rfl⟩
    have hxl := backTerm_len (t := t)
    rw [hx] at hxl
    have hxl2 : x.length ≤ 2000000 := by omega
    obtain ⟨q, hq⟩ : ∃ q, planOf t = q := ⟨_, rfl⟩
    obtain ⟨r, hr⟩ : ∃ r, planIs t = r := ⟨_, rfl⟩
    obtain ⟨k, hk⟩ : ∃ k, termOk t = k := ⟨_, rfl⟩
    have hl := planOf_16 t
    rw [hq] at hl
    have hql : q.bs.length ≤ 2000000 := by omega
    have hpf := fun h => plan_facts (t := t) (hr.trans h)
    rw [hq] at hpf
    have hbk := fun h => back_law (t := t) (hk.trans h)
    rw [hx] at hbk
    have hcallA := lengthsOf_q t A1 g1 0 c1 _ w1 (Nat.le_refl _) hr1 htl2
    have hcallB := fun wq hq => sLengthsOf_c t A1 g1 0 c1 _ wq htc (Nat.le_refl _) hq htl2
    have hcallC := fun wq (A : Option Addr) b c hq => lengthsOf_q x A b 0 c _ wq (Nat.le_refl _) hq hxl2
    have hcallD := fun wq hq => backTerm_q t A1 g1 0 c1 _ wq (Nat.le_refl _) hq htl2
    rw [hx] at hcallD
    have Hq := hide hq
    have Hr := hide hr
    have Hk := hide hk
    have Hd := hide hcallD
    clear hx hq hr hcallD
    cases hls : lensOf t with
    | none =>
      rw [hls] at hcallA hcallB hpf hbk
      dsimp only [Option.getD, Option.isSome] at hcallA hcallB hpf
      clear hls
      cases k
      · clear hpf hbk hk
        go_upto_region 8 with (first
          | (go_at_call 28; refine hcallA.mono ?_; clear hcallA; rintro e w2 ⟨rfl, hb2⟩; have hr2 := MkR.next hr1 hb2; have hW2 := bthen hW hb2)
          | (go_at_call 29; refine (hcallB _ hr2).mono ?_; clear hcallB; rintro e w3 ⟨rfl, hb3⟩; have hr3 := MkR.next hr2 hb3; have hW3 := bthen hW2 hb3))
        clear hr1 hr2 hW hW2 hb2 hb3
        go_wp2_with (first
          | (go_at_call 30; go_fit (sTermOk_c t A1 g1 0 c1 _ _ (Nat.le_refl _) hr3 htl2); rintro e w4 ⟨rfl, hb4⟩; rw [Hk.out])
          | (go_at_call 11; go_fit (alive_c _); rintro e w6 ⟨rfl, hb6⟩))
        go_ret
        exact ⟨rfl, bthen (bthen hW3 hb4) hb6⟩
      · obtain ⟨hb1, hb2'⟩ := hbk rfl
        rw [hb1] at hcallC
        dsimp only [Option.getD, Option.isSome] at hcallC
        have Hcc := hide hcallC
        clear hb1 hb2' hcallC hbk hk
        go_upto_region 8 with (first
          | (go_at_call 28; refine hcallA.mono ?_; clear hcallA; rintro e w2 ⟨rfl, hb2⟩; have hr2 := MkR.next hr1 hb2; have hW2 := bthen hW hb2)
          | (go_at_call 29; refine (hcallB _ hr2).mono ?_; clear hcallB; rintro e w3 ⟨rfl, hb3⟩; have hr3 := MkR.next hr2 hb3; have hW3 := bthen hW2 hb3))
        clear hr1 hr2 hW hW2 hb2 hb3
        go_upto_region 10 with (go_at_call 30; go_fit (sTermOk_c t A1 g1 0 c1 _ _ (Nat.le_refl _) hr3 htl2); rintro e w4 ⟨rfl, hb4⟩; rw [Hk.out])
        have hr4 := MkR.next hr3 hb4
        have hW4 := bthen hW3 hb4
        clear hr3 hW3 hb4
        go_upto_region 11 with (go_at_call 10; go_fit (planOf_q t q r Hq.out Hr.out A1 g1 0 c1 _ _ (Nat.le_refl _) hr4 htl2); rintro e w5 ⟨A3, c3, g3, rfl, hr5, own3, hb5⟩)
        have hW5 := bthen hW4 hb5
        have hp := po_new (w0 := w) (t := 29) (n := q.n) (c := c3) hW5 hr5
        have hal : Below w5.heap.size w5 (w5.alloc (.cells #[.int .i64 q.n, .slice A3 q.bs.length c3] 29)) := by go_grown
        have hr6 := MkR.next (MkR.next hr4 hb5) hal
        clear hr5 own3 hb5 hr4 hW4 hW5 hal
        generalize w5.alloc (.cells #[.int .i64 q.n, .slice A3 q.bs.length c3] 29) = W3 at hp hr6 ⊢
        generalize w5.heap.size = X3 at hp ⊢
        cases r
        · clear hpf
          go_wp2_with (first
            | (go_at_call 23; refine (Hd.out _ hr6).mono ?_; rintro e w7 ⟨A4, c4, rfl, own4, hb7⟩; obtain ⟨g4, hr4⟩ := OwnM.reads own4)
            | (go_at_call 28; refine (Hcc.out _ A4 g4 c4 hr4).mono ?_; rintro e w8 ⟨rfl, hb8⟩)
            | (go_at_call 11; go_fit (alive_c _); rintro e w9 ⟨rfl, hb9⟩))
          go_ret
          exact ⟨rfl, bthen (bthen (bthen hp.bel hb7) hb8) hb9⟩
        · obtain ⟨f1, f2, -⟩ := hpf rfl
          have Hf2 := hide f2
          clear hpf f1 f2
          have p0 := hp.c0
          have p1 := hp.c1
          obtain ⟨lv, hlv⟩ : ∃ lv, Pp.leastOf q 0 1 = lv := ⟨_, rfl⟩
          obtain ⟨mv, hmv⟩ : ∃ mv, mostOf q 0 1 = mv := ⟨_, rfl⟩
          have Hlv := hide hlv
          have Hmv := hide hmv
          clear hlv hmv
          go_upto_region 13 with (go_at_call 31; go_fit (leastOf_c q 0 1 A3 g3 0 c3 _ _ hql (Nat.le_refl _) hp.rd); rintro e w7 ⟨rfl, hb7⟩; rw [Hlv.out])
          replace hp := hp.below hb7
          replace hr6 := MkR.next hr6 hb7
          clear p0 p1 hb7
          have p0 := hp.c0
          have p1 := hp.c1
          go_upto_region 14 with (go_at_call 24; go_fit (mostOf_c q 0 1 A3 g3 0 c3 _ _ hql (Nat.le_refl _) hp.rd); rintro e w8 ⟨rfl, hb8⟩; rw [Hmv.out])
          replace hp := hp.below hb8
          replace hr6 := MkR.next hr6 hb8
          clear p0 p1 hb8
          have p0 := hp.c0
          have p1 := hp.c1
          go_upto_region 16 with (go_at_call 32; go_fit (fitsOk_c q A3 g3 0 c3 _ _ hql (Nat.le_refl _) hp.rd); rintro e w9 ⟨rfl, hb9⟩; rw [Hf2.out])
          replace hp := hp.below hb9
          replace hr6 := MkR.next hr6 hb9
          go_wp2_with (first
            | (go_at_call 23; refine (Hd.out _ hr6).mono ?_; rintro e w10 ⟨A4, c4, rfl, own4, hb10⟩; obtain ⟨g4, hr4⟩ := OwnM.reads own4)
            | (go_at_call 28; refine (Hcc.out _ A4 g4 c4 hr4).mono ?_; rintro e w11 ⟨rfl, hb11⟩)
            | (go_at_call 11; go_fit (alive_c _); rintro e w12 ⟨rfl, hb12⟩))
          go_ret
          exact ⟨rfl, bthen (bthen (bthen hp.bel hb10) hb11) hb12⟩
    | some uv =>
      obtain ⟨u, v⟩ := uv
      obtain rfl : k = true := by
        obtain ⟨a, ha, -⟩ := lensOf_some hls
        rw [← hk]; unfold termOk; rw [ha]; rfl
      have huv := lensOf_le hls
      rw [hls] at hcallA hcallB hpf hbk
      dsimp only [Option.getD, Option.isSome] at hcallA hcallB hpf
      obtain ⟨hb1, hb2'⟩ := hbk rfl
      rw [hb1] at hcallC
      dsimp only [Option.getD, Option.isSome] at hcallC
      have Hcc := hide hcallC
      obtain ⟨huv1, huv2, huv3⟩ := huv
      clear hb1 hb2' hcallC hbk hk hls
      go_upto_region 8 with (first
        | (go_at_call 28; refine hcallA.mono ?_; clear hcallA; rintro e w2 ⟨rfl, hb2⟩; have hr2 := MkR.next hr1 hb2; have hW2 := bthen hW hb2)
        | (go_at_call 29; refine (hcallB _ hr2).mono ?_; clear hcallB; rintro e w3 ⟨rfl, hb3⟩; have hr3 := MkR.next hr2 hb3; have hW3 := bthen hW2 hb3))
      clear hr1 hr2 hW hW2 hb2 hb3
      go_upto_region 10 with (go_at_call 30; go_fit (sTermOk_c t A1 g1 0 c1 _ _ (Nat.le_refl _) hr3 htl2); rintro e w4 ⟨rfl, hb4⟩; rw [Hk.out])
      have hr4 := MkR.next hr3 hb4
      have hW4 := bthen hW3 hb4
      clear hr3 hW3 hb4
      go_upto_region 11 with (go_at_call 10; go_fit (planOf_q t q r Hq.out Hr.out A1 g1 0 c1 _ _ (Nat.le_refl _) hr4 htl2); rintro e w5 ⟨A3, c3, g3, rfl, hr5, own3, hb5⟩)
      have hW5 := bthen hW4 hb5
      have hp := po_new (w0 := w) (t := 29) (n := q.n) (c := c3) hW5 hr5
      have hal : Below w5.heap.size w5 (w5.alloc (.cells #[.int .i64 q.n, .slice A3 q.bs.length c3] 29)) := by go_grown
      have hr6 := MkR.next (MkR.next hr4 hb5) hal
      clear hr5 own3 hb5 hr4 hW4 hW5 hal
      generalize w5.alloc (.cells #[.int .i64 q.n, .slice A3 q.bs.length c3] 29) = W3 at hp hr6 ⊢
      generalize w5.heap.size = X3 at hp ⊢
      cases r
      · clear hpf
        go_wp2_with (first
          | (go_at_call 23; refine (Hd.out _ hr6).mono ?_; rintro e w7 ⟨A4, c4, rfl, own4, hb7⟩; obtain ⟨g4, hr4⟩ := OwnM.reads own4)
          | (go_at_call 28; refine (Hcc.out _ A4 g4 c4 hr4).mono ?_; rintro e w8 ⟨rfl, hb8⟩)
          | (go_at_call 11; go_fit (alive_c _); rintro e w9 ⟨rfl, hb9⟩))
        go_ret
        exact ⟨rfl, bthen (bthen (bthen hp.bel hb7) hb8) hb9⟩
      · obtain ⟨f1, f2, f3⟩ := hpf rfl
        obtain ⟨f3, f4⟩ := f3 u v rfl
        have Hf2 := hide f2
        have Hmv := hide f3
        have Hlv := hide f4
        clear hpf f1 f2 f3 f4
        have p0 := hp.c0
        have p1 := hp.c1
        go_upto_region 13 with (go_at_call 31; go_fit (leastOf_c q 0 1 A3 g3 0 c3 _ _ hql (Nat.le_refl _) hp.rd); rintro e w7 ⟨rfl, hb7⟩; rw [Hlv.out])
        replace hp := hp.below hb7
        replace hr6 := MkR.next hr6 hb7
        clear p0 p1 hb7
        have p0 := hp.c0
        have p1 := hp.c1
        go_upto_region 14 with (go_at_call 24; go_fit (mostOf_c q 0 1 A3 g3 0 c3 _ _ hql (Nat.le_refl _) hp.rd); rintro e w8 ⟨rfl, hb8⟩; rw [Hmv.out])
        replace hp := hp.below hb8
        replace hr6 := MkR.next hr6 hb8
        clear p0 p1 hb8
        have p0 := hp.c0
        have p1 := hp.c1
        go_upto_region 16 with (go_at_call 32; go_fit (fitsOk_c q A3 g3 0 c3 _ _ hql (Nat.le_refl _) hp.rd); rintro e w9 ⟨rfl, hb9⟩; rw [Hf2.out])
        replace hp := hp.below hb9
        replace hr6 := MkR.next hr6 hb9
        go_wp2_with (first
          | (go_at_call 23; refine (Hd.out _ hr6).mono ?_; rintro e w10 ⟨A4, c4, rfl, own4, hb10⟩; obtain ⟨g4, hr4⟩ := OwnM.reads own4)
          | (go_at_call 28; refine (Hcc.out _ A4 g4 c4 hr4).mono ?_; rintro e w11 ⟨rfl, hb11⟩)
          | (go_at_call 11; go_fit (alive_c _); rintro e w12 ⟨rfl, hb12⟩))
        go_ret
        exact ⟨rfl, bthen (bthen (bthen hp.bel hb10) hb11) hb12⟩
end Go.Proofs.Ytofodhdpppjaoaa
