/-
  spec.DealOk.
-/
import Derived.Test.YtdijfkpccbkdfaaL21
import Derived.Test.YtdijfkpccbkdfaaS1
namespace Go.Proofs.Ytdijfkpccbkdfaa
set_option linter.unusedVariables false
set_option linter.unusedSimpArgs false
open Go.RowKit Pp

set_option maxHeartbeats 4000000 in
set_option maxRecDepth 100000 in
theorem sDealOk_c (n : Int) (bs : List Bd) (ps : List Pr) (A A2 : Option Addr) (b o c b2 o2 c2 B : Nat) (w : World) (hn : bs.length ≤ 2000000) (hn2 : ps.length ≤ 2000000) (hB : B ≤ w.heap.size) (hR : BdsR w B b o A bs) (hP : CsR w B b2 o2 A2 ps.length (prCs ps)) :
    Calls Try.prog 41 #[.agg #[.int .i64 n, .slice A bs.length c, .slice A2 ps.length c2]] w fun e w' => e = .returned (.bool (dealOk ⟨n, bs⟩ ps)) ∧ Below w.heap.size w w' := by
  have hD := pd_new (n := n) (c := c) (c2 := c2) (t := 28) hB hR hP
  clear hR hP hB
  cases h1 : planOk ⟨n, bs⟩
  · have Hr : Hid (dealOk ⟨n, bs⟩ ps = false) := dealOk_no (fun h => by rw [h.1] at h1; cases h1)
    have H1 := hide h1
    clear h1
    go_enter Try.func41, Try.ntmps41
    go_upto_region 1 with fail
    generalize w.alloc (.cells #[.int .i64 n, .slice A bs.length c, .slice A2 ps.length c2] 28) = W at hD ⊢
    have p0 := hD.r.c0
    have p1 := hD.r.c1
    have p2 := hD.r.c2
    go_wp2_with (go_at_call 76; go_fit (sPlanOk_c ⟨n, bs⟩ A b o c _ _ hn (Nat.le_refl _) hD.r.rd); rintro e w2 ⟨rfl, hb⟩; rw [H1.out]; replace hD := hD.below hb; clear p0 p1 p2; have p0 := hD.r.c0; have p1 := hD.r.c1; have p2 := hD.r.c2)
    go_ret
    exact ⟨by rw [Hr.out]; rfl, hD.bel⟩
  have hn6 := (planOk_iff.1 h1).1
  obtain ⟨hn0, hn1⟩ := hn6
  dsimp only at hn0 hn1
  by_cases h2 : 12 < bs.length
  · have Hr : Hid (dealOk ⟨n, bs⟩ ps = false) := dealOk_no (fun h => by have := h.2.1; dsimp only at this; omega)
    have H1 := hide h1
    have hz : (12 : Int) < (bs.length : Int) := by omega
    clear h1
    go_enter Try.func41, Try.ntmps41
    go_upto_region 1 with fail
    generalize w.alloc (.cells #[.int .i64 n, .slice A bs.length c, .slice A2 ps.length c2] 28) = W at hD ⊢
    have p0 := hD.r.c0
    have p1 := hD.r.c1
    have p2 := hD.r.c2
    go_wp2_with (go_at_call 76; go_fit (sPlanOk_c ⟨n, bs⟩ A b o c _ _ hn (Nat.le_refl _) hD.r.rd); rintro e w2 ⟨rfl, hb⟩; rw [H1.out]; replace hD := hD.below hb; clear p0 p1 p2; have p0 := hD.r.c0; have p1 := hD.r.c1; have p2 := hD.r.c2)
    go_ret
    exact ⟨by rw [Hr.out]; rfl, hD.bel⟩
  have hz : ¬ (12 : Int) < (bs.length : Int) := by omega
  by_cases h3 : 2 < ps.length
  · have Hr : Hid (dealOk ⟨n, bs⟩ ps = false) := dealOk_no (fun h => by have := h.2.2.1; omega)
    have H1 := hide h1
    have hzz : (2 : Int) < (ps.length : Int) := by omega
    clear h1
    go_enter Try.func41, Try.ntmps41
    go_upto_region 1 with fail
    generalize w.alloc (.cells #[.int .i64 n, .slice A bs.length c, .slice A2 ps.length c2] 28) = W at hD ⊢
    have p0 := hD.r.c0
    have p1 := hD.r.c1
    have p2 := hD.r.c2
    go_wp2_with (go_at_call 76; go_fit (sPlanOk_c ⟨n, bs⟩ A b o c _ _ hn (Nat.le_refl _) hD.r.rd); rintro e w2 ⟨rfl, hb⟩; rw [H1.out]; replace hD := hD.below hb; clear p0 p1 p2; have p0 := hD.r.c0; have p1 := hD.r.c1; have p2 := hD.r.c2)
    go_ret
    exact ⟨by rw [Hr.out]; rfl, hD.bel⟩
  have hzz : ¬ (2 : Int) < (ps.length : Int) := by omega
  have HOk : Hid (PrsOk n ps ps.length → dealOk ⟨n, bs⟩ ps = true) := dealOk_len h1 (by omega) (by omega)
  have H1 := hide h1
  clear h1
  go_enter Try.func41, Try.ntmps41
  go_upto_region 1 with fail
  generalize w.alloc (.cells #[.int .i64 n, .slice A bs.length c, .slice A2 ps.length c2] 28) = W at hD ⊢
  have p0 := hD.r.c0
  have p1 := hD.r.c1
  have p2 := hD.r.c2
  go_upto_region 4 with (go_at_call 76; go_fit (sPlanOk_c ⟨n, bs⟩ A b o c _ _ hn (Nat.le_refl _) hD.r.rd); rintro e w2 ⟨rfl, hb⟩; rw [H1.out]; replace hD := hD.below hb; clear p0 p1 p2; have p0 := hD.r.c0; have p1 := hD.r.c1; have p2 := hD.r.c2)
  go_loopg [3] ps.length (fun gh i wr => ∃ k : Nat, k ≤ ps.length ∧ gh = ps.length - k ∧ i = .int .i64 k ∧ PD w wr w.heap.size b o n A c bs b2 o2 A2 c2 ps ∧ Hid (PrsOk n ps k))
  case atStart => exact ⟨0, Nat.zero_le _, rfl, rfl, hD, fun i x h => by omega⟩
  case round =>
    clear hD p0 p1 p2
    obtain ⟨k, hk, rfl, rfl, hD, hA⟩ := hrel
    have p0 := hD.r.c0
    have p1 := hD.r.c1
    have p2 := hD.r.c2
    by_cases hlt : k < ps.length
    · have hlt' : (k : Int) < (ps.length : Int) := by omega
      have hk0 : (0 : Int) ≤ (k : Int) := by omega
      obtain rfl := hD.r.rp.addr (by omega)
      have hx := List.getElem?_eq_getElem hlt
      obtain ⟨d0, d1, d2, d3⟩ := pr_cells hD.r.rp hx
      generalize ps[k] = x at hx d0 d1 d2 d3
      have Hx := hide hx
      clear hx
      have hDx := hD.alloc (.cells #[.int .i64 x.f, .int .i64 x.t, .int .i64 x.l, .int .i64 x.h] 40)
      have hX := cb_new wr [.int .i64 x.f, .int .i64 x.t, .int .i64 x.l, .int .i64 x.h] 40
      go_upto_region 7 with fail
      generalize wr.alloc (.cells #[.int .i64 x.f, .int .i64 x.t, .int .i64 x.l, .int .i64 x.h] 40) = Wx at hDx hX ⊢
      generalize wr.heap.size = X at hX ⊢
      clear hD p0 p1 p2 d0 d1 d2 d3
      have hD := hDx
      clear hDx
      have p0 := hD.r.c0
      have p1 := hD.r.c1
      have p2 := hD.r.c2
      have x0 := hX.c 0 _ rfl
      have x1 := hX.c 1 _ rfl
      have x2 := hX.c 2 _ rfl
      have x3 := hX.c 3 _ rfl
      cases h4 : inB x.f 0 (n - 1)
      · have Hr : Hid (dealOk ⟨n, bs⟩ ps = false) := dealOk_bad Hx.out (fun h => by have h' := h.1.1; simp only [inB, Bool.and_eq_false_iff, decide_eq_false_iff_not] at h4; omega)
        have H4 := hide h4
        clear h4
        go_wp2_with (go_at_call 58; go_fit (l1In_c x.f 0 (n - 1) _); rintro e w5 ⟨rfl, rfl⟩; rw [H4.out])
        go_ret
        exact ⟨by rw [Hr.out]; rfl, hD.bel⟩
      cases h5 : inB x.t 0 (n - 1)
      · have Hr : Hid (dealOk ⟨n, bs⟩ ps = false) := dealOk_bad Hx.out (fun h => by have h' := h.1.2.1; simp only [inB, Bool.and_eq_false_iff, decide_eq_false_iff_not] at h5; omega)
        have H4 := hide h4
        have H5 := hide h5
        clear h4 h5
        go_wp2_with (first | (go_at_call 58; go_fit (l1In_c x.f 0 (n - 1) _); rintro e w5 ⟨rfl, rfl⟩; rw [H4.out]) | (go_at_call 58; go_fit (l1In_c x.t 0 (n - 1) _); rintro e w5 ⟨rfl, rfl⟩; rw [H5.out]))
        go_ret
        exact ⟨by rw [Hr.out]; rfl, hD.bel⟩
      by_cases he : x.f = x.t
      · have Hr : Hid (dealOk ⟨n, bs⟩ ps = false) := dealOk_bad Hx.out (fun h => h.1.2.2.1 he)
        have H4 := hide h4
        have H5 := hide h5
        clear h4 h5
        go_wp2_with (first | (go_at_call 58; go_fit (l1In_c x.f 0 (n - 1) _); rintro e w5 ⟨rfl, rfl⟩; rw [H4.out]) | (go_at_call 58; go_fit (l1In_c x.t 0 (n - 1) _); rintro e w5 ⟨rfl, rfl⟩; rw [H5.out]))
        go_ret
        exact ⟨by rw [Hr.out]; rfl, hD.bel⟩
      cases h7 : inB x.l 0 x.h
      · have Hr : Hid (dealOk ⟨n, bs⟩ ps = false) := dealOk_bad Hx.out (fun h => by have h' := h.1.2.2.2; simp only [inB, Bool.and_eq_false_iff, decide_eq_false_iff_not] at h7; omega)
        have H4 := hide h4
        have H5 := hide h5
        have H7 := hide h7
        clear h4 h5 h7
        go_wp2_with (first | (go_at_call 58; go_fit (l1In_c x.f 0 (n - 1) _); rintro e w5 ⟨rfl, rfl⟩; rw [H4.out]) | (go_at_call 58; go_fit (l1In_c x.t 0 (n - 1) _); rintro e w5 ⟨rfl, rfl⟩; rw [H5.out]) | (go_at_call 58; go_fit (l1In_c x.l 0 x.h _); rintro e w5 ⟨rfl, rfl⟩; rw [H7.out]))
        go_ret
        exact ⟨by rw [Hr.out]; rfl, hD.bel⟩
      by_cases h6 : 12 < x.h
      · have Hr : Hid (dealOk ⟨n, bs⟩ ps = false) := dealOk_bad Hx.out (fun h => by have h' := h.1.2.2.2; omega)
        have H4 := hide h4
        have H5 := hide h5
        have H7 := hide h7
        clear h4 h5 h7
        go_wp2_with (first | (go_at_call 58; go_fit (l1In_c x.f 0 (n - 1) _); rintro e w5 ⟨rfl, rfl⟩; rw [H4.out]) | (go_at_call 58; go_fit (l1In_c x.t 0 (n - 1) _); rintro e w5 ⟨rfl, rfl⟩; rw [H5.out]) | (go_at_call 58; go_fit (l1In_c x.l 0 x.h _); rintro e w5 ⟨rfl, rfl⟩; rw [H7.out]))
        go_ret
        exact ⟨by rw [Hr.out]; rfl, hD.bel⟩
      have HP : Hid (PrOk n x) := by
        have h4' := inB_iff.1 h4
        have h5' := inB_iff.1 h5
        have h7' := inB_iff.1 h7
        refine ⟨⟨?_, ?_⟩, ⟨?_, ?_⟩, he, ?_, ?_, ?_⟩ <;> omega
      have H4 := hide h4
      have H5 := hide h5
      have H7 := hide h7
      clear h4 h5 h7
      go_upto_region 10 with (first | (go_at_call 58; go_fit (l1In_c x.f 0 (n - 1) _); rintro e w5 ⟨rfl, rfl⟩; rw [H4.out]) | (go_at_call 58; go_fit (l1In_c x.t 0 (n - 1) _); rintro e w5 ⟨rfl, rfl⟩; rw [H5.out]) | (go_at_call 58; go_fit (l1In_c x.l 0 x.h _); rintro e w5 ⟨rfl, rfl⟩; rw [H7.out]))
      any_goals (exfalso; rename_i hh; rcases hh with hh | hh; exact he (eq_of_beq hh); omega)
      rename_i hxx
      clear he h6 hxx
      go_loopg [5] ps.length (fun gh i wr => ∃ j : Nat, j ≤ ps.length ∧ gh = ps.length - j ∧ i = .int .i64 j ∧ PD w wr w.heap.size b o n A c bs b2 o2 (some ⟨b2, o2, none⟩) c2 ps ∧ CB wr X [.int .i64 x.f, .int .i64 x.t, .int .i64 x.l, .int .i64 x.h] ∧ Hid (Apart ps k x j))
      case atStart => exact ⟨0, Nat.zero_le _, rfl, rfl, hD, hX, fun i x h => by omega⟩
      case round =>
        clear hD hX p0 p1 p2 x0 x1 x2 x3
        obtain ⟨j, hj, rfl, rfl, hD, hX, hAp⟩ := hrel
        have p0 := hD.r.c0
        have p1 := hD.r.c1
        have p2 := hD.r.c2
        by_cases hlj : j < ps.length
        · have hlj' : (j : Int) < (ps.length : Int) := by omega
          have hj0 : (0 : Int) ≤ (j : Int) := by omega
          have hy := List.getElem?_eq_getElem hlj
          obtain ⟨d0, d1, d2, d3⟩ := pr_cells hD.r.rp hy
          generalize ps[j] = y at hy d0 d1 d2 d3
          have Hy := hide hy
          clear hy
          have x1 := hX.c 1 _ rfl
          have hd : ∀ m, Below wr.heap.size wr (wr.drewN m) := fun m => ⟨rfl, rfl, rfl, Nat.le_refl _, fun _ _ => rfl⟩
          have hD2 : ∀ m, PD w (wr.drewN m) w.heap.size b o n A c bs b2 o2 (some ⟨b2, o2, none⟩) c2 ps := fun m => hD.below (hd m)
          have hX2 : ∀ m, CB (wr.drewN m) X [.int .i64 x.f, .int .i64 x.t, .int .i64 x.l, .int .i64 x.h] := fun m => hX.below (hd m)
          by_cases hkj : k = j
          · subst hkj
            go_upto_region 12 with fail
            go_quiet (fail)
            go_wp2_with fail
            go_roundg (ps.length - (k + 1))
            case measure => go_light; omega
            case rel => go_light; exact ⟨k + 1, by omega, rfl, by go_num, hD2 _, hX2 _, apart_step hAp.out Hy.out (fun e => (e rfl).elim)⟩
          · have hkj' : ¬ (j : Int) = (k : Int) := by omega
            have q0 : ((j : Int) != (k : Int)) = true := by simp [hkj']
            by_cases e2 : y.t = x.t
            · have Hr : Hid (dealOk ⟨n, bs⟩ ps = false) := dealOk_bad Hx.out (fun h => (h.2 j y (by omega) Hy.out hkj).2 e2.symm)
              have q2 : (y.t == x.t) = true := by simp [e2]
              go_upto_region 12 with fail
              go_quiet (fail)
              go_wp2_with fail
              go_ret
              exact ⟨by rw [Hr.out]; rfl, (hD2 _).bel⟩
            have q2 : (y.t == x.t) = false := by simp [e2]
            by_cases e1 : y.f = x.t
            · have Hr : Hid (dealOk ⟨n, bs⟩ ps = false) := dealOk_bad Hx.out (fun h => (h.2 j y (by omega) Hy.out hkj).1 e1.symm)
              have q1 : (y.f == x.t) = true := by simp [e1]
              go_upto_region 12 with fail
              go_quiet (fail)
              go_wp2_with fail
              go_ret
              exact ⟨by rw [Hr.out]; rfl, (hD2 _).bel⟩
            have q1 : (y.f == x.t) = false := by simp [e1]
            have HE : Hid (k ≠ j → x.t ≠ y.f ∧ x.t ≠ y.t) := fun _ => ⟨fun e => e1 e.symm, fun e => e2 e.symm⟩
            go_upto_region 12 with fail
            go_quiet (fail)
            go_wp2_with fail
            go_roundg (ps.length - (j + 1))
            case measure => go_light; omega
            case rel => go_light; exact ⟨j + 1, by omega, rfl, by go_num, hD2 _, hX2 _, apart_step hAp.out Hy.out HE.out⟩
        · obtain rfl : j = ps.length := by omega
          have HN : Hid (PrsOk n ps (k + 1)) := prsOk_step hA.out Hx.out ⟨HP.out, hAp.out⟩
          go_wp2_with fail
          go_roundg (ps.length - (k + 1))
          case measure => go_light; omega
          case rel => go_light; exact ⟨k + 1, by omega, rfl, by go_num, hD, HN⟩
    · obtain rfl : k = ps.length := by omega
      have Hr : Hid (dealOk ⟨n, bs⟩ ps = true) := HOk.out hA.out
      go_wp2_with fail
      go_ret
      exact ⟨by rw [Hr.out]; rfl, hD.bel⟩
end Go.Proofs.Ytdijfkpccbkdfaa
