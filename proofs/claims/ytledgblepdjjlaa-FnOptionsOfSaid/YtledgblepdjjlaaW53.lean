/-
  The law of OptionsOf: its walk.
-/
import Derived.Test.YtledgblepdjjlaaD53
import Derived.Test.YtledgblepdjjlaaP29
import Derived.Test.YtledgblepdjjlaaL54
import Derived.Test.YtledgblepdjjlaaL58
import Derived.Test.YtledgblepdjjlaaS57
import Derived.Test.YtledgblepdjjlaaW0
import Derived.Test.YtledgblepdjjlaaW4
import Derived.Test.YtledgblepdjjlaaR52
import Derived.Test.YtledgblepdjjlaaZ1
namespace Go.Proofs.Ytledgblepdjjlaa
set_option linter.unusedVariables false
set_option linter.unusedSimpArgs false
open Go.RowKit Pp

set_option maxHeartbeats 1000000 in
set_option maxRecDepth 100000 in
theorem ascend_yes (xs : List Int) (A : Option Addr) (b o c B : Nat) (w : World) (hv : ∀ j, 1 ≤ j → j < xs.length → xs.getD (j - 1) 0 < xs.getD j 0) (hn : xs.length ≤ 2000000) (hB : B ≤ w.heap.size) (hR : IntsR w B b o A xs) :
    Calls Try.prog 63 #[.slice A xs.length c] w fun e w' => e = .returned (.bool true) ∧ Below w.heap.size w w' := by
  have HV := hide hv
  clear hv
  go_enter Try.func63, Try.ntmps63
  go_wp2_with fail
  go_loopg [3] xs.length (fun gh s wr => Below w.heap.size w wr ∧ ∃ k : Nat, 1 ≤ k ∧ gh = xs.length + 1 - k ∧ s = .int .i64 k)
  case atStart => exact ⟨Below.refl _ _, 1, Nat.le_refl _, by omega, rfl⟩
  case round =>
    obtain ⟨hW, k, hk, rfl, rfl⟩ := hrel
    by_cases hlt : k < xs.length
    · have hlt' : (k : Int) < (xs.length : Int) := by omega
      obtain ⟨m, rfl⟩ : ∃ m, k = m + 1 := ⟨k - 1, by omega⟩
      have hwr : IntKind.i64.wrap (((m + 1 : Nat) : Int) - 1) = (m : Int) := by rw [show (((m + 1 : Nat) : Int) - 1) = (m : Int) by omega]; exact IntWalk.i64_in _ (by omega)
      have hm0 : (m : Int) < (xs.length : Int) := by omega
      obtain rfl := hR.addr (by omega)
      have hR' := hR.below (hW.mono hB)
      have d0 := hR'.cell m (by omega)
      have d1 := hR'.cell (m + 1) hlt
      have hv := HV.out (m + 1) (by omega) hlt
      rw [Nat.add_sub_cancel] at hv
      generalize xs.getD m 0 = x at d0 hv
      generalize xs.getD (m + 1) 0 = y at d1 hv
      have hxy : ¬ y ≤ x := by omega
      clear hR' hv
      go_upto_region 4 with fail
      go_region
      go_wp2_with fail
      go_roundg (xs.length + 1 - (m + 2))
      case measure => go_light; omega
      case rel => go_light; exact ⟨bthen hW (by go_grown), m + 2, by omega, rfl, by go_num⟩
    · go_wp2_with fail
      go_ret
      exact ⟨rfl, hW⟩

set_option maxHeartbeats 4000000 in
set_option maxRecDepth 100000 in
theorem lawOptions_c (a0 : Option Addr) (len0 cap0 : Nat) (z0 : List Int) (w : World) (w0 : RowU w a0 len0 cap0 z0) :
    Calls Try.prog 13 #[.slice a0 len0 cap0] w fun e w' => e = .returned (.bool true) ∧ Below w.heap.size w w' := by
  obtain ⟨hlc, hAs, hby⟩ := w0.bytes
  obtain ⟨i0, hi0, hz0, hz1, hz2⟩ := info_parts infoB
  obtain ⟨j0, hj0, hy0, hy1, hy2⟩ := info_parts infoSC
  clear w0
  by_cases hlen : (1048576 : Int) < (len0 : Int)
  · go_enter Try.func13, Try.ntmps13
    go_wp2_with fail
    go_ret
    exact ⟨rfl, Below.refl _ _⟩
  · go_enter Try.func13, Try.ntmps13
    go_upto_region 4 with (go_at_call 61; go_fit (drawOptions_c a0 len0 cap0 z0 _ (by omega) hlc hAs hby); rintro e w1 ⟨n, A, c, bs, A2, c2, cs, b, b2, ch, rfl, hn, hlb, hlcs, HL, hcap, hch, hrd, hrc, hW⟩)
    have hD := cc_law (n := n) (c := c) (c2 := c2) (t := 37) hW hrd hrc
    generalize w1.alloc (.cells #[.int .i64 n, .slice A bs.length c, .slice A2 cs.length c2] 37) = wa at hD ⊢
    generalize w1.heap.size = D at hD ⊢
    clear hW hrd hrc hlen hby hAs
    have hlb' : bs.length ≤ 2000000 := by omega
    have hlc' : cs.length ≤ 2000000 := by omega
    have H3 : Hid (∀ l ∈ cs, l.length ≤ 2000000) := fun l hl => by have := HL.out l hl; omega
    have d0 := hD.r.c0
    have d1 := hD.r.c1
    have d2 := hD.r.c2
    obtain ⟨q, hq⟩ : ∃ q, optionsOf ⟨n, bs⟩ cs ch = q := ⟨_, rfl⟩
    have hql : q.length ≤ 3 := by
      rw [← hq]
      by_cases hok : caseOk ⟨n, bs⟩ cs = true ∧ 0 ≤ ch ∧ ch < cs.length
      · obtain ⟨h1, h2, h3⟩ := hok
        obtain ⟨k, rfl⟩ := Int.eq_ofNat_of_zero_le h2
        have hx := List.getElem?_eq_getElem (show k < cs.length by omega)
        have := (opt_facts h1 hx rfl).1
        have := HL.out _ (List.mem_of_getElem? hx)
        omega
      · rw [options_no]
        · simp
        · cases hc : caseOk ⟨n, bs⟩ cs
          · exact .inl rfl
          · exact .inr fun h => hok ⟨hc, h⟩
    have hql' : q.length ≤ 2000000 := by omega
    have Hq := hide hq
    clear hq
    go_upto_region 7 with (first
      | (go_at_call 60; go_fit (optionsOf_q n bs cs ch q Hq.out A A2 b 0 c b2 0 c2 _ _ hlb' hlc' H3.out (Nat.le_refl _) hD.r.rd hD.r.rc); rintro e w2 ⟨A4, c4, g4, rfl, hr4, -, hb2⟩; have hD2 := hD.below hb2; have e0 := hD2.r.c0; have e1 := hD2.r.c1; have e2 := hD2.r.c2)
      | (go_at_call 62; go_fit (sOptionsOf_q n bs cs ch q Hq.out A A2 b 0 c b2 0 c2 _ _ hlb' hlc' H3.out (Nat.le_refl _) hD2.r.rd hD2.r.rc); rintro e w3 ⟨A6, c6, g6, rfl, hr6, hb3⟩; have hD3 := hD2.below hb3; replace hr4 := (hr4.below hb3).more hb3.size)
      | (go_at_call 58; go_fit (sameInts_yes q A4 A6 g4 0 c4 g6 0 c6 _ _ hql' (Nat.le_refl _) hr4 hr6); rintro e w4 ⟨rfl, hb4⟩; have hD4 := hD3.below hb4; replace hr4 := (hr4.below hb4).more hb4.size))
    clear d0 d1 d2 e0 e1 e2 hD hD2 hD3 hb2 hb3 hb4 hr6
    have d0 := hD4.r.c0
    have d1 := hD4.r.c1
    have d2 := hD4.r.c2
    have dx := hD4.r.ex
    cases hc : caseOk ⟨n, bs⟩ cs
    · have hqn := options_no (v := ch) (.inl hc)
      rw [Hq.out] at hqn
      subst hqn
      have Hc := hide hc
      clear hc
      go_upto_region 8 with (go_at_call 53; go_fit (sCaseOk_c n bs cs A A2 b 0 c b2 0 c2 _ _ hlb' hlc' H3.out (Nat.le_refl _) hD4.r.rd hD4.r.rc); rintro e w5 ⟨rfl, hb5⟩; rw [Hc.out]; have hD5 := hD4.below hb5; have e2 := hD5.r.c2)
      go_wp2_with (go_at_call 31; go_fit (alive_c _); rintro e w6 ⟨rfl, hb6⟩; have hD6 := hD5.below hb6)
      go_ret
      exact ⟨rfl, hD6.bel⟩
    have Hc := hide hc
    by_cases hch0 : ch < 0
    · have hqn := options_no (p := ⟨n, bs⟩) (cs := cs) (v := ch) (.inr (by omega))
      rw [Hq.out] at hqn
      subst hqn
      clear hc
      go_upto_region 8 with (go_at_call 53; go_fit (sCaseOk_c n bs cs A A2 b 0 c b2 0 c2 _ _ hlb' hlc' H3.out (Nat.le_refl _) hD4.r.rd hD4.r.rc); rintro e w5 ⟨rfl, hb5⟩; rw [Hc.out]; have hD5 := hD4.below hb5; have e2 := hD5.r.c2)
      go_wp2_with (go_at_call 31; go_fit (alive_c _); rintro e w6 ⟨rfl, hb6⟩; have hD6 := hD5.below hb6)
      go_ret
      exact ⟨rfl, hD6.bel⟩
    by_cases hch1 : (cs.length : Int) ≤ ch
    · have hqn := options_no (p := ⟨n, bs⟩) (cs := cs) (v := ch) (.inr (by omega))
      rw [Hq.out] at hqn
      subst hqn
      clear hc
      go_upto_region 8 with (go_at_call 53; go_fit (sCaseOk_c n bs cs A A2 b 0 c b2 0 c2 _ _ hlb' hlc' H3.out (Nat.le_refl _) hD4.r.rd hD4.r.rc); rintro e w5 ⟨rfl, hb5⟩; rw [Hc.out]; have hD5 := hD4.below hb5; have e2 := hD5.r.c2)
      go_wp2_with (go_at_call 31; go_fit (alive_c _); rintro e w6 ⟨rfl, hb6⟩; have hD6 := hD5.below hb6)
      go_ret
      exact ⟨rfl, hD6.bel⟩
    obtain ⟨cn, rfl⟩ := Int.eq_ofNat_of_zero_le (show 0 ≤ ch by omega)
    have hcn : cn < cs.length := by omega
    have hx := List.getElem?_eq_getElem hcn
    obtain ⟨l, hl⟩ : ∃ l, cs[cn] = l := ⟨_, rfl⟩
    rw [hl] at hx
    have hl3 := HL.out l (List.mem_of_getElem? hx)
    obtain ⟨f1, f2, f3, f4, f5⟩ := opt_facts hc hx Hq.out
    have F4 := hide f4
    have F5 := hide f5
    have Hx := hide hx
    have hcz : (cn : Int) < (cs.length : Int) := by omega
    have hcz0 : (0 : Int) ≤ (cn : Int) := by omega
    have hcnt : Hid (0 < q.length → countW ⟨n, bs⟩ (cs.set cn (q.map (pickAt l))) = countW ⟨n, bs⟩ cs ∧ 0 < countW ⟨n, bs⟩ cs) := fun h0 => opt_count hc hx Hq.out h0
    have hnone : Hid (q.length = 0 → countW ⟨n, bs⟩ cs = 0) := fun h0 => opt_none hc hx (by rw [Hq.out]; exact List.eq_nil_of_length_eq_zero h0)
    clear hx hl f1 f2 f3 f4 f5 hc hch0 hch1
    have hg1 : ¬ ((cn : Int) < 0) := by omega
    have hg2 : ¬ (cs.length ≤ cn) := by omega
    go_upto_block 0 with (go_at_call 53; go_fit (sCaseOk_c n bs cs A A2 b 0 c b2 0 c2 _ _ hlb' hlc' H3.out (Nat.le_refl _) hD4.r.rd hD4.r.rc); rintro e w5 ⟨rfl, hb5⟩; rw [Hc.out]; have hD5 := hD4.below hb5; have e2 := hD5.r.c2; replace hr4 := (hr4.below hb5).more hb5.size)
    clear d0 d1 d2 dx hD4 hb5 e2
    have d2 := hD5.r.c2
    go_cut [6] (fun s wx => ∃ A7 c7 os, os.length ≤ 3 ∧ s = .slice A7 os.length c7 ∧ Hid (os = q.map (pickAt l)) ∧ CC w wx D b 0 n A c bs b2 0 A2 c2 cs ∧ IntsR wx wx.heap.size g4 0 A4 q ∧ ∃ b7, BdsR wx wx.heap.size b7 0 A7 os)
    case first =>
      go_wp2_with fail
      go_loopg [6, 7] q.length (fun gh s i wr => ∃ (k : Nat) (A7 : Option Addr) (c7 : Nat) (os : List Bd), k ≤ q.length ∧ gh = q.length - k ∧ i = .int .i64 k ∧ os.length ≤ 3 ∧ s = .slice A7 os.length c7 ∧ Hid (os = (q.take k).map (pickAt l)) ∧ OwnB w5.heap.size wr s os ∧ Below w5.heap.size w5 wr)
      case atStart => exact ⟨0, _, _, [], Nat.zero_le _, rfl, rfl, by simp, rfl, by simp [Hid], own_empty (at_new rfl) (Nat.le_refl _), by go_grown⟩
      case round =>
        clear d2
        obtain ⟨k, A7, c7, os, hk, rfl, rfl, hol, rfl, Hos, hO, hW⟩ := hrel
        have hD := hD5.below hW
        have hI := (hr4.below hW).more hW.size
        have d2 := hD.r.c2
        by_cases hlt : k < q.length
        · have hlt' : (k : Int) < (q.length : Int) := by omega
          have hk0 : (0 : Int) ≤ (k : Int) := by omega
          obtain rfl := hI.addr (by omega)
          obtain rfl := hD.r.rc.addr (by omega)
          have x0 := hI.cell k hlt
          have hqk : q[k]? = some (q.getD k 0) := by rw [List.getD_eq_getElem?_getD, List.getElem?_eq_getElem hlt]; rfl
          have hv := F4.out _ (List.mem_of_getElem? hqk)
          have HN : Hid (os ++ [pickAt l (q.getD k 0)] = (q.take (k + 1)).map (pickAt l)) := by
            unfold Hid
            rw [Hos.out, List.take_add_one, hqk]
            simp
          have hg := pickAt_get hv
          generalize q.getD k 0 = v at x0 hqk hv HN hg
          obtain ⟨vn, rfl⟩ := Int.eq_ofNat_of_zero_le hv.1
          rw [Int.toNat_natCast] at hg
          obtain ⟨A3, b3, o3, c3, hcell5, hrl5⟩ := hD5.r.rc.row cn l Hx.out
          have hb2x := hD5.r.rc.lt (by omega)
          have hrl := hrl5.below hW
          have hcell := (hW.cell (p := ⟨b2, 0 + cn, none⟩) hb2x).trans hcell5
          obtain rfl := hrl.addr (by omega)
          have hb3x := hrl5.lt (by omega)
          have hg4x := hr4.lt (by omega)
          have hDx := hD5.r.ex
          clear hcell5 hrl5
          have y0 := hrl.c0 vn _ hg
          have y1 := hrl.c1 vn _ hg
          have y2 := hrl.c2 vn _ hg
          have hvl : (vn : Int) < (l.length : Int) := by omega
          have hvl0 : (0 : Int) ≤ (vn : Int) := by omega
          generalize pickAt l (vn : Int) = x at y0 y1 y2 HN
          rw [Nat.zero_add] at x0 hcell
          have hws := hW.size
          clear hqk hv hg hrl hk
          go_upto_region 13 with fail
          refine wp_regionE (fun w' => w'.cell? ⟨D, 2, none⟩ = some (.slice (some ⟨b2, 0, none⟩) cs.length c2) ∧ w'.cell? ⟨b2, cn, none⟩ = some (.slice (some ⟨b3, o3, none⟩) l.length c3) ∧ w'.cell? ⟨g4, k, none⟩ = some (.int .i64 (vn : Int)) ∧ w'.cell? ⟨b3, o3 + vn * 3, none⟩ = some (.int .i64 x.f) ∧ w'.cell? ⟨b3, o3 + vn * 3 + 1, none⟩ = some (.int .i64 x.t) ∧ w'.cell? ⟨b3, o3 + vn * 3 + 2, none⟩ = some (.int .i64 x.m)) 14 (by kernel_rfl) ?_
          change wpE _ _ _ _ _ _ 15 #[false, false, false, false, false, false, false, false, false, false, false, false, false, false, false] _ _
          have hS0 : wr.drew.cell? ⟨D, 2, none⟩ = some (.slice (some ⟨b2, 0, none⟩) cs.length c2) ∧ wr.drew.cell? ⟨b2, cn, none⟩ = some (.slice (some ⟨b3, o3, none⟩) l.length c3) ∧ wr.drew.cell? ⟨g4, k, none⟩ = some (.int .i64 (vn : Int)) ∧ wr.drew.cell? ⟨b3, o3 + vn * 3, none⟩ = some (.int .i64 x.f) ∧ wr.drew.cell? ⟨b3, o3 + vn * 3 + 1, none⟩ = some (.int .i64 x.t) ∧ wr.drew.cell? ⟨b3, o3 + vn * 3 + 2, none⟩ = some (.int .i64 x.m) := ⟨d2, hcell, x0, y0, y1, y2⟩
          refine wpE_take' (v := ?_) 0 [14] (of_decide_eq_true (by kernel_rfl)) (by kernel_rfl) (by kernel_rfl) (by kernel_rfl) (by kernel_rfl) (fun _ _ _ h => h) (by kernel_rfl) ?_ hS0 ?_
          rotate_left
          · intro w' hSw
            simp only [List.getElem_toArray, List.getElem_cons_succ, List.getElem_cons_zero]
            go_simp
            all_goals with_reducible rfl
          simp only [List.getElem_toArray, List.getElem_cons_succ, List.getElem_cons_zero, Act.put, List.setIfInBounds_toArray, List.set_cons_zero, List.set_cons_succ]
          refine wpE_take' (v := ?_) 1 [14] (of_decide_eq_true (by kernel_rfl)) (by kernel_rfl) (by kernel_rfl) (by kernel_rfl) (by kernel_rfl) (fun _ _ _ h => h) (by kernel_rfl) ?_ hS0 ?_
          rotate_left
          · intro w' hSw
            simp only [List.getElem_toArray, List.getElem_cons_succ, List.getElem_cons_zero]
            go_simp
            all_goals with_reducible rfl
          simp only [List.getElem_toArray, List.getElem_cons_succ, List.getElem_cons_zero, Act.put, List.setIfInBounds_toArray, List.set_cons_zero, List.set_cons_succ]
          refine wpE_take' (v := ?_) 2 [14] (of_decide_eq_true (by kernel_rfl)) (by kernel_rfl) (by kernel_rfl) (by kernel_rfl) (by kernel_rfl) (fun _ _ _ h => h) (by kernel_rfl) ?_ hS0 ?_
          rotate_left
          · intro w' hSw
            simp only [List.getElem_toArray, List.getElem_cons_succ, List.getElem_cons_zero]
            go_simp
            all_goals with_reducible rfl
          simp only [List.getElem_toArray, List.getElem_cons_succ, List.getElem_cons_zero, Act.put, List.setIfInBounds_toArray, List.set_cons_zero, List.set_cons_succ]
          refine wpE_take' (v := ?_) 3 [14] (of_decide_eq_true (by kernel_rfl)) (by kernel_rfl) (by kernel_rfl) (by kernel_rfl) (by kernel_rfl) (fun _ _ _ h => h) (by kernel_rfl) ?_ hS0 ?_
          rotate_left
          · intro w' hSw
            simp only [List.getElem_toArray, List.getElem_cons_succ, List.getElem_cons_zero]
            go_simp
            all_goals with_reducible rfl
          simp only [List.getElem_toArray, List.getElem_cons_succ, List.getElem_cons_zero, Act.put, List.setIfInBounds_toArray, List.set_cons_zero, List.set_cons_succ]
          refine wpE_take' (v := ?_) 4 [14] (of_decide_eq_true (by kernel_rfl)) (by kernel_rfl) (by kernel_rfl) (by kernel_rfl) (by kernel_rfl) (fun _ _ _ h => h) (by kernel_rfl) ?_ hS0 ?_
          rotate_left
          · intro w' hSw
            simp only [List.getElem_toArray, List.getElem_cons_succ, List.getElem_cons_zero]
            go_simp
            all_goals with_reducible rfl
          simp only [List.getElem_toArray, List.getElem_cons_succ, List.getElem_cons_zero, Act.put, List.setIfInBounds_toArray, List.set_cons_zero, List.set_cons_succ]
          refine wpE_take' (v := ?_) 5 [14] (of_decide_eq_true (by kernel_rfl)) (by kernel_rfl) (by kernel_rfl) (by kernel_rfl) (by kernel_rfl) (fun _ _ _ h => h) (by kernel_rfl) ?_ hS0 ?_
          rotate_left
          · intro w' hSw
            simp only [List.getElem_toArray, List.getElem_cons_succ, List.getElem_cons_zero]
            go_simp
            all_goals with_reducible rfl
          simp only [List.getElem_toArray, List.getElem_cons_succ, List.getElem_cons_zero, Act.put, List.setIfInBounds_toArray, List.set_cons_zero, List.set_cons_succ]
          refine wpE_take' (v := ?_) 6 [14] (of_decide_eq_true (by kernel_rfl)) (by kernel_rfl) (by kernel_rfl) (by kernel_rfl) (by kernel_rfl) (fun _ _ _ h => h) (by kernel_rfl) ?_ hS0 ?_
          rotate_left
          · intro w' hSw
            simp only [List.getElem_toArray, List.getElem_cons_succ, List.getElem_cons_zero]
            go_simp
            all_goals with_reducible rfl
          simp only [List.getElem_toArray, List.getElem_cons_succ, List.getElem_cons_zero, Act.put, List.setIfInBounds_toArray, List.set_cons_zero, List.set_cons_succ]
          refine wpE_take' (v := ?_) 7 [14] (of_decide_eq_true (by kernel_rfl)) (by kernel_rfl) (by kernel_rfl) (by kernel_rfl) (by kernel_rfl) (fun _ _ _ h => h) (by kernel_rfl) ?_ hS0 ?_
          rotate_left
          · intro w' hSw
            simp only [List.getElem_toArray, List.getElem_cons_succ, List.getElem_cons_zero]
            go_simp
            all_goals with_reducible rfl
          simp only [List.getElem_toArray, List.getElem_cons_succ, List.getElem_cons_zero, Act.put, List.setIfInBounds_toArray, List.set_cons_zero, List.set_cons_succ]
          refine wpE_take' (v := ?_) 8 [14] (of_decide_eq_true (by kernel_rfl)) (by kernel_rfl) (by kernel_rfl) (by kernel_rfl) (by kernel_rfl) (fun _ _ _ h => h) (by kernel_rfl) ?_ hS0 ?_
          rotate_left
          · intro w' hSw
            simp only [List.getElem_toArray, List.getElem_cons_succ, List.getElem_cons_zero]
            go_simp
            all_goals with_reducible rfl
          simp only [List.getElem_toArray, List.getElem_cons_succ, List.getElem_cons_zero, Act.put, List.setIfInBounds_toArray, List.set_cons_zero, List.set_cons_succ]
          refine wpE_take' (v := ?_) 9 [14] (of_decide_eq_true (by kernel_rfl)) (by kernel_rfl) (by kernel_rfl) (by kernel_rfl) (by kernel_rfl) (fun _ _ _ h => h) (by kernel_rfl) ?_ hS0 ?_
          rotate_left
          · intro w' hSw
            simp only [List.getElem_toArray, List.getElem_cons_succ, List.getElem_cons_zero]
            go_simp
            all_goals with_reducible rfl
          simp only [List.getElem_toArray, List.getElem_cons_succ, List.getElem_cons_zero, Act.put, List.setIfInBounds_toArray, List.set_cons_zero, List.set_cons_succ]
          refine wpE_take' (v := ?_) 10 [14] (of_decide_eq_true (by kernel_rfl)) (by kernel_rfl) (by kernel_rfl) (by kernel_rfl) (by kernel_rfl) (fun _ _ _ h => h) (by kernel_rfl) ?_ hS0 ?_
          rotate_left
          · intro w' hSw
            simp only [List.getElem_toArray, List.getElem_cons_succ, List.getElem_cons_zero]
            go_simp
            all_goals with_reducible rfl
          simp only [List.getElem_toArray, List.getElem_cons_succ, List.getElem_cons_zero, Act.put, List.setIfInBounds_toArray, List.set_cons_zero, List.set_cons_succ]
          refine wpE_take' (v := ?_) 11 [14] (of_decide_eq_true (by kernel_rfl)) (by kernel_rfl) (by kernel_rfl) (by kernel_rfl) (by kernel_rfl) (fun _ _ _ h => h) (by kernel_rfl) ?_ hS0 ?_
          rotate_left
          · intro w' hSw
            simp only [List.getElem_toArray, List.getElem_cons_succ, List.getElem_cons_zero]
            go_simp
            all_goals with_reducible rfl
          simp only [List.getElem_toArray, List.getElem_cons_succ, List.getElem_cons_zero, Act.put, List.setIfInBounds_toArray, List.set_cons_zero, List.set_cons_succ]
          have hO2 := (hO.alloc (.cells #[.int .i64 x.f, .int .i64 x.t, .int .i64 x.m] 66)).drew
          have hat : (wr.alloc (.cells #[.int .i64 x.f, .int .i64 x.t, .int .i64 x.m] 66)).drew.heap[wr.heap.size]? = some (.cells #[.int .i64 x.f, .int .i64 x.t, .int .i64 x.m] 66 (0, 0)) := at_new rfl
          have hba : Below wr.heap.size wr (wr.alloc (.cells #[.int .i64 x.f, .int .i64 x.t, .int .i64 x.m] 66)).drew := by go_grown
          have hcl := (bcell hba).1
          have hS1 : (wr.alloc (.cells #[.int .i64 x.f, .int .i64 x.t, .int .i64 x.m] 66)).drew.cell? ⟨D, 2, none⟩ = some (.slice (some ⟨b2, 0, none⟩) cs.length c2) ∧ (wr.alloc (.cells #[.int .i64 x.f, .int .i64 x.t, .int .i64 x.m] 66)).drew.cell? ⟨b2, cn, none⟩ = some (.slice (some ⟨b3, o3, none⟩) l.length c3) ∧ (wr.alloc (.cells #[.int .i64 x.f, .int .i64 x.t, .int .i64 x.m] 66)).drew.cell? ⟨g4, k, none⟩ = some (.int .i64 (vn : Int)) ∧ (wr.alloc (.cells #[.int .i64 x.f, .int .i64 x.t, .int .i64 x.m] 66)).drew.cell? ⟨b3, o3 + vn * 3, none⟩ = some (.int .i64 x.f) ∧ (wr.alloc (.cells #[.int .i64 x.f, .int .i64 x.t, .int .i64 x.m] 66)).drew.cell? ⟨b3, o3 + vn * 3 + 1, none⟩ = some (.int .i64 x.t) ∧ (wr.alloc (.cells #[.int .i64 x.f, .int .i64 x.t, .int .i64 x.m] 66)).drew.cell? ⟨b3, o3 + vn * 3 + 2, none⟩ = some (.int .i64 x.m) :=
            ⟨(hcl _ _ (by omega)).trans d2, (hcl _ _ (by omega)).trans hcell, (hcl _ _ (by omega)).trans x0, (hcl _ _ (by omega)).trans y0, (hcl _ _ (by omega)).trans y1, (hcl _ _ (by omega)).trans y2⟩
          refine wpE_step' 12 (of_decide_eq_true (by kernel_rfl)) (by kernel_rfl) (by kernel_rfl) (fun K hK => ?_)
          simp only [List.getElem_toArray, List.getElem_cons_succ, List.getElem_cons_zero]
          go_simp
          refine hK.out _ _ (.inr hS1) ?_
          clear hK K hS0
          simp only [Act.put, List.setIfInBounds_toArray, List.set_cons_zero, List.set_cons_succ]
          have hW2 := bthen hW hba
          have hws2 := hba.size
          generalize (wr.alloc (.cells #[.int .i64 x.f, .int .i64 x.t, .int .i64 x.m] 66)).drew = W7 at hS1 hO2 hat hW2 hws2 ⊢
          generalize wr.heap.size = Y at hat ⊢
          clear hba hcl
          refine wpE_step' 13 (of_decide_eq_true (by kernel_rfl)) (by kernel_rfl) (by kernel_rfl) (fun K hK => ?_)
          simp only [List.getElem_toArray, List.getElem_cons_succ, List.getElem_cons_zero]
          refine app_wp _ (.tmp 54) (.tmp 66) _ rfl w5.heap.size 66 i0 _ 3 24 Try.underlying30 hi0 hz0 hz1 hz2 rfl (by omega) (.slice A7 os.length c7) os.length (bdCs os) rfl hO2 (some ⟨Y, 0, none⟩) 1 _ (bdCs [x]) rfl rfl (NewsAt.block (cs := #[.int .i64 x.f, .int .i64 x.t, .int .i64 x.m]) hat) (bdCs_one _) (by omega) (by omega) (by omega) ?_
          intro A9 c9 w8 hown8 hg8 hat8
          have hlt8 : ∀ q, q < w5.heap.size → some q ≠ (Value.slice A7 os.length c7).ownBlock := fun q hq e => by have := (hO2.lt q e.symm).1; omega
          have hS2 : w8.cell? ⟨D, 2, none⟩ = some (.slice (some ⟨b2, 0, none⟩) cs.length c2) ∧ w8.cell? ⟨b2, cn, none⟩ = some (.slice (some ⟨b3, o3, none⟩) l.length c3) ∧ w8.cell? ⟨g4, k, none⟩ = some (.int .i64 (vn : Int)) ∧ w8.cell? ⟨b3, o3 + vn * 3, none⟩ = some (.int .i64 x.f) ∧ w8.cell? ⟨b3, o3 + vn * 3 + 1, none⟩ = some (.int .i64 x.t) ∧ w8.cell? ⟨b3, o3 + vn * 3 + 2, none⟩ = some (.int .i64 x.m) := by
            obtain ⟨q1, q2, q3, q4, q5, q6⟩ := hS1
            exact ⟨hg8.cell q1 (hlt8 _ hDx), hg8.cell q2 (hlt8 _ hb2x), hg8.cell q3 (hlt8 _ hg4x), hg8.cell q4 (hlt8 _ hb3x), hg8.cell q5 (hlt8 _ hb3x), hg8.cell q6 (hlt8 _ hb3x)⟩
          have hlo : (os ++ [x]).length = os.length + 1 := by simp
          have hO9 : OwnB w5.heap.size w8 (.slice A9 (os.length + 1) c9) (os ++ [x]) := by unfold OwnB; rw [hlo, bdCs_append]; exact hown8
          have hW9 : Below w5.heap.size w5 w8 := below_app hW2 hO2 hg8 (Nat.le_refl _) (by omega)
          have Hlo := hide hlo
          have hol1 : os.length + 1 ≤ 3 := by
            have := congrArg List.length HN.out
            rw [hlo, List.length_map, List.length_take] at this
            omega
          refine hK.out _ _ (.inr hS2) ?_
          clear hK K hS1 hown8 hg8 hat8 hlo hO2 hat hlt8 hO
          simp only [Act.put, List.setIfInBounds_toArray, List.set_cons_zero, List.set_cons_succ]
          refine wpE_step' 14 (of_decide_eq_true (by kernel_rfl)) (by kernel_rfl) (by kernel_rfl) (fun K hK => ?_)
          simp only [List.getElem_toArray, List.getElem_cons_succ, List.getElem_cons_zero]
          go_simp
          refine hK.out _ _ (.inl rfl) ?_
          clear hK K
          simp only [Act.put, List.setIfInBounds_toArray, List.set_cons_zero, List.set_cons_succ]
          refine wpE_done (by kernel_rfl) ?_ _
          clear hS2 d2 x0 y0 y1 y2 hcell hD hI
          go_wp2_with fail
          go_roundg (q.length - (k + 1))
          case measure => go_light; omega
          case rel => go_light; exact ⟨k + 1, A9, c9, os ++ [x], by omega, rfl, by go_num, by rw [Hlo.out]; exact hol1, by rw [Hlo.out], HN, hO9, hW9⟩
        · obtain rfl : k = q.length := by omega
          go_wp2_with fail
          go_meet
          case rel => exact ⟨A7, c7, os, hol, rfl, by rw [List.take_length] at Hos; exact Hos, hD, hI, OwnB.readsA hO⟩
    case rest =>
      clear hD5 hr4 d2
      obtain ⟨A7, c7, os, hol, rfl, Hos, hD5, hr4, b7, hr7⟩ := hcut
      obtain ⟨cw, hcw⟩ : ∃ cw, countW ⟨n, bs⟩ cs = cw := ⟨_, rfl⟩
      have Hcw := hide hcw
      clear hcw
      have d0 := hD5.r.c0
      have d1 := hD5.r.c1
      have d2 := hD5.r.c2
      go_upto_region 15 with (go_at_call 42; go_fit (countWays_c n bs cs A A2 b 0 c b2 0 c2 _ _ hlb' hlc' H3.out (Nat.le_refl _) hD5.r.rd hD5.r.rc); rintro e w6 ⟨rfl, hb6⟩; rw [Hcw.out]; have hD6 := hD5.below hb6; replace hr4 := (hr4.below hb6).more hb6.size; replace hr7 := (hr7.below hb6).more hb6.size)
      clear d0 d1 d2 hD5 hb6
      have d0 := hD6.r.c0
      have d1 := hD6.r.c1
      have d2 := hD6.r.c2
      have dx := hD6.r.ex
      by_cases hq0 : q.length = 0
      · have h := hnone.out hq0
        rw [Hcw.out] at h
        subst h
        have hqz : (q.length : Int) = 0 := by omega
        go_wp2_with fail
        go_ret
        exact ⟨rfl, hD6.bel⟩
      · obtain ⟨q1, q2⟩ := hcnt.out (by omega)
        rw [Hcw.out] at q1 q2
        rw [← Hos.out] at q1
        obtain ⟨cs2, hcs2⟩ : ∃ cs2, cs.set cn os = cs2 := ⟨_, rfl⟩
        rw [hcs2] at q1
        have Q1 := hide q1
        have hlen2 : cs2.length = cs.length := by rw [← hcs2, List.length_set]
        have Hlen2 := hide hlen2
        have H32 : Hid (∀ l ∈ cs2, l.length ≤ 2000000) := fun l hl => by
          rw [← hcs2] at hl
          rcases List.mem_or_eq_of_mem_set hl with h | rfl
          · exact H3.out l h
          · omega
        have Hcs2 := hide hcs2
        have hqz : ¬ (q.length : Int) = 0 := by omega
        have hlc2 : cs2.length ≤ 2000000 := by omega
        obtain ⟨vs, hvl, hvn, hv1, hvr⟩ := chr_vs (hD6.r.rc.below (show Below w6.heap.size w6 (w6.alloc (.cells #[] 30)) by go_grown))
        clear q1 hcs2 hlen2
        go_upto_region 18 with (at_builtin; refine app_list _ rfl (.tmp 75) (.tmp 77) _ rfl w6.heap.size 30 j0 _ 1 24 Try.underlying35 hj0 hy0 hy1 hy2 rfl (by omega) (.slice (some ⟨w6.heap.size, 0, none⟩) 0 0) 0 [] rfl (own_empty (at_new rfl) (Nat.le_refl _)) A2 cs.length c2 vs rfl hvl hvn hv1 (by omega) (by omega) (by simp) ?_; intro A8 c8 w8 hown8 hg8 hat8)
        simp only [Nat.zero_add, List.nil_append] at hown8 ⊢
        have hb8a : Below w6.heap.size (w6.alloc (.cells #[] 30)) w8 := below_app (size := 1) (Below.refl _ _) (own_empty (at_new rfl) (Nat.le_refl _)) hg8 (Nat.le_refl _) (by simp)
        have hb8 : Below w6.heap.size w6 w8 := (show Below w6.heap.size w6 (w6.alloc (.cells #[] 30)) by go_grown).trans hb8a
        obtain ⟨A9, g8, c9, hv8, k1, -, -⟩ := own_form hown8
        obtain ⟨e1, e3⟩ : A8 = A9 ∧ c8 = c9 := by
          injection hv8 with e1 _ e3
          exact ⟨e1, e3⟩
        subst e1
        subst e3
        obtain rfl := k1 (by omega)
        obtain ⟨hC9, hfz, ⟨u9, hu9⟩, hg8b⟩ := chr_put hown8 (Nat.le_refl _) (fun j l hj => by obtain ⟨A', b', o', c', h1, h2⟩ := hvr j l hj; exact ⟨A', b', o', c', h1, h2.below hb8a⟩) hcn (hr7.below hb8) (c' := c7)
        rw [Hcs2.out] at hC9
        have hb9 := hb8.setCell (p := ⟨g8, cn, none⟩) hg8b (.slice A7 os.length c7)
        clear hvl hvn hv1 hvr hown8 hg8 hat8 hb8a hb8 k1
        go_upto_region 19 with fail
        clear hfz hu9
        generalize w8.setCell ⟨g8, cn, none⟩ (.slice A7 os.length c7) = w9 at hC9 hb9 ⊢
        have hD9 := hD6.below hb9
        replace hr4 := (hr4.below hb9).more hb9.size
        clear d0 d1 d2 dx hD6 hb9
        have d0 := hD9.r.c0
        have d1 := hD9.r.c1
        go_wp2_with (first
          | (go_at_call 63; go_fit (ascend_yes q A4 g4 0 c4 _ _ F5.out hql' (Nat.le_refl _) hr4); rintro e w10 ⟨rfl, hb10⟩; have hD10 := hD9.below hb10; have hC10 := (hC9.below hb10).more hb10.size; have e0 := hD10.r.c0; have e1 := hD10.r.c1)
          | (go_at_call 42; have hcall := countWays_c n bs cs2 A (some ⟨g8, 0, none⟩) b 0 c g8 0 c8 w10.heap.size w10 hlb' hlc2 H32.out (Nat.le_refl _) hD10.r.rd hC10; rw [Hlen2.out, Q1.out] at hcall; refine hcall.mono ?_; rintro e w11 ⟨rfl, hb11⟩; have hD11 := hD10.below hb11))
        go_ret
        exact ⟨rfl, hD11.bel⟩
end Go.Proofs.Ytledgblepdjjlaa
