/-
  The law of KeepsCase: its walk.
-/
import Derived.Test.YtledgblepdjjlaaD56
import Derived.Test.YtledgblepdjjlaaP30
import Derived.Test.YtledgblepdjjlaaL51
import Derived.Test.YtledgblepdjjlaaL52
import Derived.Test.YtledgblepdjjlaaS59
import Derived.Test.YtledgblepdjjlaaW0
namespace Go.Proofs.Ytledgblepdjjlaa
set_option linter.unusedVariables false
set_option linter.unusedSimpArgs false
open Go.RowKit Pp

set_option maxHeartbeats 4000000 in
set_option maxRecDepth 100000 in
theorem lawKeepsCase_c (a0 : Option Addr) (len0 cap0 : Nat) (z0 : List Int) (w : World) (w0 : RowU w a0 len0 cap0 z0) :
    Calls Try.prog 9 #[.slice a0 len0 cap0] w fun e w' => e = .returned (.bool true) ∧ Below w.heap.size w w' := by
  obtain ⟨hlc, hAs, hby⟩ := w0.bytes
  obtain ⟨i0, hi0, hz0, hz1, hz2⟩ := info_parts infoI
  clear w0
  by_cases hlen : (1048576 : Int) < (len0 : Int)
  · go_enter Try.func9, Try.ntmps9
    go_wp2_with fail
    go_ret
    exact ⟨rfl, Below.refl _ _⟩
  · go_enter Try.func9, Try.ntmps9
    go_upto_region 4 with (go_at_call 51; go_fit (drawKeeps_c a0 len0 cap0 z0 _ (by omega) hlc hAs hby); rintro e w1 ⟨n, A, c, bs, A2, c2, cs, A3, c3, xs, b, b2, b3, rfl, hn, hlb, hlcs, HL, hcap, hxl, hrd, hrc, hrk, hW⟩)
    have hD := cc_law (n := n) (c := c) (c2 := c2) (t := 37) hW hrd hrc
    have hI := (hrk.below (show Below w1.heap.size w1 (w1.alloc (.cells #[.int .i64 n, .slice A bs.length c, .slice A2 cs.length c2] 37)) by go_grown)).more (show w1.heap.size ≤ (w1.alloc (.cells #[.int .i64 n, .slice A bs.length c, .slice A2 cs.length c2] 37)).heap.size by simp)
    generalize w1.alloc (.cells #[.int .i64 n, .slice A bs.length c, .slice A2 cs.length c2] 37) = wa at hD hI ⊢
    generalize w1.heap.size = D at hD ⊢
    clear hW hrd hrc hlen hby hAs hrk
    have hlb' : bs.length ≤ 2000000 := by omega
    have hlc' : cs.length ≤ 2000000 := by omega
    have hxl' : xs.length ≤ 2000000 := by omega
    have H3 : Hid (∀ l ∈ cs, l.length ≤ 2000000) := fun l hl => by have := HL.out l hl; omega
    have d0 := hD.r.c0
    have d1 := hD.r.c1
    have d2 := hD.r.c2
    obtain ⟨ok, hok⟩ : ∃ ok, keepsCase ⟨n, bs⟩ cs xs = ok := ⟨_, rfl⟩
    have Hok := hide hok
    clear hok
    go_upto_region 7 with (first
      | (go_at_call 40; go_fit (keepsCase_c n bs cs xs A A2 A3 b 0 c b2 0 c2 b3 0 c3 _ _ hlb' hlc' H3.out hxl' (Nat.le_refl _) hD.r.rd hD.r.rc hI); rintro e w2 ⟨rfl, hb2⟩; rw [Hok.out]; have hD2 := hD.below hb2; have hI2 := (hI.below hb2).more hb2.size; have e0 := hD2.r.c0; have e1 := hD2.r.c1; have e2 := hD2.r.c2)
      | (go_at_call 52; go_fit (sKeepsCase_c n bs cs xs A A2 A3 b 0 c b2 0 c2 b3 0 c3 _ _ hlb' hlc' H3.out hxl' (Nat.le_refl _) hD2.r.rd hD2.r.rc hI2); rintro e w3 ⟨rfl, hb3⟩; rw [Hok.out]; have hD3 := hD2.below hb3; have hI3 := (hI2.below hb3).more hb3.size))
    clear d0 d1 d2 e0 e1 e2 hD hD2 hb2 hb3 hI hI2
    have d0 := hD3.r.c0
    have d1 := hD3.r.c1
    have d2 := hD3.r.c2
    cases hc : caseOk ⟨n, bs⟩ cs
    · obtain rfl : ok = false := by rw [← Hok.out]; unfold keepsCase; rw [hc]; rfl
      have Hc := hide hc
      clear hc
      go_wp2_with (first
        | (go_at_call 53; go_fit (sCaseOk_c n bs cs A A2 b 0 c b2 0 c2 _ _ hlb' hlc' H3.out (Nat.le_refl _) hD3.r.rd hD3.r.rc); rintro e w5 ⟨rfl, hb5⟩; rw [Hc.out]; have hD5 := hD3.below hb5)
        | (go_at_call 31; go_fit (alive_c _); rintro e w6 ⟨rfl, hb6⟩; have hD6 := hD5.below hb6))
      go_ret
      exact ⟨rfl, hD6.bel⟩
    have hsome := keeps_some (xs := xs) hc
    rw [Hok.out] at hsome
    have Hsome := hide hsome
    have Hc := hide hc
    clear hc hsome
    go_upto_block 0 with (go_at_call 53; go_fit (sCaseOk_c n bs cs A A2 b 0 c b2 0 c2 _ _ hlb' hlc' H3.out (Nat.le_refl _) hD3.r.rd hD3.r.rc); rintro e w5 ⟨rfl, hb5⟩; rw [Hc.out]; have hD5 := hD3.below hb5; have hI5 := (hI3.below hb5).more hb5.size)
    clear d0 d1 d2 hD3 hI3 hb5
    go_cut [6] (fun s wx => s = .bool ok ∧ CC w wx D b 0 n A c bs b2 0 A2 c2 cs ∧ IntsR wx wx.heap.size b3 0 A3 xs)
    case first =>
      go_wp2_with fail
      go_loopg [6, 7] 81 (fun gh s6 s7 wr => ∃ (v : Nat) (sb : Bool), v ≤ 81 ∧ gh = 81 - v ∧ s7 = .int .i64 v ∧ s6 = .bool sb ∧ Hid (someW ⟨n, bs⟩ cs xs v = sb) ∧ CC w wr D b 0 n A c bs b2 0 A2 c2 cs ∧ IntsR wr wr.heap.size b3 0 A3 xs)
      case atStart => exact ⟨0, false, by omega, rfl, rfl, rfl, rfl, hD5, hI5⟩
      case round =>
        clear hD5 hI5
        obtain ⟨v, sb, hv, rfl, rfl, rfl, Hsb, hD, hI⟩ := hrel
        by_cases hv8 : v < 81
        · have hv8z : (v : Int) < 81 := by omega
          have d2 := hD.r.c2
          go_upto_region 15 with fail
          generalize wr = wo at hD hI d2 ⊢
          go_wp2_with fail
          go_loopg [8, 9, 10] cs.length (fun gh s8 s9 s10 wi => ∃ (k left : Nat) (pre : List Int) (Ak : Option Addr) (ck : Nat), k ≤ cs.length ∧ gh = cs.length - k ∧ s10 = .int .i64 k ∧ s9 = .int .i64 left ∧ left ≤ 81 ∧ s8 = .slice Ak pre.length ck ∧ pre.length ≤ 4 ∧ Hid (pre.length = k) ∧ Hid (pre ++ digs (cs.length - k) left = digs cs.length v) ∧ OwnI wo.heap.size wi s8 pre ∧ Below wo.heap.size wo wi)
          case atStart => exact ⟨0, v, [], _, _, Nat.zero_le _, rfl, rfl, rfl, hv, rfl, by simp, rfl, rfl, own_empty (at_new rfl) (Nat.le_refl _), by go_grown⟩
          case round =>
            clear d2
            obtain ⟨k, left, pre, Ak, ck, hk, rfl, rfl, rfl, hleft, rfl, hpl, Hpk, Hdg, hO, hW⟩ := hrel
            have hDi := hD.below hW
            have d0 := hDi.r.c0
            have d1 := hDi.r.c1
            have d2 := hDi.r.c2
            have hws := hW.size
            by_cases hlt : k < cs.length
            · have hlt' : (k : Int) < (cs.length : Int) := by omega
              have hr1 : (left : Int).tmod 3 = ((left % 3 : Nat) : Int) := by rw [Int.tmod_eq_emod_of_nonneg (by omega)]; omega
              have hr2 : (left : Int) % 3 = ((left % 3 : Nat) : Int) := by omega
              have hq1 : (left : Int).tdiv 3 = ((left / 3 : Nat) : Int) := by rw [Int.tdiv_eq_ediv_of_nonneg (by omega)]; omega
              have hq2 : (left : Int) / 3 = ((left / 3 : Nat) : Int) := by omega
              have Hd2 : Hid ((pre ++ [((left % 3 : Nat) : Int)]) ++ digs (cs.length - (k + 1)) (left / 3) = digs cs.length v) := by
                unfold Hid
                rw [← Hdg.out, show cs.length - k = (cs.length - (k + 1)) + 1 by omega, digs]
                simp
              have hl3 : left / 3 ≤ 81 := by omega
              obtain ⟨dg, hdg⟩ : ∃ dg : Nat, left % 3 = dg := ⟨_, rfl⟩
              obtain ⟨lf, hlf⟩ : ∃ lf : Nat, left / 3 = lf := ⟨_, rfl⟩
              rw [hdg] at hr1 hr2 Hd2
              rw [hlf] at hq1 hq2 Hd2 hl3
              clear hdg hlf
              go_upto_region 19 with (at_builtin; refine app_list _ rfl (.tmp 51) (.tmp 54) _ rfl wo.heap.size 3 i0 _ 1 8 Try.underlying28 hi0 hz0 hz1 hz2 rfl (by omega) (.slice Ak pre.length ck) pre.length (pre.map (Value.int .i64)) rfl (hO.alloc _) _ 1 _ [.int .i64 (dg : Int)] rfl rfl (NewsAt.block (cs := #[.int .i64 (dg : Int)]) (at_new rfl)) (by simp [Value.oneCell']) (by omega) (by omega) (by simp only [World.size_alloc]; omega) ?_; intro A5 c5 w5 hown5 hg5 hat5)
              have hlx : (pre ++ [(dg : Int)]).length = pre.length + 1 := by simp
              have hO5 : OwnI wo.heap.size w5 (.slice A5 (pre.length + 1) c5) (pre ++ [(dg : Int)]) := by unfold OwnI; rw [hlx, List.map_append]; exact hown5
              have hba : Below wo.heap.size wo (wr.alloc (.cells #[.int .i64 (dg : Int)] 3)) := bthen hW (by go_grown)
              have hW5 : Below wo.heap.size wo w5 := below_app hba (hO.alloc (.cells #[.int .i64 (dg : Int)] 3)) hg5 (Nat.le_refl _) hba.size
              have hpk := Hpk.out
              have hp5 : pre.length + 1 ≤ 4 := by omega
              have Hlx := hide hlx
              have Hpk5 : Hid ((pre ++ [(dg : Int)]).length = k + 1) := by unfold Hid; rw [hlx, hpk]
              clear hlx hpk hown5 hg5 hat5 d0 d1 d2 hDi
              go_wp2_with fail
              go_roundg (cs.length - (k + 1))
              case measure => go_light; omega
              case rel => go_light; exact ⟨k + 1, lf, pre ++ [(dg : Int)], A5, c5, by omega, rfl, by go_num, rfl, hl3, by rw [Hlx.out], by rw [Hlx.out]; exact hp5, Hpk5, Hd2, hO5, hW5⟩
            · obtain rfl : k = cs.length := by omega
              obtain ⟨Q, rr, hQ⟩ : ∃ Q rr, wayOf ⟨n, bs⟩ cs (digs cs.length v) = (Q, rr) := ⟨_, _, rfl⟩
              have hpre : digs cs.length v = pre := by
                have h := Hdg.out
                rw [Nat.sub_self] at h
                simpa [digs] using h.symm
              rw [hpre] at hQ
              have hstep := someW_succ ⟨n, bs⟩ cs xs v
              rw [hpre, hQ, Hsb.out] at hstep
              dsimp only at hstep
              have hQl : Q.bs.length ≤ 2000000 := by
                cases rr
                · rw [wayOf_no hQ]; simp
                · have := (way_law hQ).2.1; omega
              have HQ := hide hQ
              have Hstep := hide hstep
              have hpl2 : pre.length ≤ 2000000 := by omega
              obtain ⟨gp, hIp⟩ := own_IntsR hO
              have hIi := (hI.below hW).more hW.size
              clear hpre hQ hstep hO
              go_upto_region 21 with (go_at_call 19; go_fit (wayOf_q n bs cs pre Q rr HQ.out A A2 Ak b 0 c b2 0 c2 gp 0 ck _ _ hlb' hlc' H3.out hpl2 (Nat.le_refl _) hDi.r.rd hDi.r.rc hIp); rintro e w7 ⟨A7, c7, g7, rfl, hr7, -, hb7⟩)
              have hba : Below w7.heap.size w7 (w7.alloc (.cells #[.int .i64 Q.n, .slice A7 Q.bs.length c7] 32)) := by go_grown
              have hD8 := (hDi.below hb7).below hba
              have hI8 := (((hIi.below hb7).more hb7.size).below hba).more hba.size
              have hr8 := (hr7.below hba).more hba.size
              have q0 : (w7.alloc (.cells #[.int .i64 Q.n, .slice A7 Q.bs.length c7] 32)).cell? ⟨w7.heap.size, 0, none⟩ = some (.int .i64 Q.n) := by simp [go_sem]
              have q1 : (w7.alloc (.cells #[.int .i64 Q.n, .slice A7 Q.bs.length c7] 32)).cell? ⟨w7.heap.size, 1, none⟩ = some (.slice A7 Q.bs.length c7) := by simp [go_sem]
              generalize w7.alloc (.cells #[.int .i64 Q.n, .slice A7 Q.bs.length c7] 32) = W8 at hD8 hI8 hr8 q0 q1 ⊢
              generalize w7.heap.size = X at q0 q1 ⊢
              clear hDi hIi hb7 hr7 hba hIp d0 d1 d2
              cases sb
              · cases rr
                · have HN : Hid (someW ⟨n, bs⟩ cs xs (v + 1) = false) := by unfold Hid; rw [Hstep.out]; rfl
                  have hD9 := hD8
                  have hI9 := hI8
                  clear hD8 hI8
                  go_wp2_with fail
                  go_roundg (81 - (v + 1))
                  case measure => go_light; omega
                  case rel => go_light; exact ⟨v + 1, false, by omega, rfl, by go_num, rfl, HN, hD9, hI9⟩
                · have HN : Hid (someW ⟨n, bs⟩ cs xs (v + 1) = keepsOk Q xs) := by unfold Hid; rw [Hstep.out]; rfl
                  obtain ⟨kk, hkk⟩ : ∃ kk, keepsOk Q xs = kk := ⟨_, rfl⟩
                  rw [hkk] at HN
                  have Hkk := hide hkk
                  clear hkk
                  go_wp2_with (go_at_call 54; go_fit (keepsOk_c Q xs A7 A3 g7 0 c7 b3 0 c3 _ _ hQl hxl' (Nat.le_refl _) hr8 hI8); rintro e w9 ⟨rfl, hb9⟩; rw [Hkk.out]; have hD9 := hD8.below hb9; have hI9 := (hI8.below hb9).more hb9.size)
                  go_roundg (81 - (v + 1))
                  case measure => go_light; omega
                  case rel => go_light; exact ⟨v + 1, kk, by omega, rfl, by go_num, rfl, HN, hD9, hI9⟩
              · have HN : Hid (someW ⟨n, bs⟩ cs xs (v + 1) = true) := by unfold Hid; rw [Hstep.out]; rfl
                have hD9 := hD8
                have hI9 := hI8
                clear hD8 hI8
                go_wp2_with fail
                go_roundg (81 - (v + 1))
                case measure => go_light; omega
                case rel => go_light; exact ⟨v + 1, true, by omega, rfl, by go_num, rfl, HN, hD9, hI9⟩
        · obtain rfl : v = 81 := by omega
          obtain rfl : sb = ok := by rw [← Hsb.out, ← Hsome.out]
          go_wp2_with fail
          go_meet
          case rel => exact ⟨rfl, hD, hI⟩
    case rest =>
      clear hD5 hI5
      obtain ⟨rfl, hD, hI⟩ := hcut
      have d0 := hD.r.c0
      have d1 := hD.r.c1
      have d2 := hD.r.c2
      cases ok
      · go_upto_region 23 with fail
        go_quiet (fail)
        go_wp2_with fail
        go_ret
        exact ⟨rfl, bthen hD.bel ⟨rfl, rfl, rfl, Nat.le_refl _, fun _ _ => rfl⟩⟩
      · rcases Nat.eq_zero_or_pos cs.length with hcl | hcl
        · have hwr : IntKind.i64.wrap ((cs.length : Int) - 1) = -1 := by rw [hcl]; rfl
          go_upto_region 23 with fail
          go_quiet (fail)
          go_wp2_with fail
          go_ret
          exact ⟨rfl, bthen hD.bel ⟨rfl, rfl, rfl, Nat.le_refl _, fun _ _ => rfl⟩⟩
        · obtain ⟨m, hm⟩ : ∃ m, cs.length = m + 1 := ⟨cs.length - 1, by omega⟩
          have hwr : IntKind.i64.wrap ((cs.length : Int) - 1) = (m : Int) := by rw [show (cs.length : Int) - 1 = (m : Int) by omega]; exact IntWalk.i64_in _ (by omega)
          have hm0 : (0 : Int) ≤ (m : Int) := by omega
          have hm1 : ¬ (m : Int) < 0 := by omega
          have hmcap : (m : Int) ≤ (c2 : Int) := by omega
          have htk : Hid ((cs.take m).length = m) := by unfold Hid; rw [List.length_take]; omega
          have Hk2 : Hid (keepsCase ⟨n, bs⟩ (cs.take m) xs = true) := keeps_take m Hok.out
          have hDd := hD.drew
          have hId := (hI.below (show Below wc.heap.size wc wc.drew by go_grown)).more (Nat.le_refl _)
          clear hm hcl
          go_upto_region 23 with fail
          go_region_held3 (fun w' => w'.cell? ⟨D, 0, none⟩ = some (.int .i64 n) ∧ w'.cell? ⟨D, 1, none⟩ = some (.slice A bs.length c) ∧ w'.cell? ⟨D, 2, none⟩ = some (.slice A2 cs.length c2))
            (first
              | exact ⟨hD8.r.c0, hD8.r.c1, hD8.r.c2⟩
              | (go_split_ands; (repeat' apply And.intro) <;> assumption)
              | (go_keep; done))
            ((go_at_call 40; have hcall := keepsCase_c n bs (cs.take m) xs A A2 A3 b 0 c b2 0 c2 b3 0 c3 _ wc.drew hlb' (by rw [List.length_take]; omega) (fun l hl => H3.out l (List.mem_of_mem_take hl)) hxl' (Nat.le_refl _) hDd.r.rd (hDd.r.rc.take m) hId; rw [htk.out, Hk2.out] at hcall; refine hcall.mono ?_; clear hcall; rintro e w8 ⟨rfl, hb8⟩; have hD8 := hDd.below hb8))
          all_goals
            go_wp2_with fail
            go_ret
            exact ⟨rfl, hD8.bel⟩
end Go.Proofs.Ytledgblepdjjlaa
