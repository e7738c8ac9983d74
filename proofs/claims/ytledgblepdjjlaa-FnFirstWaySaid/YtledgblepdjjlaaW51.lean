/-
  The law of FirstWay: its walk.
-/
import Derived.Test.YtledgblepdjjlaaD51
import Derived.Test.YtledgblepdjjlaaP26
import Derived.Test.YtledgblepdjjlaaL58
import Derived.Test.YtledgblepdjjlaaS53
import Derived.Test.YtledgblepdjjlaaW0
import Derived.Test.YtledgblepdjjlaaW4
namespace Go.Proofs.Ytledgblepdjjlaa
set_option linter.unusedVariables false
set_option linter.unusedSimpArgs false
open Go.RowKit Pp

set_option maxHeartbeats 2000000 in
set_option maxRecDepth 100000 in
theorem hasInt_yes (v : Int) (xs : List Int) (A : Option Addr) (b o c B : Nat) (w : World) (hv : v ∈ xs) (hn : xs.length ≤ 2000000) (hB : B ≤ w.heap.size) (hR : IntsR w B b o A xs) :
    Calls Try.prog 59 #[.slice A xs.length c, .int .i64 v] w fun e w' => e = .returned (.bool true) ∧ w = w' := by
  have HV := hide hv
  clear hv
  go_enter Try.func59, Try.ntmps59
  go_wp2_with fail
  go_loopg [5] xs.length (fun gh s wr => wr = w ∧ ∃ k : Nat, k ≤ xs.length ∧ gh = xs.length - k ∧ s = .int .i64 k ∧ Hid (v ∉ xs.take k))
  case atStart => exact ⟨rfl, 0, Nat.zero_le _, rfl, rfl, by simp [Hid]⟩
  case round =>
    obtain ⟨rfl, k, hk, rfl, rfl, HN⟩ := hrel
    by_cases hlt : k < xs.length
    · have hlt' : (k : Int) < (xs.length : Int) := by omega
      obtain rfl := hR.addr (by omega)
      have hx := List.getElem?_eq_getElem hlt
      have d0 := hR.cell k hlt
      have e : xs.getD k 0 = xs[k] := by rw [List.getD_eq_getElem?_getD, hx]; rfl
      rw [e] at d0
      have HT : Hid (xs.take (k + 1) = xs.take k ++ [xs[k]]) := by unfold Hid; rw [List.take_add_one, hx]; rfl
      generalize xs[k] = x at d0 HT
      clear hx e
      by_cases hxv : x = v
      · subst hxv
        go_wp2_with fail
        go_ret
        exact ⟨rfl, rfl⟩
      · have HN2 : Hid (v ∉ xs.take (k + 1)) := by
          unfold Hid
          rw [HT.out, List.mem_append]
          rintro (h | h)
          · exact HN.out h
          · simp only [List.mem_singleton] at h; exact hxv h.symm
        go_wp2_with fail
        go_roundg (xs.length - (k + 1))
        case measure => go_light; omega
        case rel => go_light; exact ⟨rfl, k + 1, by omega, rfl, by go_num, HN2⟩
    · obtain rfl : k = xs.length := by omega
      exact absurd HV.out (by have := HN.out; rwa [List.take_length] at this)

set_option maxHeartbeats 4000000 in
set_option maxRecDepth 100000 in
theorem lawFirstWay_c (a0 : Option Addr) (len0 cap0 : Nat) (z0 : List Int) (w : World) (w0 : RowU w a0 len0 cap0 z0) :
    Calls Try.prog 12 #[.slice a0 len0 cap0] w fun e w' => e = .returned (.bool true) ∧ Below w.heap.size w w' := by
  obtain ⟨hlc, hAs, hby⟩ := w0.bytes
  clear w0
  by_cases hlen : (1048576 : Int) < (len0 : Int)
  · go_enter Try.func12, Try.ntmps12
    go_wp2_with fail
    go_ret
    exact ⟨rfl, Below.refl _ _⟩
  · go_enter Try.func12, Try.ntmps12
    go_upto_region 4 with (go_at_call 57; go_fit (drawFirst_c a0 len0 cap0 z0 _ (by omega) hlc hAs hby); rintro e w1 ⟨n, A, c, bs, A2, c2, cs, b, b2, rfl, hn, hlb, hlcs, HL, _, hrd, hrc, hW⟩)
    have hD := cc_law (n := n) (c := c) (c2 := c2) (t := 37) hW hrd hrc
    generalize w1.alloc (.cells #[.int .i64 n, .slice A bs.length c, .slice A2 cs.length c2] 37) = wa at hD ⊢
    generalize w1.heap.size = D at hD ⊢
    clear hW hrd hrc hlen hby hAs
    have hlb' : bs.length ≤ 2000000 := by omega
    have hlc' : cs.length ≤ 2000000 := by omega
    have H3 : Hid (∀ l ∈ cs, l.length ≤ 2000000) := fun l hl => by have := HL.out l hl; omega
    have d0 := hD.r.c0
    have d1 := hD.r.c1
    have d2 := hD.r.c2
    obtain ⟨q, r, hq⟩ : ∃ q r, firstW ⟨n, bs⟩ cs = (q, r) := ⟨_, _, rfl⟩
    have hql : q.length ≤ 2000000 := by
      cases r
      · rw [(first_none hq).1]; simp
      · have := (first_law hq).2.2.2.1; omega
    have Hq := hide hq
    go_upto_region 6 with (first
      | (go_at_call 49; go_fit (firstWay_q n bs cs q r Hq.out A A2 b 0 c b2 0 c2 _ _ hlb' hlc' H3.out (Nat.le_refl _) hD.r.rd hD.r.rc); rintro e w2 ⟨A4, c4, g4, o4, rfl, hr4, -, hb2⟩; have hD2 := hD.below hb2; have e0 := hD2.r.c0; have e1 := hD2.r.c1; have e2 := hD2.r.c2)
      | (go_at_call 55; go_fit (sFirstWay_q n bs cs q r Hq.out A A2 b 0 c b2 0 c2 _ _ hlb' hlc' H3.out (Nat.le_refl _) hD2.r.rd hD2.r.rc); rintro e w3 ⟨A6, c6, g6, o6, rfl, hr6, hb3⟩; have hD3 := hD2.below hb3; replace hr4 := (hr4.below hb3).more hb3.size))
    clear d0 d1 d2 e0 e1 e2 hD hD2 hb2 hb3
    go_upto_region 8 with (go_at_call 58; go_fit (sameInts_yes q A4 A6 g4 o4 c4 g6 o6 c6 _ _ hql (Nat.le_refl _) hr4 hr6); rintro e w4 ⟨rfl, hb4⟩; have hD4 := hD3.below hb4; replace hr4 := (hr4.below hb4).more hb4.size)
    clear hD3 hr6 hb4
    have d0 := hD4.r.c0
    have d1 := hD4.r.c1
    have d2 := hD4.r.c2
    cases r
    · obtain ⟨rfl, hcw⟩ := first_none hq
      obtain ⟨cw, hcw2⟩ : ∃ cw, countW ⟨n, bs⟩ cs = cw := ⟨_, rfl⟩
      rw [hcw2] at hcw
      have Hcw := hide hcw2
      have hcw' : ¬ 0 < cw := by omega
      clear hcw2 hq
      go_wp2_with (first
        | (go_at_call 42; go_fit (countWays_c n bs cs A A2 b 0 c b2 0 c2 _ _ hlb' hlc' H3.out (Nat.le_refl _) hD4.r.rd hD4.r.rc); rintro e w5 ⟨rfl, hb5⟩; rw [Hcw.out]; have hD5 := hD4.below hb5)
        | (go_at_call 31; go_fit (alive_c _); rintro e w6 ⟨rfl, hb6⟩; have hD6 := hD5.below hb6))
      go_ret
      exact ⟨rfl, hD6.bel⟩
    · obtain ⟨hk2, hk3, hcw, hkl, hop⟩ := first_law hq
      obtain ⟨cw, hcw2⟩ : ∃ cw, countW ⟨n, bs⟩ cs = cw := ⟨_, rfl⟩
      rw [hcw2] at hcw
      have Hcw := hide hcw2
      obtain ⟨Q, hQ⟩ : ∃ Q, wayP ⟨n, bs⟩ cs q = Q := ⟨_, rfl⟩
      have hQl : Q.bs.length ≤ 2000000 := by
        rw [← hQ]
        have h4 := picked_length cs q (by omega)
        simp only [wayP, List.length_append]
        omega
      rw [hQ] at hk2 hk3
      have hkl1 : q.length ≤ cs.length := by omega
      clear hkl
      have K2 := hide hk2
      have K3 := hide hk3
      have Hop := hide hop
      clear hcw2 hq hQ hk2 hk3 hop d0 d1 d2
      go_wp2_with fail
      go_loopg [8] q.length (fun gh s wr => ∃ k : Nat, k ≤ q.length ∧ gh = q.length - k ∧ s = .int .i64 k ∧ CC w wr D b 0 n A c bs b2 0 A2 c2 cs ∧ IntsR wr wr.heap.size g4 o4 A4 q)
      case atStart => exact ⟨0, Nat.zero_le _, rfl, rfl, hD4, hr4⟩
      case round =>
        clear hD4 hr4
        obtain ⟨k, hk, rfl, rfl, hD, hr⟩ := hrel
        have d0 := hD.r.c0
        have d1 := hD.r.c1
        have d2 := hD.r.c2
        by_cases hlt : k < q.length
        · have hlt' : (k : Int) < (q.length : Int) := by omega
          have hk0 : (0 : Int) ≤ (k : Int) := by omega
          obtain rfl := hr.addr (by omega)
          have hm := hide (Hop.out k hlt)
          have x0 := hr.cell k hlt
          obtain ⟨x, hx⟩ : ∃ x, q.getD k 0 = x := ⟨_, rfl⟩
          rw [hx] at x0 hm
          obtain ⟨os, hos⟩ : ∃ os, optionsOf ⟨n, bs⟩ cs (k : Int) = os := ⟨_, rfl⟩
          rw [hos] at hm
          have Hos := hide hos
          have hosl : os.length ≤ 2000000 := by
            have hi : inB (k : Int) 0 ((cs.length : Int) - 1) = true := inB_iff.2 ⟨by omega, by omega⟩
            have hcl : k < cs.length := by omega
            have hxx := List.getElem?_eq_getElem hcl
            cases hc : caseOk ⟨n, bs⟩ cs
            · rw [← hos]; unfold optionsOf; rw [hc]; simp
            · rw [← hos, options_eq hc hi hxx]
              have h1 := outS_len k (fitsW ⟨n, bs⟩ cs) (allB cs cs.length) cs[k].length
              have h2 := HL.out _ (List.mem_of_getElem? hxx)
              omega
          clear hx hos
          have hDd := hD.drew
          have hgq := hr.lt (by omega)
          have hDl := hD.r.ex
          go_upto_region 13 with fail
          go_region_held3 (fun w' => w'.cell? ⟨D, 0, none⟩ = some (.int .i64 n) ∧ w'.cell? ⟨D, 1, none⟩ = some (.slice A bs.length c) ∧ w'.cell? ⟨D, 2, none⟩ = some (.slice A2 cs.length c2) ∧ w'.cell? ⟨g4, o4 + k, none⟩ = some (.int .i64 x))
            (first
              | (go_split_ands; (repeat' apply And.intro) <;> assumption)
              | exact ⟨hD5.r.c0, hD5.r.c1, hD5.r.c2, y0⟩
              | (go_keep; done))
            (first
              | (go_at_call 60; go_fit (optionsOf_q n bs cs (k : Int) os Hos.out A A2 b 0 c b2 0 c2 _ _ hlb' hlc' H3.out (Nat.le_refl _) hDd.r.rd hDd.r.rc); rintro e w5 ⟨A9, c9, g9, rfl, hr9, -, hb5⟩; have hD5 := hDd.below hb5; have y0 := ((bcell hb5).1 g4 (o4 + k) hgq).trans (show wr.drew.cell? ⟨g4, o4 + k, none⟩ = some (.int .i64 x) from x0); have hr5 := ((hr.below (show Below wr.heap.size wr wr.drew by go_grown)).below hb5).more hb5.size; clear hDd)
              | (go_at_call 59; go_fit (hasInt_yes x os A9 g9 0 c9 _ _ hm.out hosl (Nat.le_refl _) hr9); rintro e w6 ⟨rfl, rfl⟩))
          all_goals
            go_wp2_with fail
            go_roundg (q.length - (k + 1))
            case measure => go_light; omega
            case rel => go_light; exact ⟨k + 1, by omega, rfl, by go_num, hD5, hr5⟩
        · obtain rfl : k = q.length := by omega
          go_upto_region 16 with (go_at_call 19; go_fit (wayOf_q n bs cs q Q true K2.out A A2 A4 b 0 c b2 0 c2 g4 o4 c4 _ _ hlb' hlc' H3.out hql (Nat.le_refl _) hD.r.rd hD.r.rc hr); rintro e w5 ⟨A5, c5, g5, rfl, hr5, -, hb5⟩)
          have hD5 := hD.below hb5
          have hbn : Below w5.heap.size w5 (w5.alloc (.cells #[.int .i64 Q.n, .slice A5 Q.bs.length c5] 32)) := by go_grown
          have hD6 := hD5.below hbn
          have x0 : (w5.alloc (.cells #[.int .i64 Q.n, .slice A5 Q.bs.length c5] 32)).cell? ⟨w5.heap.size, 0, none⟩ = some (.int .i64 Q.n) := by simp [go_sem]
          have x1 : (w5.alloc (.cells #[.int .i64 Q.n, .slice A5 Q.bs.length c5] 32)).cell? ⟨w5.heap.size, 1, none⟩ = some (.slice A5 Q.bs.length c5) := by simp [go_sem]
          have hr6 := (hr5.below hbn).more hbn.size
          generalize w5.alloc (.cells #[.int .i64 Q.n, .slice A5 Q.bs.length c5] 32) = W6 at hD6 x0 x1 hr6 ⊢
          generalize w5.heap.size = X6 at x0 x1 ⊢
          clear d0 d1 d2 hD hD5 hb5 hr5 hbn hr
          have d0 := hD6.r.c0
          have d1 := hD6.r.c1
          have d2 := hD6.r.c2
          go_wp2_with (first
            | (go_at_call 30; go_fit (fitsOk_c Q A5 g5 0 c5 _ _ hQl (Nat.le_refl _) hr6); rintro e w7 ⟨rfl, hb7⟩; rw [K3.out]; have hD7 := hD6.below hb7; clear d0 d1 d2; have d0 := hD7.r.c0; have d1 := hD7.r.c1; have d2 := hD7.r.c2)
            | (go_at_call 42; go_fit (countWays_c n bs cs A A2 b 0 c b2 0 c2 _ _ hlb' hlc' H3.out (Nat.le_refl _) hD7.r.rd hD7.r.rc); rintro e w8 ⟨rfl, hb8⟩; rw [Hcw.out]; have hD8 := hD7.below hb8))
          go_ret
          exact ⟨rfl, hD8.bel⟩
end Go.Proofs.Ytledgblepdjjlaa
