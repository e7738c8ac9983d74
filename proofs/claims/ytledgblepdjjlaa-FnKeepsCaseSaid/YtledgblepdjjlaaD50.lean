/-
  The draws of the reference: a case.
-/
import Derived.Test.YtledgblepdjjlaaD50a
import Derived.Test.YtledgblepdjjlaaD10
import Derived.Deep.CutBlock
namespace Go.Proofs.Ytledgblepdjjlaa
set_option linter.unusedVariables false
set_option linter.unusedSimpArgs false
open Go.RowKit Pp

theorem infoSD : (Try.prog.info? 30).map (fun i => (i.zero, i.size, i.bytes)) = some (some (.slice none 0 0), 1, 24) := by kernel_rfl

set_option maxHeartbeats 8000000 in
set_option maxRecDepth 100000 in
theorem case_c (g : Nat) (K m : Int) (w : World) (hK : 0 ≤ K ∧ K ≤ 1000000) (hm : 0 ≤ m ∧ m ≤ 100) (hR : RdO w g K) :
    Calls Try.prog 87 #[.pointer (some ⟨g, 0, none⟩), .int .i64 m] w fun e w' =>
      ∃ n A c bs A2 c2 cs, e = .returned (.agg #[.int .i64 n, .slice A bs.length c, .slice A2 cs.length c2]) ∧ (0 ≤ n ∧ n ≤ 7) ∧ bs.length ≤ 8 ∧ (∀ x ∈ bs, Sm x) ∧ cs.length ≤ 4 ∧ Hid (∀ l ∈ cs, l.length ≤ 3) ∧ OwnB w.heap.size w' (.slice A bs.length c) bs ∧ OwnCh w.heap.size w' A2 c2 cs ∧ cs.length ≤ c2 ∧ RdO w' g (K + 300) ∧ w.grownBy w' (some g) := by
  obtain ⟨hK0, hK1⟩ := hK
  obtain ⟨hm0, hm1⟩ := hm
  have hg := hR.lt
  obtain ⟨i0, hi0, hz0, hz1, hz2⟩ := info_parts infoSD
  obtain ⟨j0, hj0, hy0, hy1, hy2⟩ := info_parts infoB
  go_enter Try.func87, Try.ntmps87
  go_upto_region 2 with (go_at_call 119; go_fit (few_c g K m _ ⟨hK0, by omega⟩ ⟨hm0, hm1⟩ (hR.alloc _)); rintro e w1 ⟨n, A, c, bs, rfl, ⟨hn0, hn7⟩, hlen, hsm, hown, hR1, G1⟩)
  have hJ := cq_new (n := n) (t := 37) G1 hg hR1 hown
  generalize w1.alloc (.cells #[.int .i64 n, .slice A bs.length c, .slice none 0 0] 37) = wa at hJ ⊢
  generalize w1.heap.size = P at hJ ⊢
  clear hown hR1 G1 hR
  have p1 := hJ.ds.js.c1
  have pf := hJ.ds.js.cf 1
  go_upto_if 18 with fail
  go_cut [] (fun wx => ∃ A' bz, bz.length ≤ 8 ∧ Hid (∀ x ∈ bz, Sm x) ∧ CQ w wx g P (K + 200) n A' c bz none 0 [])
  case first =>
    by_cases h8 : 8 < bs.length
    · have h8' : (8 : Int) < (bs.length : Int) := by omega
      have h88 : (8 : Nat) ≤ bs.length := by omega
      obtain ⟨q, hrd⟩ := hJ.ds.js.reads
      obtain rfl := hrd.addr (by omega)
      obtain ⟨f, _, _, _, hcap, _⟩ := own_row hJ.ds.js.own
      have hJ2 := hJ.take h88
      have hsm2 : ∀ x ∈ bs.take 8, Sm x := fun x hx => hsm x (List.mem_of_mem_take hx)
      have hlb : (bs.take 8).length = 8 := by simp; omega
      have Hlb := hide hlb
      clear hlb
      go_wp2_with fail
      go_meet
      case rel => exact ⟨_, bs.take 8, by rw [Hlb.out]; omega, hsm2, hJ2⟩
    · have h8' : ¬ (8 : Int) < (bs.length : Int) := by omega
      go_wp2_with fail
      go_meet
      case rel => exact ⟨A, bs, by omega, hsm, hJ⟩
  case rest =>
    clear hJ hsm p1 pf hlen
    obtain ⟨A', bz, hlb, hsm2, hJ⟩ := hcut
    have p0 := hJ.ds.js.c0
    obtain ⟨pt, hpt, hpt0, hpt1⟩ : ∃ pt, (if n < 1 then (1 : Int) else n) = pt ∧ 1 ≤ pt ∧ pt ≤ 7 := ⟨_, rfl, by split <;> omega, by split <;> omega⟩
    go_upto_region 5 with fail
    clear hpt p0
    go_upto_block 0 with (go_at_call 88; go_fit (pick_cq 4 _ hJ (by omega) (by omega)); rintro e w5 ⟨v0, rfl, a1, a2, -, hJ5, -, -⟩; replace a2 := a2 (by omega))
    clear hJ
    go_cut [] (fun wx => ∃ A2 c2, ∃ cs : List (List Bd), cs.length ≤ 3 ∧ Hid (∀ l ∈ cs, l.length ≤ 3) ∧ CQ w wx g P (K + 250) n A' c bz A2 c2 cs)
    case first =>
      go_wp2_with fail
      go_loopg [7] v0.toNat (fun gh s wr => ∃ v : Int, gh = v.toNat ∧ 0 ≤ v ∧ s = .int .i64 v ∧ ∃ A2 c2, ∃ cs : List (List Bd), (cs.length : Int) + v ≤ 3 ∧ Hid (∀ l ∈ cs, l.length ≤ 3) ∧ CQ w wr g P (K + 201 + 12 * (cs.length : Int)) n A' c bz A2 c2 cs)
      case atStart => exact ⟨v0, rfl, a1, rfl, none, 0, [], by simp; omega, by intro l hl; simp at hl, hJ5.more (by simp; omega)⟩
      case round =>
        clear hJ5 a1 a2
        obtain ⟨v, rfl, hv0, rfl, A2, c2, cs, hcv, HS, hJ⟩ := hrel
        by_cases hv : 0 < v
        · rename World => w4
          have hgw : g < w4.heap.size := hJ.ds.js.rd.lt
          have hP1 := hJ.ds.js.P1
          have hP0 := hJ.ds.js.P0
          have hR0 := (hJ.ds.js.rd).alloc (.cells #[] 66)
          have hG0 : w4.grownBy (w4.alloc (.cells #[] 66)) (some g) := gr_new w4 _ _
          have hE0 : OwnB w4.heap.size (w4.alloc (.cells #[] 66)) (.slice (some ⟨w4.heap.size, 0, none⟩) 0 0) [] := own_empty (at_new rfl) (Nat.le_refl _)
          go_wp2_with (go_at_call 88; go_fit (pick_c g _ 3 _ (by omega) (by omega) hR0); rintro e w6 ⟨v1, rfl, b1, b2, -, hR1, hG1, -⟩; replace b2 := b2 (by omega); replace hE0 := own_far hE0 hG1 hgw; replace hG0 := gr_pick hG0 hG1)
          clear hR0 hG1
          go_loopg [8, 9] (1 + v1).toNat (fun gh s8 s9 wx => ∃ u : Int, gh = u.toNat ∧ 0 ≤ u ∧ s9 = .int .i64 u ∧ ∃ A8 c8, ∃ l : List Bd, (l.length : Int) + u ≤ 3 ∧ s8 = .slice A8 l.length c8 ∧ OwnB w4.heap.size wx (.slice A8 l.length c8) l ∧ RdO wx g (K + 201 + 12 * (cs.length : Int) + 1 + 3 * (l.length : Int)) ∧ w4.grownBy wx (some g))
          case atStart => exact ⟨1 + v1, rfl, by omega, by go_num, _, _, [], by simp; omega, rfl, hE0, hR1.more (by simp), hG0⟩
          case round =>
            clear hE0 hR1 hG0 b1 b2
            obtain ⟨u, rfl, hu0, rfl, A8, c8, l, hlu, rfl, hE, hRx, hGx⟩ := hrel
            have hwl : w4.heap.size ≤ wr.heap.size := hGx.size
            by_cases hu : 0 < u
            · have hq8 : ∀ q, (Value.slice A8 l.length c8).ownBlock = some q → w4.heap.size ≤ q := fun q hq => (hE.lt q hq).1
              go_wp2_with (first
                | (go_at_call 88; go_fit (pick_c g _ pt _ (by omega) (by omega) hRx); rintro e w6 ⟨x1, rfl, b1, b2, -, hR1, hG1, -⟩; replace b2 := b2 (by omega); have hE1 := own_far hE hG1 hgw; have hGx1 := gr_pick hGx hG1; clear hRx)
                | (go_at_call 88; go_fit (pick_c g _ pt _ (by omega) (by omega) hR1); rintro e w7 ⟨x2, rfl, b3, b4, -, hR2, hG2, -⟩; replace b4 := b4 (by omega); have hE2 := own_far hE1 hG2 hgw; have hGx2 := gr_pick hGx1 hG2; clear hR1)
                | (go_at_call 88; go_fit (pick_c g _ 24 _ (by omega) (by omega) hR2); rintro e w8 ⟨x3, rfl, b5, b6, -, hR3, hG3, -⟩; replace b6 := b6 (by omega); have hE3 := own_far hE2 hG3 hgw; have hGx3 := gr_pick hGx2 hG3; have hs8 : w4.heap.size ≤ w8.heap.size := hGx3.size; clear hR2)
                | (at_builtin; refine app_list _ rfl (.tmp 43) (.tmp 54) _ rfl w4.heap.size 66 j0 _ 3 24 Try.underlying30 hj0 hy0 hy1 hy2 rfl (by omega) (.slice A8 l.length c8) l.length (bdCs l) rfl (hE3.alloc _) _ 1 _ [.int .i64 x1, .int .i64 x2, .int .i64 (x3 - 14)] rfl rfl (NewsAt.block (cs := #[.int .i64 x1, .int .i64 x2, .int .i64 (x3 - 14)]) (at_new rfl)) (by simp [Value.oneCell']) (by omega) (by omega) (by simp only [World.size_alloc]; omega) ?_; intro A9 c9 w9 hown9 hg9 hat9))
              have hE9 : OwnB w4.heap.size w9 (.slice A9 (l ++ [(⟨x1, x2, x3 - 14⟩ : Bd)]).length c9) (l ++ [(⟨x1, x2, x3 - 14⟩ : Bd)]) := by
                have h9 : OwnB w4.heap.size w9 (.slice A9 (l.length + 1) c9) (l ++ [(⟨x1, x2, x3 - 14⟩ : Bd)]) := by unfold OwnB; rw [bdCs_append]; simpa [bdCs] using hown9
                simpa using h9
              have hG9 := gr_then (gr_alloc hGx3 (.cells #[.int .i64 x1, .int .i64 x2, .int .i64 (x3 - 14)] 66)) hg9 (fun k hk => .inl (hq8 k hk))
              have hR9 := (hR3.alloc (.cells #[.int .i64 x1, .int .i64 x2, .int .i64 (x3 - 14)] 66)).other hg9 (fun k hk => by have := hq8 k hk; omega)
              go_roundg (u - 1).toNat
              case measure => go_light; omega
              case rel => go_light; exact ⟨u - 1, rfl, by omega, by go_num, A9, c9, l ++ [⟨x1, x2, x3 - 14⟩], by simp; omega, by simp, hE9, hR9.more (by simp; omega), hG9⟩
            · have hl3 : l.length ≤ 3 := by omega
              have hQ := hJ.pick (hRx.more (K' := K + 201 + 12 * (cs.length : Int) + 12) (by omega)) hGx
              have hL8 : OwnB (P + 1) (wr.alloc (.cells #[.slice A8 l.length c8] 30)) (.slice A8 l.length c8) l := (own_less hE (by omega)).alloc _
              have hQa := hQ.alloc (.cells #[.slice A8 l.length c8] 30)
              obtain ⟨vs, hvl, hov, hrv⟩ := hQa.rows
              have p2 := hQ.p2
              have hPw := hQ.ds.js.P1
              have HS2 : Hid (∀ x ∈ cs ++ [l], x.length ≤ 3) := by
                intro x hx
                rcases List.mem_append.1 hx with h | h
                · exact HS.out x h
                · simp only [List.mem_singleton] at h; subst h; exact hl3
              clear hE hGx hRx hQ
              go_wp2_with (at_builtin; refine app_list _ rfl (.tmp 57) (.tmp 59) _ rfl (P + 1) 30 i0 _ 1 24 Try.underlying35 hi0 hz0 hz1 hz2 rfl (by omega) (.slice A2 cs.length c2) cs.length vs rfl hov _ 1 _ [.slice A8 l.length c8] rfl rfl (NewsAt.block (cs := #[.slice A8 l.length c8]) (at_new rfl)) (by simp [Value.oneCell']) (by omega) (by omega) (by simp only [World.size_alloc]; omega) ?_; intro A3 c3 w3 hown3 hg3 hat3; obtain ⟨y1, y2, y3⟩ := hQa.push hL8 hvl hov hrv hg3 hown3)
              go_roundg (v - 1).toNat
              case measure => go_light; omega
              case rel => go_light; exact ⟨v - 1, rfl, by omega, by go_num, A3, c3, cs ++ [l], by simp; omega, HS2, y1.more (by simp; omega)⟩
        · go_wp2_with fail
          go_meet
          case rel => exact ⟨A2, c2, cs, by omega, HS, hJ.more (by omega)⟩
    case rest =>
      clear hJ5 a1 a2
      obtain ⟨A2, c2, cs, hcl, HS, hJ⟩ := hcut
      go_upto_if 64 with (go_at_call 89; go_fit (odd_c g _ m _ (by omega) (by omega) hJ.ds.js.rd); rintro e w5 ⟨bo, rfl, hR5, G5, -⟩)
      have hQ := hJ.pick hR5 G5
      clear hJ hR5 G5
      go_cut [] (fun wx => ∃ A3 c3, ∃ cs3 : List (List Bd), cs3.length ≤ 4 ∧ Hid (∀ l ∈ cs3, l.length ≤ 3) ∧ CQ w wx g P (K + 300) n A' c bz A3 c3 cs3)
      case first =>
        cases bo
        · go_wp2_with fail
          go_meet
          case rel => exact ⟨A2, c2, cs, by omega, HS, hQ.more (by omega)⟩
        · have hPw := hQ.ds.js.P1
          have hE0 : OwnB (P + 1) (w5.alloc (.cells #[] 66)) (.slice (some ⟨w5.heap.size, 0, none⟩) ([] : List Bd).length 0) [] := own_empty (at_new rfl) (by omega)
          have hL8 : OwnB (P + 1) ((w5.alloc (.cells #[] 66)).alloc (.cells #[.slice (some ⟨w5.heap.size, 0, none⟩) 0 0] 30)) (.slice (some ⟨w5.heap.size, 0, none⟩) ([] : List Bd).length 0) [] := hE0.alloc _
          have hQa := (hQ.alloc (.cells #[] 66)).alloc (.cells #[.slice (some ⟨w5.heap.size, 0, none⟩) 0 0] 30)
          obtain ⟨vs, hvl, hov, hrv⟩ := hQa.rows
          have p2 := hQ.p2
          have HS2 : Hid (∀ x ∈ cs ++ [[]], x.length ≤ 3) := by
            intro x hx
            rcases List.mem_append.1 hx with h | h
            · exact HS.out x h
            · simp only [List.mem_singleton] at h; subst h; exact Nat.zero_le _
          clear hE0 hQ
          go_wp2_with (at_builtin; refine app_list _ rfl (.tmp 66) (.tmp 68) _ rfl (P + 1) 30 i0 _ 1 24 Try.underlying35 hi0 hz0 hz1 hz2 rfl (by omega) (.slice A2 cs.length c2) cs.length vs rfl hov _ 1 _ [.slice (some ⟨w5.heap.size, 0, none⟩) 0 0] rfl rfl (NewsAt.block (cs := #[.slice (some ⟨w5.heap.size, 0, none⟩) 0 0]) (at_new (by simp))) (by simp [Value.oneCell']) (by omega) (by omega) (by simp only [World.size_alloc]; omega) ?_; intro A3 c3 w3 hown3 hg3 hat3; obtain ⟨y1, y2, y3⟩ := hQa.push hL8 hvl hov hrv hg3 hown3)
          go_meet
          case rel => exact ⟨A3, c3, cs ++ [[]], by simp; omega, HS2, y1.more (by omega)⟩
      case rest =>
        clear hQ HS hcl
        obtain ⟨A3, c3, cs3, hcl, HS, hQ⟩ := hcut
        have z0 := hQ.ds.js.z0
        have z1 := hQ.ds.js.z1
        have z2 := hQ.ds.z2
        have zf0 := hQ.ds.js.zf 0
        have zf1 := hQ.ds.js.zf 1
        have zf2 := hQ.ds.js.zf 2
        have d0 := hQ.ds.js.c0
        have d1 := hQ.ds.js.c1
        have d2 := hQ.p2
        obtain ⟨r0, r1, r2, q1, q3, q4, q5, q6⟩ := hQ.fin rfl
        clear hQ
        go_wp2_with fail
        refine bodyPost_ret (v := .agg #[.int .i64 n, .slice A' bz.length c, .slice A3 cs3.length c3]) (by simp [results, Try.results87, go_sem, r0, r1, r2]) rfl ?_
        exact ⟨_, _, _, _, _, _, _, rfl, ⟨hn0, hn7⟩, hlb, hsm2, hcl, HS, q1, q3, q4, q5, q6⟩
end Go.Proofs.Ytledgblepdjjlaa
