/-
  The draws of the reference: a plan, two points and a number.
-/
import Derived.Test.YtjlaljnffmncpaaD6
namespace Go.Proofs.Ytjlaljnffmncpaa
set_option linter.unusedVariables false
set_option linter.unusedSimpArgs false
open Go.RowKit Pp

set_option maxHeartbeats 8000000 in
set_option maxRecDepth 100000 in
theorem diff_c (g : Nat) (K : Int) (w : World) (hK : 0 ≤ K ∧ K ≤ 1000000) (hR : RdO w g K) :
    Calls Try.prog 106 #[.pointer (some ⟨g, 0, none⟩)] w fun e w' =>
      ∃ n A c bs f t y, e = .returned (.tuple #[.agg #[.int .i64 n, .slice A bs.length c], .int .i64 f, .int .i64 t, .int .i64 y]) ∧ (0 ≤ n ∧ n ≤ 7) ∧ bs.length ≤ 16 ∧ (∀ x ∈ bs, Sm x) ∧ (0 ≤ f ∧ f ≤ 100) ∧ (0 ≤ t ∧ t ≤ 100) ∧ (-20000 ≤ y ∧ y ≤ 200000) ∧ OwnB w.heap.size w' (.slice A bs.length c) bs ∧ RdO w' g (K + 300) ∧ w.grownBy w' (some g) := by
  obtain ⟨hK0, hK1⟩ := hK
  have hg := hR.lt
  go_enter Try.func106, Try.ntmps106
  go_upto_region 2 with (go_at_call 88; go_fit (joined_c g K _ _ ⟨hK0, by omega⟩ (by omega) (hR.alloc _)); rintro e w1 ⟨n, A, c, bs, rfl, ⟨hn0, hn7⟩, hlen, hsm, hown, hR1, G1⟩)
  have hJ := js_new (n := n) (t := 25) G1 hg hR1 hown
  generalize w1.alloc (.cells #[.int .i64 n, .slice A bs.length c] 25) = wa at hJ ⊢
  generalize w1.heap.size = P at hJ ⊢
  clear hown hR1 G1 hR
  go_cut [7] (fun s wx => ∃ f : Int, 0 ≤ f ∧ f ≤ 7 ∧ s = .int .i64 f ∧ JS w wx g P (K + 201) n A c bs)
  case first =>
    have p0 := hJ.c0
    rcases Int.lt_or_le n 1 with hn1 | hn1
    all_goals (
      go_wp2_with (go_at_call 89; go_fit (pick_js _ _ hJ (by omega) (by omega)); rintro e w6 ⟨v, rfl, c1, c2, _, hJ2, _, _⟩; have c2' := c2 (by omega))
      go_meet
      case rel => exact ⟨v, c1, by omega, rfl, hJ2.more (by omega)⟩)
  case rest =>
    clear hJ
    obtain ⟨f, hf0, hf7, rfl, hJ⟩ := hcut
    go_upto_region 3 with fail
    go_cut [8] (fun s wx => ∃ t : Int, 0 ≤ t ∧ t ≤ 20 ∧ s = .int .i64 t ∧ JS w wx g P (K + 203) n A c bs)
    case first =>
      have p0 := hJ.c0
      rcases Int.lt_or_le n 1 with hn1 | hn1
      all_goals (
        go_wp2_with (first
          | (go_at_call 89; go_fit (pick_js _ _ hJ (by omega) (by omega)); rintro e w6 ⟨v, rfl, c1, c2, _, hJ2, _, _⟩; have c2' := c2 (by omega))
          | (go_at_call 89; go_fit (pick_js _ _ hJ2 (by omega) (by omega)); rintro e w7 ⟨v7, rfl, d1, d2, _, hJ3, _, _⟩; have d2' := d2 (by omega)))
        go_meet
        case rel => exact ⟨_, by omega, by omega, rfl, hJ3.more (by omega)⟩)
    case rest =>
      clear hJ
      obtain ⟨t, ht0, ht7, rfl, hJ⟩ := hcut
      obtain ⟨hm1, hm2⟩ := mostOf_abs ⟨n, bs⟩ f t
      obtain ⟨mm, hmm⟩ : ∃ mm, (mostOf ⟨n, bs⟩ f t).1 = mm := ⟨_, rfl⟩
      rw [hmm] at hm1 hm2
      have Hmm := hide hmm
      clear hmm
      cases hmb : (mostOf ⟨n, bs⟩ f t).2
      · have Hmb := hide hmb
        clear hmb
        go_upto_region 8 with (first
          | (go_at_call 89; go_fit (pick_js _ _ hJ (by omega) (by omega)); rintro e w6 ⟨v, rfl, c1, c2, _, hJ2, _, _⟩; have c2' := c2 (by omega); have q0 := hJ2.c0; have q1 := hJ2.c1; obtain ⟨b, hrd⟩ := hJ2.reads)
          | (go_at_call 90; go_fit (sMostOf_c ⟨n, bs⟩ f t A b 0 c _ _ (by dsimp only; omega) (Nat.le_refl _) hrd); rintro e w7 ⟨rfl, hb7⟩; rw [Hmm.out, Hmb.out]; have hJ3 := hJ2.below hb7))
        clear hJ hJ2 q0 q1 hrd hb7
        rename (JS w w7 g P _ n A c bs) => hJ
        obtain ⟨y, hy⟩ : ∃ y, v - 15 = y := ⟨_, rfl⟩
        have hy1 : -20 ≤ y ∧ y ≤ 200 := by omega
        obtain ⟨hya, hyb⟩ := hy1
        rw [hy]
        clear hy
        have p0 := hJ.c0
        have p1 := hJ.c1
        have z0 := hJ.z0
        have z1 := hJ.z1
        have zf0 := hJ.zf 0
        have zf1 := hJ.zf 1
        have hlt0 := hJ.lt
        have hP0 := hJ.P0
        have hP1 := hJ.P1
        go_region_held3 (fun w' => w'.cell? ⟨P, 0, none⟩ = some (.int .i64 n) ∧ w'.cell? ⟨P, 1, none⟩ = some (.slice A bs.length c))
          (first
            | (go_split_ands; (repeat' apply And.intro) <;> assumption)
            | (go_split_ands; (repeat' apply And.intro) <;> exact (set_other (by dsimp only; omega)).trans ((set_other (by dsimp only; omega)).trans (by assumption)))
            | (go_keep; done))
          ((go_at_call 89; go_fit (pick_js _ _ hJ.drew (by omega) (by omega)); rintro e w8 ⟨v8, rfl, d1, d2, _, hJ8, G8, hs8⟩; have d2' := d2 (by omega); have q0 := hJ8.c0; have q1 := hJ8.c1; have y0 := hJ8.z0; have y1 := hJ8.z1; have yf0 := hJ8.zf 0; have yf1 := hJ8.zf 1))
        all_goals (
          go_wp2_with fail
          obtain ⟨r0, r1, ho, hr, hgr⟩ := hJ8.fin
          obtain ⟨yy, hyy, hy1, hy2⟩ : ∃ yy, IntKind.i64.wrap (y + IntKind.i64.wrap (IntKind.i64.wrap (v8.tdiv 59) * 3000)) = yy ∧ -20000 ≤ yy ∧ yy ≤ 200000 := ⟨y + v8 / 59 * 3000, by rw [Int.tdiv_eq_ediv_of_nonneg d1, IntWalk.i64_left, IntWalk.i64_left, IntWalk.i64_left, IntWalk.wrap64_in (v8 / 59) (by omega), IntWalk.wrap64_in (v8 / 59 * 3000) (by omega), IntWalk.wrap64_in _ (by omega)], by omega, by omega⟩
          rw [hyy]
          refine bodyPost_ret (v := .tuple #[.agg #[.int .i64 n, .slice A bs.length c], .int .i64 f, .int .i64 t, .int .i64 yy]) (by simp [results, Try.results106, go_sem, r0, r1]) rfl ?_
          exact ⟨n, A, c, bs, f, t, yy, rfl, ⟨hn0, hn7⟩, hlen, hsm, ⟨by omega, by omega⟩, ⟨by omega, by omega⟩, ⟨hy1, hy2⟩, ho, hr.more (by omega), hgr⟩)
      · have Hmb := hide hmb
        clear hmb
        go_upto_region 6 with (first
          | (go_at_call 89; go_fit (pick_js _ _ hJ (by omega) (by omega)); rintro e w6 ⟨v, rfl, c1, c2, _, hJ2, _, _⟩; have c2' := c2 (by omega); have q0 := hJ2.c0; have q1 := hJ2.c1; obtain ⟨b, hrd⟩ := hJ2.reads)
          | (go_at_call 90; go_fit (sMostOf_c ⟨n, bs⟩ f t A b 0 c _ _ (by dsimp only; omega) (Nat.le_refl _) hrd); rintro e w7 ⟨rfl, hb7⟩; rw [Hmm.out, Hmb.out]; have hJ3 := hJ2.below hb7))
        clear hJ hJ2 q0 q1 hrd hb7
        rename (JS w w7 g P _ n A c bs) => hJ
        go_cut [44] (fun s wx => (s = .bool true ∨ s = .bool false) ∧ JS w wx g P (K + 205) n A c bs)
        case first =>
          go_wp2_with (go_at_call 89; go_fit (pick_js _ _ hJ (by omega) (by omega)); rintro e w8 ⟨v3, rfl, d1, d2, _, hJ2, _, _⟩; have d2' := d2 (by omega))
          go_meet
          case rel =>
            refine ⟨?_, hJ2.more (by omega)⟩
            cases hv0 : (v3 == 0)
            · exact .inr rfl
            · exact .inl rfl
        case rest =>
          clear hJ
          obtain ⟨hs, hJ⟩ := hcut
          rcases hs with rfl | rfl
          · go_upto_region 8 with (go_at_call 89; go_fit (pick_js _ _ hJ (by omega) (by omega)); rintro e w8 ⟨v3, rfl, d1, d2, _, hJ2, _, _⟩; have d2' := d2 (by omega))
            clear hJ
            rename (JS w w8 g P _ n A c bs) => hJ
            obtain ⟨y, hy⟩ : ∃ y, mm + v3 = y := ⟨_, rfl⟩
            have hy1 : -10020 ≤ y ∧ y ≤ 100020 := by omega
            obtain ⟨hya, hyb⟩ := hy1
            rw [hy]
            clear hy d1 d2 d2' c1 c2 c2'
            have p0 := hJ.c0
            have p1 := hJ.c1
            have z0 := hJ.z0
            have z1 := hJ.z1
            have zf0 := hJ.zf 0
            have zf1 := hJ.zf 1
            have hlt0 := hJ.lt
            have hP0 := hJ.P0
            have hP1 := hJ.P1
            go_region_held3 (fun w' => w'.cell? ⟨P, 0, none⟩ = some (.int .i64 n) ∧ w'.cell? ⟨P, 1, none⟩ = some (.slice A bs.length c))
              (first
                | (go_split_ands; (repeat' apply And.intro) <;> assumption)
                | (go_split_ands; (repeat' apply And.intro) <;> exact (set_other (by dsimp only; omega)).trans ((set_other (by dsimp only; omega)).trans (by assumption)))
                | (go_keep; done))
              ((go_at_call 89; go_fit (pick_js _ _ hJ.drew (by omega) (by omega)); rintro e w8 ⟨v8, rfl, d1, d2, _, hJ8, G8, hs8⟩; have d2' := d2 (by omega); have q0 := hJ8.c0; have q1 := hJ8.c1; have y0 := hJ8.z0; have y1 := hJ8.z1; have yf0 := hJ8.zf 0; have yf1 := hJ8.zf 1))
            all_goals (
              go_wp2_with fail
              obtain ⟨r0, r1, ho, hr, hgr⟩ := hJ8.fin
              obtain ⟨yy, hyy, hy1, hy2⟩ : ∃ yy, IntKind.i64.wrap (y + IntKind.i64.wrap (IntKind.i64.wrap (v8.tdiv 59) * 3000)) = yy ∧ -20000 ≤ yy ∧ yy ≤ 200000 := ⟨y + v8 / 59 * 3000, by rw [Int.tdiv_eq_ediv_of_nonneg d1, IntWalk.i64_left, IntWalk.i64_left, IntWalk.i64_left, IntWalk.wrap64_in (v8 / 59) (by omega), IntWalk.wrap64_in (v8 / 59 * 3000) (by omega), IntWalk.wrap64_in _ (by omega)], by omega, by omega⟩
              rw [hyy]
              refine bodyPost_ret (v := .tuple #[.agg #[.int .i64 n, .slice A bs.length c], .int .i64 f, .int .i64 t, .int .i64 yy]) (by simp [results, Try.results106, go_sem, r0, r1]) rfl ?_
              exact ⟨n, A, c, bs, f, t, yy, rfl, ⟨hn0, hn7⟩, hlen, hsm, ⟨by omega, by omega⟩, ⟨by omega, by omega⟩, ⟨hy1, hy2⟩, ho, hr.more (by omega), hgr⟩)
          · go_upto_region 8 with fail
            obtain ⟨y, hy⟩ : ∃ y, v - 15 = y := ⟨_, rfl⟩
            have hy1 : -20 ≤ y ∧ y ≤ 200 := by omega
            obtain ⟨hya, hyb⟩ := hy1
            rw [hy]
            clear hy
            have p0 := hJ.c0
            have p1 := hJ.c1
            have z0 := hJ.z0
            have z1 := hJ.z1
            have zf0 := hJ.zf 0
            have zf1 := hJ.zf 1
            have hlt0 := hJ.lt
            have hP0 := hJ.P0
            have hP1 := hJ.P1
            go_region_held3 (fun w' => w'.cell? ⟨P, 0, none⟩ = some (.int .i64 n) ∧ w'.cell? ⟨P, 1, none⟩ = some (.slice A bs.length c))
              (first
                | (go_split_ands; (repeat' apply And.intro) <;> assumption)
                | (go_split_ands; (repeat' apply And.intro) <;> exact (set_other (by dsimp only; omega)).trans ((set_other (by dsimp only; omega)).trans (by assumption)))
                | (go_keep; done))
              ((go_at_call 89; go_fit (pick_js _ _ hJ.drew (by omega) (by omega)); rintro e w8 ⟨v8, rfl, d1, d2, _, hJ8, G8, hs8⟩; have d2' := d2 (by omega); have q0 := hJ8.c0; have q1 := hJ8.c1; have y0 := hJ8.z0; have y1 := hJ8.z1; have yf0 := hJ8.zf 0; have yf1 := hJ8.zf 1))
            all_goals (
              go_wp2_with fail
              obtain ⟨r0, r1, ho, hr, hgr⟩ := hJ8.fin
              obtain ⟨yy, hyy, hy1, hy2⟩ : ∃ yy, IntKind.i64.wrap (y + IntKind.i64.wrap (IntKind.i64.wrap (v8.tdiv 59) * 3000)) = yy ∧ -20000 ≤ yy ∧ yy ≤ 200000 := ⟨y + v8 / 59 * 3000, by rw [Int.tdiv_eq_ediv_of_nonneg d1, IntWalk.i64_left, IntWalk.i64_left, IntWalk.i64_left, IntWalk.wrap64_in (v8 / 59) (by omega), IntWalk.wrap64_in (v8 / 59 * 3000) (by omega), IntWalk.wrap64_in _ (by omega)], by omega, by omega⟩
              rw [hyy]
              refine bodyPost_ret (v := .tuple #[.agg #[.int .i64 n, .slice A bs.length c], .int .i64 f, .int .i64 t, .int .i64 yy]) (by simp [results, Try.results106, go_sem, r0, r1]) rfl ?_
              exact ⟨n, A, c, bs, f, t, yy, rfl, ⟨hn0, hn7⟩, hlen, hsm, ⟨by omega, by omega⟩, ⟨by omega, by omega⟩, ⟨hy1, hy2⟩, ho, hr.more (by omega), hgr⟩)
end Go.Proofs.Ytjlaljnffmncpaa
