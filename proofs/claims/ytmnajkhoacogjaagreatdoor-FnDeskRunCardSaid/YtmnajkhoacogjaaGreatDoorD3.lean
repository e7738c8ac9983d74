/-
 The draws of the reference: a plan.
 The draws of the reference: a plan with few points.
-/
import Derived.Test.YtmnajkhoacogjaaGreatDoorD2
namespace Go.Proofs.YtmnajkhoacogjaaGreatDoor
set_option linter.unusedVariables false
set_option linter.unusedSimpArgs false
open Go.RowKit Pp


set_option maxHeartbeats 20000000 in
set_option maxRecDepth 100000 in
theorem plan_c (g : Nat) (K m : Int) (w : World) (hK : 0 ≤ K ∧ K ≤ 100000000) (hm : 0 ≤ m ∧ m ≤ 100) (hR : RdO w g K) :
  Calls Tryz.prog 110 #[.pointer (some ⟨g, 0, none⟩), .int .i64 m] w fun e w' =>
   ∃ n A c bs, e = .returned (.agg #[.int .i64 n, .slice A bs.length c]) ∧ (0 ≤ n ∧ n ≤ 7) ∧ bs.length ≤ 9 ∧ (∀ x ∈ bs, Sm x) ∧ OwnB w.heap.size w' (.slice A bs.length c) bs ∧ RdO w' g (K + 100) ∧ w.grownBy w' (some g) := by
 obtain ⟨hK0, hK1⟩ := hK
 obtain ⟨hm0, hm1⟩ := hm
 have hg := hR.lt
 obtain ⟨i0, hi0, hz0, hz1, hz2⟩ := info_parts infoI
 obtain ⟨j0, hj0, hy0, hy1, hy2⟩ := info_parts infoB
 go_enter Tryz.func110, Tryz.ntmps110
 go_wp2_with (first
  | (go_at_call 88; go_fit (pick_c g K _ _ ⟨hK0, by omega⟩ (by omega) (hR.alloc _)); rintro e w1 ⟨v1, rfl, a1, a2, _, hR1, G1, hs1⟩)
  | (go_at_call 88; go_fit (pick_c g (K + 1) _ _ (by omega) (by omega) hR1); rintro e w2 ⟨v2, rfl, b1, b2, _, hR2, G2, hs2⟩))
 have e2 := a2 (by omega)
 have e4 := b2 (by omega)
 have hn : ∃ n, 1 + v1 + v2 / 19 = n ∧ 1 ≤ n ∧ n ≤ 6 := ⟨_, rfl, by omega, by omega⟩
 obtain ⟨n, hnv, hn1, hn6⟩ := hn
 rw [hnv]
 have hs : w2.heap.size = w.heap.size + 1 := by rw [hs2, hs1]; simp
 have hPS0 := (ps_new (n := n) (t := 34) (gr_pick G1 G2) hs hg hR2).alloc (.cells #[] 3)
 have hT0 : ((w2.alloc (.cells #[.int .i64 n, .slice none 0 0] 34)).alloc (.cells #[] 3)).ownsRow (w.heap.size + 2) 3 1 (.slice (some ⟨w.heap.size + 1 + 1, 0, none⟩) 0 0) 0 [] := own_empty (at_new (by simp only [World.size_alloc]; omega)) (by omega)
 generalize (w2.alloc (.cells #[.int .i64 n, .slice none 0 0] 34)).alloc (.cells #[] 3) = W at *
 clear G1 G2 hs hs1 hs2 hR1 hR2 a2 b2
 go_loopg [6, 7] 7 (fun gh s i wr => ∃ k : Nat, gh = 7 - k ∧ (k : Int) ≤ n ∧ i = .int .i64 k ∧ ∃ At ct, ∃ ts : List Int, s = .slice At k ct ∧ ts.length = k ∧ (∀ t ∈ ts, -30 ≤ t ∧ t ≤ 30) ∧ wr.ownsRow (w.heap.size + 2) 3 1 (.slice At k ct) k (ts.map (Value.int .i64)) ∧ PS w wr g (K + 2 + 2 * (k : Int)) n none 0 [])
 case atStart => exact ⟨0, rfl, by omega, rfl, _, _, [], rfl, rfl, by simp, hT0, hPS0.more (by omega)⟩
 case round =>
  clear hT0 hPS0
  obtain ⟨k, rfl, hkn, rfl, At, ct, ts, rfl, hts, hbd, hT, hPS⟩ := hrel
  have p0 := hPS.c0
  have p1 := hPS.c1
  by_cases hlt : (k : Int) < n
  ·go_wp2_with (first
    | (go_at_call 88; go_fit (pick_ps _ _ hPS (by omega) (by omega)); rintro e w1 ⟨v3, rfl, a3, a4, _, hPS1, G1, hs1⟩)
    | (go_at_call 88; go_fit (pick_ps _ _ hPS1 (by omega) (by omega)); rintro e w2 ⟨v4, rfl, b3, b4, _, hPS2, G2, hs2⟩; have a4' := a4 (by omega); have b4' := b4 (by omega); clear a4 b4)
    | (at_builtin; refine app_list _ rfl (.tmp 26) (.tmp 32) _ rfl (w.heap.size + 2) 3 i0 _ 1 8 Tryz.underlying93 hi0 hz0 hz1 hz2 rfl (by omega) (.slice At k ct) k (ts.map (Value.int .i64)) rfl ?_ _ 1 _ [.int .i64 (v3 - v4)] rfl rfl (NewsAt.block (cs := #[.int .i64 (v3 - v4)]) (at_new (by omega))) (by simp [Value.oneCell']) (by omega) (by omega) ?_ ?_
       ·exact (own_far (own_far hT G1 (by omega)) G2 (by omega)).alloc _
       ·have := hPS2.sz; simp only [World.size_alloc]; omega
       intro A3 c3 w3 hown3 hg3 hat3))
   go_roundg (7 - (k + 1))
   case measure => go_light; omega
   case rel =>
    go_light
    refine ⟨k + 1, rfl, by omega, by go_num, A3, c3, ts ++ [v3 - v4], rfl, by simp [hts], ?_, ?_, ?_⟩
    ·intro t ht
     rcases List.mem_append.1 ht with ht | ht
     ·exact hbd t ht
     ·simp at ht; omega
    ·simpa using hown3
    ·refine ((hPS2.alloc _).other hg3 (fun q hq => ⟨?_, by simp [Value.ownBlock]⟩)).more (by omega)
     have hT' := own_far (own_far hT G1 (by omega)) G2 (by omega)
     exact (hT'.lt q hq).1
  ·obtain rfl : n = (k : Int) := by omega
   clear hlt
   obtain ⟨A', tb, c', hv, ht1, ht2, ht3⟩ := own_form hT
   injection hv with e1 e2' e3
   subst e1; subst e3
   obtain rfl := ht1 (by omega)
   obtain ⟨htb, htb'⟩ := ht2 (by omega)
   have hts : ∃ T : Nat → Int, (∀ j, j < k → -30 ≤ T j ∧ T j ≤ 30) ∧ ∀ j, j < k → wr.cell? ⟨tb, j, none⟩ = some (.int .i64 (T j)) := by
    refine ⟨fun j => ts.getD j 0, fun j hj => ?_, fun j hj => ht3 j _ (by simp [hts, hj])⟩
    have : j < ts.length := by omega
    show -30 ≤ ts.getD j 0 ∧ ts.getD j 0 ≤ 30
    exact hbd _ (by rw [List.getD_eq_getElem?_getD, List.getElem?_eq_getElem this]; exact List.getElem_mem _)
   obtain ⟨T, hTb, hTc⟩ := hts
   clear hT ht1 ht2 ht3 hbd
   go_wp2_with (first
    | (go_at_call 88; go_fit (pick_ps _ _ hPS (by omega) (by omega)); rintro e w1 ⟨v3, rfl, a3, a4, _, hPS1, G1, hs1⟩)
    | (go_at_call 88; go_fit (pick_ps _ _ hPS1 (by omega) (by omega)); rintro e w2 ⟨v4, rfl, b3, b4, _, hPS2, G2, hs2⟩; have a4' := a4 (by omega); have b4' := b4 (by omega); clear a4 b4))
   have hTc2 : ∀ j, j < k → w2.cell? ⟨tb, j, none⟩ = some (.int .i64 (T j)) := fun j hj => far_cell (gr_pick G1 G2) (hTc j hj) (by omega)
   have hsz : tb < w2.heap.size := by omega
   obtain ⟨jn, rfl⟩ := Int.eq_ofNat_of_zero_le b3
   clear hTc hPS hPS1 G1 G2 hs1 hs2 p0 p1
   go_loopg [9] jn (fun gh s wr => ∃ j : Nat, j = gh ∧ s = .int .i64 j ∧ j ≤ 8 ∧ ∃ A c, ∃ bs : List Bd, bs.length + j ≤ 8 ∧ (∀ x ∈ bs, Sm x) ∧ PS w wr g (K + 56 - 5 * (j : Int)) (k : Int) A c bs ∧ OwnB w2.heap.size wr (.slice A bs.length c) bs ∧ w2.heap.size ≤ wr.heap.size ∧ ∀ j, j < k → wr.cell? ⟨tb, j, none⟩ = some (.int .i64 (T j)))
   case atStart => exact ⟨jn, rfl, rfl, by omega, none, 0, [], by simp; omega, by simp, hPS2.more (by omega), World.ownsRow_nil _ _ _ _, Nat.le_refl _, hTc2⟩
   case round =>
    clear hPS2 hTc2 b3 b4'
    obtain ⟨j, rfl, rfl, hj8, A, c, bs, hlen, hbs, hPS, hown, hsz2, hTc⟩ := hrel
    have p0 := hPS.c0
    have p1 := hPS.c1
    by_cases hj : j = 0
    ·subst hj
     clear hown hsz2 hTc hTb
     go_upto_region 16 with fail
     go_cut [87] (fun s wx => (s = .bool true ∨ s = .bool false) ∧ PS w wx g (K + 57) (k : Int) A c bs)
     case first =>
      go_wp2_with (go_at_call 53; go_fit (odd_ps _ _ hPS (by omega) (by omega)); rintro e w6 ⟨v, rfl, hv, hPS3, _, _⟩)
      go_meet
      case rel => exact ⟨hv, hPS3.more (by omega)⟩
     case rest =>
      obtain ⟨hv, hPS⟩ := hcut
      rcases hv with hv | hv
      ·subst hv
       go_upto_region 17 with fail
       go_cut [89] (fun s wx => ∃ x : Int, 0 ≤ x ∧ x < 3 ∧ s = .int .i64 x ∧ PS w wx g (K + 58) (k : Int) A c bs)
       case first =>
        go_wp2_with (go_at_call 88; go_fit (pick_ps _ _ hPS (by omega) (by omega)); rintro e w6 ⟨v, rfl, c1, c2, _, hPS3, _, _⟩; have c2' := c2 (by omega))
        go_meet
        case rel => exact ⟨v, c1, c2', rfl, hPS3.more (by omega)⟩
       case rest =>
        obtain ⟨x, hx0, hx3, rfl, hPS⟩ := hcut
        by_cases hx : x = 0
        ·subst hx
         have p0 := hPS.c0
         have cf0 := hPS.cf 0
         have hsz5 := hPS.sz
         go_upto_region 23 with (first
          | (go_at_call 88
             go_loud (go_fit (pick_ps _ _ (hPS.alloc _) (by omega) (by omega)); rintro e w6 ⟨v, rfl, c1, c2, _, hPS3, G3, hs3⟩; have c2' := c2 (by omega); have q0 := hPS3.c0; have qf0 := hPS3.cf 0; simp only [World.size_alloc] at hs3)
             go_loud (have e0 := far_cell (b := wc.heap.size) (o := 0) G3 ((World.cell?_alloc_at _ _ _ _ rfl).trans rfl) (by omega))
             have e1 := far_cell (b := wc.heap.size) (o := 1) G3 ((World.cell?_alloc_at _ _ _ _ rfl).trans rfl) (by omega)
             have hu : ∃ q : Nat, ∃ u : Int, v = (q : Int) ∧ q < 2 ∧ 0 ≤ u ∧ u ≤ 7 ∧ w6.cell? ⟨wc.heap.size, q, none⟩ = some (.int .i64 u) := (by
              have : v = 0 ∨ v = 1 := by omega
              rcases this with rfl | rfl
              ·exact ⟨0, 0, rfl, by omega, by omega, by omega, e0⟩
              ·exact ⟨1, 7, rfl, by omega, by omega, by omega, e1⟩)
             go_loud (obtain ⟨q, u, rfl, hq, hu0, hu7, hqc⟩ := hu)
             have hq' : (q : Int) < 2 := (by omega)))
         have hPS4 := hPS3.setN u
         generalize w6.setCell ⟨w.heap.size + 1, 0, none⟩ (.int .i64 u) = wE at hPS4 ⊢
         clear p0 q0 qf0 cf0 e0 e1 hqc
         have p0 := hPS4.c0
         have p1 := hPS4.c1
         have z0 := hPS4.z0
         have z1 := hPS4.z1
         have zf0 := hPS4.zf 0
         have zf1 := hPS4.zf 1
         go_wp2_with fail
         obtain ⟨r0, r1, ho, hr, hgr⟩ := hPS4.fin
         refine bodyPost_ret (v := .agg #[.int .i64 u, .slice A (bs).length c]) (by simp [results, Tryz.results110, go_sem, r0, r1]) rfl ?_
         exact ⟨_, _, _, _, rfl, ⟨by omega, by omega⟩, by omega, by assumption, ho, hr.more (by omega), hgr⟩
        ·skip
--BEGIN 4
         by_cases hx1 : x = 1
         ·subst hx1
          have p0 := hPS.c0
          have p1 := hPS.c1
          have cf1 := hPS.cf 1
          have hsz5 := hPS.sz
          have hbs2 : ∀ x ∈ bs ++ [(⟨0, (k : Int), 0⟩ : Bd)], Sm x := by
           intro x hx
           rcases List.mem_append.1 hx with hx | hx
           ·exact hbs x hx
           ·simp only [List.mem_singleton] at hx
            subst hx
            exact ⟨⟨by dsimp only; omega, by dsimp only; omega⟩, ⟨by dsimp only; omega, by dsimp only; omega⟩, by dsimp only; omega, by dsimp only; omega⟩
          have hl2 : (bs ++ [(⟨0, (k : Int), 0⟩ : Bd)]).length = bs.length + 1 := by simp
          obtain ⟨bs2, hbs3⟩ : ∃ bs2, bs ++ [(⟨0, (k : Int), 0⟩ : Bd)] = bs2 := ⟨_, rfl⟩
          have hl3 : bs2.length ≤ 9 := by rw [← hbs3, hl2]; omega
          have Hl := hide hl2
          have Hb := hide hbs3
          rw [hbs3] at hbs2
          clear hl2 hbs3
          go_upto_region 23 with (first
           | (at_builtin; refine app_list _ rfl (.tmp 107) (.tmp 111) _ rfl (w.heap.size + 2) 97 j0 _ 3 24 Tryz.underlying32 hj0 hy0 hy1 hy2 rfl (by omega) (.slice A bs.length c) bs.length (bdCs bs) rfl ?_ _ 1 _ [.int .i64 (0), .int .i64 ((k : Int)), .int .i64 (0)] rfl rfl (NewsAt.block (cs := #[.int .i64 (0), .int .i64 ((k : Int)), .int .i64 (0)]) (at_new rfl)) (by simp [Value.oneCell']) (by omega) (by omega) ?_ ?_
              ·exact hPS.own.alloc _
              ·simp only [World.size_alloc]; omega
              intro A3 c3 w3 hown3 hg3 hat3
              have hr3 : ∀ k, (Value.slice A bs.length c).ownBlock = some k → w.heap.size + 2 ≤ k := (fun q hq => by have := (hPS.own.lt q hq).1; omega)
              have hown4 : OwnB (w.heap.size + 2) w3 (.slice A3 (bs.length + 1) c3) (bs ++ [(⟨0, (k : Int), 0⟩ : Bd)]) := (by unfold OwnB; rw [bdCs_append]; simpa [bdCs] using hown3)
              obtain ⟨y1, y2, y3⟩ := PS.app (hPS.alloc _) hg3 hr3 (bs.length + 1) (by simp) hown4; rw [Hb.out] at y3))
          generalize w3.setCell ⟨w.heap.size + 1, 1, none⟩ (.slice A3 (bs.length + 1) c3) = wE at y3 ⊢
          clear p0 p1
          have p0 := y3.c0
          have p1 := y3.c1
          have z0 := y3.z0
          have z1 := y3.z1
          have zf0 := y3.zf 0
          have zf1 := y3.zf 1
          go_wp2_with fail
          obtain ⟨r0, r1, ho, hr, hgr⟩ := y3.fin
          refine bodyPost_ret (v := .agg #[.int .i64 (k : Int), .slice A3 (bs2).length c3]) (by simp [results, Tryz.results110, go_sem, r0, r1]) rfl ?_
          exact ⟨_, _, _, _, rfl, ⟨by omega, by omega⟩, hl3, by assumption, ho, hr.more (by omega), hgr⟩
         ·skip
          have p0 := hPS.c0
          have p1 := hPS.c1
          have cf1 := hPS.cf 1
          have hsz5 := hPS.sz
          have hbs2 : ∀ x ∈ bs ++ [(⟨0, 0, 100⟩ : Bd)], Sm x := by
           intro x hx
           rcases List.mem_append.1 hx with hx | hx
           ·exact hbs x hx
           ·simp only [List.mem_singleton] at hx
            subst hx
            exact ⟨⟨by dsimp only; omega, by dsimp only; omega⟩, ⟨by dsimp only; omega, by dsimp only; omega⟩, by dsimp only; omega, by dsimp only; omega⟩
          have hl2 : (bs ++ [(⟨0, 0, 100⟩ : Bd)]).length = bs.length + 1 := by simp
          obtain ⟨bs2, hbs3⟩ : ∃ bs2, bs ++ [(⟨0, 0, 100⟩ : Bd)] = bs2 := ⟨_, rfl⟩
          have hl3 : bs2.length ≤ 9 := by rw [← hbs3, hl2]; omega
          have Hl := hide hl2
          have Hb := hide hbs3
          rw [hbs3] at hbs2
          clear hl2 hbs3
          go_upto_region 23 with (first
           | (at_builtin; refine app_list _ rfl (.tmp 91) (.tmp 93) _ rfl (w.heap.size + 2) 97 j0 _ 3 24 Tryz.underlying32 hj0 hy0 hy1 hy2 rfl (by omega) (.slice A bs.length c) bs.length (bdCs bs) rfl ?_ _ 1 _ [.int .i64 (0), .int .i64 (0), .int .i64 (100)] rfl rfl (NewsAt.block (cs := #[.int .i64 (0), .int .i64 (0), .int .i64 (100)]) (at_new rfl)) (by simp [Value.oneCell']) (by omega) (by omega) ?_ ?_
              ·exact hPS.own.alloc _
              ·simp only [World.size_alloc]; omega
              intro A3 c3 w3 hown3 hg3 hat3
              have hr3 : ∀ k, (Value.slice A bs.length c).ownBlock = some k → w.heap.size + 2 ≤ k := (fun q hq => by have := (hPS.own.lt q hq).1; omega)
              have hown4 : OwnB (w.heap.size + 2) w3 (.slice A3 (bs.length + 1) c3) (bs ++ [(⟨0, 0, 100⟩ : Bd)]) := (by unfold OwnB; rw [bdCs_append]; simpa [bdCs] using hown3)
              obtain ⟨y1, y2, y3⟩ := PS.app (hPS.alloc _) hg3 hr3 (bs.length + 1) (by simp) hown4; rw [Hb.out] at y3))
          generalize w3.setCell ⟨w.heap.size + 1, 1, none⟩ (.slice A3 (bs.length + 1) c3) = wE at y3 ⊢
          clear p0 p1
          have p0 := y3.c0
          have p1 := y3.c1
          have z0 := y3.z0
          have z1 := y3.z1
          have zf0 := y3.zf 0
          have zf1 := y3.zf 1
          go_wp2_with fail
          obtain ⟨r0, r1, ho, hr, hgr⟩ := y3.fin
          refine bodyPost_ret (v := .agg #[.int .i64 (k : Int), .slice A3 (bs2).length c3]) (by simp [results, Tryz.results110, go_sem, r0, r1]) rfl ?_
          exact ⟨_, _, _, _, rfl, ⟨by omega, by omega⟩, hl3, by assumption, ho, hr.more (by omega), hgr⟩
--END 4
      ·subst hv
       have p0 := hPS.c0
       have p1 := hPS.c1
       have z0 := hPS.z0
       have z1 := hPS.z1
       have zf0 := hPS.zf 0
       have zf1 := hPS.zf 1
       go_wp2_with fail
       obtain ⟨r0, r1, ho, hr, hgr⟩ := hPS.fin
       refine bodyPost_ret (v := .agg #[.int .i64 (k : Int), .slice A (bs).length c]) (by simp [results, Tryz.results110, go_sem, r0, r1]) rfl ?_
       exact ⟨_, _, _, _, rfl, ⟨by omega, by omega⟩, by omega, by assumption, ho, hr.more (by omega), hgr⟩
    ·skip
--BEGIN 3
     have hjp : (0 : Int) < (j : Int) := by omega
     go_upto_region 11 with fail
     go_cut [10] from 38 to 84 (fun s wc => s = .pointer (some ⟨wr.heap.size, 0, none⟩) ∧ ∃ f t : Nat, f < k ∧ t < k ∧ BX w wr wc g (K + 56 - 5 * (j : Int) + 2) (k : Int) (f : Int) (t : Int) 0 A c bs)
     case first =>
--BEGIN 1
      have hownlt : ∀ q, (Value.slice A bs.length c).ownBlock = some q → q < wr.heap.size := fun q hq => (hown.lt q hq).2
      have hszw := hPS.sz
      go_region_held3 (fun w' => w'.cell? ⟨w.heap.size + 1, 0, none⟩ = some (.int .i64 (k : Int)))
       (first
         | assumption
         | exact (set_other (by dsimp only; omega)).trans ((set_other (by dsimp only; omega)).trans ((set_other (by dsimp only; omega)).trans (by assumption)))
         | exact (World.cell?_alloc_past _ _ _ (by first | omega | (simp only [World.size_alloc, World.size_drew]; done) | (simp only [World.size_alloc, World.size_drew]; omega))).trans (by assumption)
         | (go_keep; done))
       (first
       | (go_at_call 88; go_fit (pick_ps _ _ hPS.drew (by omega) (by omega)); rintro e w4 ⟨x1, rfl, c1, c2, _, hPS1, G1, hs1⟩; have c2' := c2 (by omega); have q0 := hPS1.c0; simp only [World.size_drew] at hs1)
       | (go_at_call 88; go_fit (pick_ps _ _ (hPS.alloc _).drew (by omega) (by omega)); rintro e w4 ⟨x1, rfl, c1, c2, _, hPS1, G1, hs1⟩; have c2' := c2 (by omega); have q0 := hPS1.c0; simp only [World.size_alloc, World.size_drew] at hs1; have r0 := far_cell (b := wr.heap.size) (o := 0) G1 ((World.cell?_alloc_at _ _ _ _ (by omega)).trans rfl) (by omega); have rf0 := far_frozen (b := wr.heap.size) (o := 0) G1 (World.frozen?_alloc_at _ _ _ _ (by omega)) (by simp only [World.size_alloc, World.size_drew]; omega) (by omega); have r1 := far_cell (b := wr.heap.size) (o := 1) G1 ((World.cell?_alloc_at _ _ _ _ (by omega)).trans rfl) (by omega); have rf1 := far_frozen (b := wr.heap.size) (o := 1) G1 (World.frozen?_alloc_at _ _ _ _ (by omega)) (by simp only [World.size_alloc, World.size_drew]; omega) (by omega); have r2 := far_cell (b := wr.heap.size) (o := 2) G1 ((World.cell?_alloc_at _ _ _ _ (by omega)).trans rfl) (by omega); have rf2 := far_frozen (b := wr.heap.size) (o := 2) G1 (World.frozen?_alloc_at _ _ _ _ (by omega)) (by simp only [World.size_alloc, World.size_drew]; omega) (by omega))
       | (go_at_call 88; go_fit (pick_ps _ _ hPS1 (by omega) (by omega)); rintro e w5 ⟨x2, rfl, d1, d2, _, hPS2, G2, hs2⟩; have d2' := d2 (by omega); have q1 := hPS2.c0; (first | (have s0 := far_cell G2 r0 (by omega); have s0 := far_cell G2 r0 (by omega); have sf0 := far_frozen G2 rf0 (by omega) (by omega); have s1 := far_cell G2 r1 (by omega); have sf1 := far_frozen G2 rf1 (by omega) (by omega); have s2 := far_cell G2 r2 (by omega); have sf2 := far_frozen G2 rf2 (by omega) (by omega)) | skip))
       | (go_at_call 88; go_fit (pick_ps _ _ (hPS1.alloc _) (by omega) (by omega)); rintro e w5 ⟨x2, rfl, d1, d2, _, hPS2, G2, hs2⟩; have d2' := d2 (by omega); have q1 := hPS2.c0; simp only [World.size_alloc, World.size_drew] at hs2; have r0 := far_cell (b := wr.heap.size) (o := 0) G2 ((World.cell?_alloc_at _ _ _ _ (by omega)).trans rfl) (by omega); have rf0 := far_frozen (b := wr.heap.size) (o := 0) G2 (World.frozen?_alloc_at _ _ _ _ (by omega)) (by simp only [World.size_alloc, World.size_drew]; omega) (by omega); have r1 := far_cell (b := wr.heap.size) (o := 1) G2 ((World.cell?_alloc_at _ _ _ _ (by omega)).trans rfl) (by omega); have rf1 := far_frozen (b := wr.heap.size) (o := 1) G2 (World.frozen?_alloc_at _ _ _ _ (by omega)) (by simp only [World.size_alloc, World.size_drew]; omega) (by omega); have r2 := far_cell (b := wr.heap.size) (o := 2) G2 ((World.cell?_alloc_at _ _ _ _ (by omega)).trans rfl) (by omega); have rf2 := far_frozen (b := wr.heap.size) (o := 2) G2 (World.frozen?_alloc_at _ _ _ _ (by omega)) (by simp only [World.size_alloc, World.size_drew]; omega) (by omega)))
      all_goals (go_wp2_with fail; go_meet)
      all_goals (
       obtain ⟨xf, rfl⟩ := Int.eq_ofNat_of_zero_le c1
       obtain ⟨xt, rfl⟩ := Int.eq_ofNat_of_zero_le d1
       refine ⟨rfl, xf, xt, by omega, by omega, ?_⟩)
      case rel => exact bx_new (hPS2.more (by omega)) hownlt (gr_pick (undrew G1) G2) (by omega)
      all_goals first
       | exact bx_set hszw (hPS2.more (by omega)) hownlt (gr_pick (gr_pick (gr_new wr _ _) (undrew G1)) G2) (by omega) s0 s1 s2 sf0 sf1 sf2
       | exact bx_set hszw (hPS2.more (by omega)) hownlt (gr_pick (gr_alloc (undrew G1) _) G2) (by omega) r0 r1 r2 rf0 rf1 rf2
--END 1
     case rest =>
      obtain ⟨rfl, f, t, hf, ht, hB⟩ := hcut
      have b0 := hB.b0
      have b1 := hB.b1
      have b2 := hB.b2
      have bf := hB.bf 2 (by omega)
      go_upto_region 12 with fail
      have hszw := hPS.sz
      have hl := hB.lt
      have tT : wc.cell? ⟨tb, t, none⟩ = some (.int .i64 (T t)) := far_cell hB.gr (hTc t ht) (by omega)
      have tF : wc.cell? ⟨tb, f, none⟩ = some (.int .i64 (T f)) := far_cell hB.gr (hTc f hf) (by omega)
      have ht' : (t : Int) < (k : Int) := by omega
      have hf' : (f : Int) < (k : Int) := by omega
      obtain ⟨tT1, tT2⟩ := hTb t ht
      obtain ⟨tF1, tF2⟩ := hTb f hf
      go_region_held3 (fun w' => w'.cell? ⟨wr.heap.size, 0, none⟩ = some (.int .i64 (f : Int)) ∧ w'.cell? ⟨wr.heap.size, 1, none⟩ = some (.int .i64 (t : Int)) ∧ w'.cell? ⟨tb, t, none⟩ = some (.int .i64 (T t)) ∧ w'.cell? ⟨tb, f, none⟩ = some (.int .i64 (T f)))
       (first
         | (go_split_ands; (repeat' apply And.intro) <;> assumption)
         | (go_split_ands; (repeat' apply And.intro) <;> exact (set_ne (by intro e; have e1 := congrArg Addr.block e; have e2 := congrArg Addr.off e; dsimp only at e1 e2; omega)).trans (by assumption))
         | (go_keep; done))
       ((go_at_call 88; go_fit (pick_ps _ _ hB.ps.drew (by omega) (by omega)); rintro e w4 ⟨x1, rfl, c1, c2, _, hPS1, G1, hs1⟩; have c2' := c2 (by omega); have n0 := far_cell (undrew G1) b0 (by omega); have n1 := far_cell (undrew G1) b1 (by omega); have n2 := far_cell (undrew G1) b2 (by omega); have n3 := far_cell (undrew G1) tT (by omega); have n4 := far_cell (undrew G1) tF (by omega); have n5 := far_frozen (undrew G1) bf (by have := hB.sz; omega) (by omega)))
      obtain ⟨m2, hm2, hm2a, hm2b⟩ : ∃ m2, IntKind.i64.wrap (IntKind.i64.wrap (T t - T f) + x1) = m2 ∧ -100 ≤ m2 ∧ m2 ≤ 100 := ⟨T t - T f + x1, by rw [IntWalk.i64_left, IntWalk.i64_left, IntWalk.wrap64_in (T t - T f) (by omega), IntWalk.wrap64_in _ (by omega)], by omega, by omega⟩
      rw [hm2]
      have hB2 : BX w wr (w4.setCell ⟨wr.heap.size, 2, none⟩ (.int .i64 m2)) g (K + 56 - 5 * (j : Int) + 2 + 1) (k : Int) (f : Int) (t : Int) m2 A c bs := (hB.pick hPS1 (undrew G1) (by simpa using hs1)).set hszw
      clear n0 n1 n2 n3 n4 n5 hB b0 b1 b2 bf tT tF
      go_upto_region 13 with fail
      generalize w4.setCell ⟨wr.heap.size, 2, none⟩ (.int .i64 m2) = wd at hB2 ⊢
      go_cut [72] from 38 to 84 (fun s wx => (s = .bool true ∨ s = .bool false) ∧ BX w wr wx g (K + 56 - 5 * (j : Int) + 4) (k : Int) (f : Int) (t : Int) m2 A c bs)
      case first =>
       by_cases hv0 : v3 = 0
       ·subst hv0
        go_wp2_with (go_at_call 88; go_fit (pick_ps _ _ hB2.ps (by omega) (by omega)); rintro e w6 ⟨x3, rfl, c3, c4, _, hPS3, G3, hs3⟩; have c4' := c4 (by omega))
        go_meet
        case rel =>
         refine ⟨?_, (hB2.pick hPS3 G3 hs3).more (by omega)⟩
         by_cases hx3 : x3 = 0
         ·simp [hx3]
         ·simp [hx3]
       ·go_wp2_with fail
        go_meet
        case rel => exact ⟨.inr rfl, hB2.more (by omega)⟩
      case rest =>
       obtain ⟨hb, hB3⟩ := hcut
       have b2 := hB3.b2
       have bf := hB3.bf 2 (by omega)
       have hz9 := hB3.sz
       clear hB2
       rcases hb with hb | hb
       ·subst hb
        go_upto_region 14 with fail
        go_region_with (go_at_call 88; go_fit (pick_ps _ _ hB3.ps.drew (by omega) (by omega)); rintro e w6 ⟨x3, rfl, c3, c4, _, hPS3, G3, hs3⟩; have c4' := c4 (by omega); have n2 := far_cell (undrew G3) b2 (by omega); have n5 := far_frozen (undrew G3) bf (by omega) (by omega))
        all_goals (
         obtain ⟨m3, hm3, hm3a, hm3b⟩ : ∃ m3, IntKind.i64.wrap (m2 - x3) = m3 ∧ -200 ≤ m3 ∧ m3 ≤ 200 := ⟨m2 - x3, by rw [IntWalk.i64_left, IntWalk.wrap64_in _ (by omega)], by omega, by omega⟩
         rw [hm3]
         have hB4 : BX w wr (w6.setCell ⟨wr.heap.size, 2, none⟩ (.int .i64 m3)) g (K + 56 - 5 * (j : Int) + 4 + 1) (k : Int) (f : Int) (t : Int) m3 A c bs := (hB3.pick hPS3 (undrew G3) (by simpa using hs3)).set hszw
         generalize w6.setCell ⟨wr.heap.size, 2, none⟩ (.int .i64 m3) = wy at hB4 ⊢
         clear n2 n5 b2 bf hB3 hPS3 G3 hs3
--BEGIN 2
         have p1 := hB4.ps.c1
         have b0 := hB4.b0
         have b1 := hB4.b1
         have b2 := hB4.b2
         have hz9 := hB4.sz
         go_wp2_with (first
          | (at_builtin; refine app_list _ rfl (.tmp 80) (.tmp 82) _ rfl w2.heap.size 97 j0 _ 3 24 Tryz.underlying32 hj0 hy0 hy1 hy2 rfl (by omega) (.slice A bs.length c) bs.length (bdCs bs) rfl ?_ _ 1 _ [.int .i64 (f : Int), .int .i64 (t : Int), .int .i64 m3] rfl rfl (NewsAt.block (cs := #[.int .i64 (f : Int), .int .i64 (t : Int), .int .i64 m3]) (at_new (by omega))) (by simp [Value.oneCell']) (by omega) (by omega) ?_ ?_
             ·exact (own_far hown hB4.gr (by omega)).alloc _
             ·simp only [World.size_alloc]; omega
             intro A3 c3 w3 hown3 hg3 hat3
             have hr3 : ∀ k, (Value.slice A bs.length c).ownBlock = some k → w.heap.size + 2 ≤ k := (fun q hq => by have := (hown.lt q hq).1; omega)
             have hown4 : OwnB w2.heap.size w3 (.slice A3 (bs.length + 1) c3) (bs ++ [⟨(f : Int), (t : Int), m3⟩]) := (by unfold OwnB; rw [bdCs_append]; simpa [bdCs] using hown3)
             obtain ⟨y1, y2, y3⟩ := PS.app (hB4.ps.alloc _) hg3 hr3 (bs.length + 1) (by simp) (own_less hown4 (by omega))))
         go_roundg (j - 1)
         case measure => go_light; omega
         case rel =>
          go_light
          refine ⟨j - 1, rfl, by congr 1; omega, by omega, A3, c3, bs ++ [⟨(f : Int), (t : Int), m3⟩], by simp; omega, ?_, y3.more (by omega), ?_, ?_, ?_⟩
          ·intro x hx
           rcases List.mem_append.1 hx with hx | hx
           ·exact hbs x hx
           ·simp only [List.mem_singleton] at hx
            subst hx
            exact ⟨⟨by dsimp only; omega, by dsimp only; omega⟩, ⟨by dsimp only; omega, by dsimp only; omega⟩, by dsimp only; omega, by dsimp only; omega⟩
          ·have := own_set_low (p := ⟨w.heap.size + 1, 1, none⟩) hown4 (by dsimp only; omega) (.slice A3 (bs.length + 1) c3)
           unfold OwnB
           simpa using this
          ·have := hg3.size
           simp only [World.size_alloc] at this
           simp only [World.size_setCell]
           omega
          ·intro q hq
           have h1 := far_cell hB4.gr (hTc q hq) (by omega)
           rw [set_other (by dsimp only; omega), hg3.cell_far ⟨tb, q, none⟩ (by simp only [World.size_alloc]; omega) (fun e => by have := (hown.lt tb e.symm).1; omega), World.cell?_alloc_past _ _ _ (by omega)]
           exact h1
--END 2
         )
       ·subst hb
--BEGIN 2
        have p1 := hB3.ps.c1
        have b0 := hB3.b0
        have b1 := hB3.b1
        have b2 := hB3.b2
        have hz9 := hB3.sz
        go_wp2_with (first
         | (at_builtin; refine app_list _ rfl (.tmp 80) (.tmp 82) _ rfl w2.heap.size 97 j0 _ 3 24 Tryz.underlying32 hj0 hy0 hy1 hy2 rfl (by omega) (.slice A bs.length c) bs.length (bdCs bs) rfl ?_ _ 1 _ [.int .i64 (f : Int), .int .i64 (t : Int), .int .i64 m2] rfl rfl (NewsAt.block (cs := #[.int .i64 (f : Int), .int .i64 (t : Int), .int .i64 m2]) (at_new (by omega))) (by simp [Value.oneCell']) (by omega) (by omega) ?_ ?_
            ·exact (own_far hown hB3.gr (by omega)).alloc _
            ·simp only [World.size_alloc]; omega
            intro A3 c3 w3 hown3 hg3 hat3
            have hr3 : ∀ k, (Value.slice A bs.length c).ownBlock = some k → w.heap.size + 2 ≤ k := (fun q hq => by have := (hown.lt q hq).1; omega)
            have hown4 : OwnB w2.heap.size w3 (.slice A3 (bs.length + 1) c3) (bs ++ [⟨(f : Int), (t : Int), m2⟩]) := (by unfold OwnB; rw [bdCs_append]; simpa [bdCs] using hown3)
            obtain ⟨y1, y2, y3⟩ := PS.app (hB3.ps.alloc _) hg3 hr3 (bs.length + 1) (by simp) (own_less hown4 (by omega))))
        go_roundg (j - 1)
        case measure => go_light; omega
        case rel =>
         go_light
         refine ⟨j - 1, rfl, by congr 1; omega, by omega, A3, c3, bs ++ [⟨(f : Int), (t : Int), m2⟩], by simp; omega, ?_, y3.more (by omega), ?_, ?_, ?_⟩
         ·intro x hx
          rcases List.mem_append.1 hx with hx | hx
          ·exact hbs x hx
          ·simp only [List.mem_singleton] at hx
           subst hx
           exact ⟨⟨by dsimp only; omega, by dsimp only; omega⟩, ⟨by dsimp only; omega, by dsimp only; omega⟩, by dsimp only; omega, by dsimp only; omega⟩
         ·have := own_set_low (p := ⟨w.heap.size + 1, 1, none⟩) hown4 (by dsimp only; omega) (.slice A3 (bs.length + 1) c3)
          unfold OwnB
          simpa using this
         ·have := hg3.size
          simp only [World.size_alloc] at this
          simp only [World.size_setCell]
          omega
         ·intro q hq
          have h1 := far_cell hB3.gr (hTc q hq) (by omega)
          rw [set_other (by dsimp only; omega), hg3.cell_far ⟨tb, q, none⟩ (by simp only [World.size_alloc]; omega) (fun e => by have := (hown.lt tb e.symm).1; omega), World.cell?_alloc_past _ _ _ (by omega)]
          exact h1
--END 2
--END 3

end Go.Proofs.YtmnajkhoacogjaaGreatDoor
