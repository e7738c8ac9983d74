/-
  The draws of the reference: two plans: the walk.
-/
import Derived.Test.YtjlaljnffmncpaaD11
import Derived.Test.YtjlaljnffmncpaaZ1
namespace Go.Proofs.Ytjlaljnffmncpaa
set_option linter.unusedVariables false
set_option linter.unusedSimpArgs false
open Go.RowKit Pp

theorem min_step {P : Program} {w : World} {ops : Array Oper} {o : Oper} {a : Act} {K : Act → World → Prop} {Q : Exit → Act → World → Prop} {E : Prop} (hgd : o.guard = none) (s x : Operand) (ts : Array TypeId)
    (ho : o.op = .call { callee := .builtin .min, args := #[s, x], argTypes := ts }) (u v : Int) (hs : a.eval s = .int .i64 u) (hx : a.eval x = .int .i64 v)
    (h : ∀ y, (y = u ∨ y = v) → y ≤ u → y ≤ v → K (a.put o.dst (.int .i64 y)) w) : if Region.wanted o (yielded ops a.tmps) = true then Oper.wp P o a w K Q else E := by
  rw [if_pos (by simp [Region.wanted, hgd])]
  unfold Oper.wp execOp
  simp only [ho, resolve, invoke, builtin, Sem.run_bind, Sem.run_pure, Result.andThen_ok, List.map_toArray, List.map_cons, List.map_nil, hs, hx, run_min_int2]
  refine h _ ?_ ?_ ?_
  · split
    · exact .inr rfl
    · exact .inl rfl
  · split <;> omega
  · split <;> omega
theorem bool_or (B : Bool) {X : Prop} (h : B = false → X) : Value.bool B = .bool true ∨ (Value.bool B = .bool false ∧ X) := by
  cases B
  · exact .inr ⟨rfl, h rfl⟩
  · exact .inl rfl
theorem ts_new {w w1 w2 : World} {g : Nat} {K n n' : Int} {A A' : Option Addr} {c c' : Nat} {bs bs' : List Bd} {t : TypeId} (hg : g < w.heap.size)
    (G1 : ((w.alloc (.cells #[.int .i64 0, .slice none 0 0] t)).alloc (.cells #[.int .i64 0, .slice none 0 0] t)).grownBy w1 (some g)) (o1 : OwnB ((w.alloc (.cells #[.int .i64 0, .slice none 0 0] t)).alloc (.cells #[.int .i64 0, .slice none 0 0] t)).heap.size w1 (.slice A bs.length c) bs)
    (G2 : (w1.alloc (.cells #[.int .i64 n, .slice A bs.length c] t)).grownBy w2 (some g)) (o2 : OwnB (w1.alloc (.cells #[.int .i64 n, .slice A bs.length c] t)).heap.size w2 (.slice A' bs'.length c') bs') (hR : RdO w2 g K) :
    TS w (w2.alloc (.cells #[.int .i64 n', .slice A' bs'.length c'] t)) g w1.heap.size w2.heap.size K n n' A A' c c' bs bs' := by
  have s1 := G1.size
  have s2 := G2.size
  simp only [World.size_alloc] at s1 s2 o1 o2
  have far1 : ∀ {b o v}, b < w.heap.size + 2 → b ≠ g → ((w.alloc (.cells #[.int .i64 0, .slice none 0 0] t)).alloc (.cells #[.int .i64 0, .slice none 0 0] t)).cell? ⟨b, o, none⟩ = some v → (w2.alloc (.cells #[.int .i64 n', .slice A' bs'.length c'] t)).cell? ⟨b, o, none⟩ = some v := fun {b o v} hb hne hv => by
    rw [World.cell?_alloc_past _ _ _ (by omega)]
    refine far_cell G2 ?_ hne
    rw [World.cell?_alloc_past _ _ _ (by omega)]
    exact far_cell G1 hv hne
  have farf : ∀ {b o}, b < w.heap.size + 2 → b ≠ g → ((w.alloc (.cells #[.int .i64 0, .slice none 0 0] t)).alloc (.cells #[.int .i64 0, .slice none 0 0] t)).frozen? ⟨b, o, none⟩ = false → (w2.alloc (.cells #[.int .i64 n', .slice A' bs'.length c'] t)).frozen? ⟨b, o, none⟩ = false := fun {b o} hb hne hv => by
    rw [World.frozen?_alloc_past _ _ _ (by omega)]
    refine far_frozen G2 ?_ (by simp only [World.size_alloc]; omega) hne
    rw [World.frozen?_alloc_past _ _ _ (by omega)]
    exact far_frozen G1 hv (by simp only [World.size_alloc]; omega) hne
  have pc : ∀ {o v}, (w1.alloc (.cells #[.int .i64 n, .slice A bs.length c] t)).cell? ⟨w1.heap.size, o, none⟩ = some v → (w2.alloc (.cells #[.int .i64 n', .slice A' bs'.length c'] t)).cell? ⟨w1.heap.size, o, none⟩ = some v := fun {o v} hv => by
    rw [World.cell?_alloc_past _ _ _ (by omega)]
    exact far_cell G2 hv (by omega)
  refine ⟨hR.alloc _, gr_alloc (gr_pick (gr_alloc (gr_pick (gr_alloc (gr_new w _ (some g)) _) G1) _) G2) _, hg, by omega, by omega, by simp, far1 (by omega) (by omega) (by simp [go_sem]), far1 (by omega) (by omega) (by simp [go_sem]), fun i => farf (by omega) (by omega) (by simp [go_sem]), far1 (by omega) (by omega) (by simp [go_sem]), far1 (by omega) (by omega) (by simp [go_sem]), fun i => farf (by omega) (by omega) (by simp [go_sem]), pc (by simp [go_sem]), pc (by simp [go_sem]), by simp [go_sem], by simp [go_sem], ?_, ?_⟩
  · exact own_less ((own_far (o1.alloc _) G2 (by omega)).alloc _) (by omega)
  · exact own_less (o2.alloc _) (by omega)

set_option maxHeartbeats 8000000 in
set_option maxRecDepth 100000 in
theorem plans_c (g : Nat) (K : Int) (w : World) (hK : 0 ≤ K ∧ K ≤ 2000000) (hR : RdO w g K) :
    Calls Try.prog 79 #[.pointer (some ⟨g, 0, none⟩)] w fun e w' =>
      ∃ n A c bs n' A' c' bs', e = .returned (.tuple #[.agg #[.int .i64 n, .slice A bs.length c], .agg #[.int .i64 n', .slice A' bs'.length c']]) ∧ (0 ≤ n ∧ n ≤ 7) ∧ bs.length ≤ 9 ∧ (∀ x ∈ bs, Sm x) ∧ (0 ≤ n' ∧ n' ≤ 7) ∧ bs'.length ≤ 9 ∧ (∀ x ∈ bs', Sm x) ∧
        OwnB w.heap.size w' (.slice A bs.length c) bs ∧ OwnB w.heap.size w' (.slice A' bs'.length c') bs' ∧ RdO w' g (K + 500) ∧ w.grownBy w' (some g) := by
  obtain ⟨hK0, hK1⟩ := hK
  have hg := hR.lt
  obtain ⟨j0, hj0, hy0, hy1, hy2⟩ := info_parts infoB
  go_enter Try.func79, Try.ntmps79
  go_upto_region 3 with (first
    | (go_at_call 143; go_fit (few_c g K _ _ ⟨hK0, by omega⟩ (by omega) ((hR.alloc _).alloc _)); rintro e w1 ⟨n, A, c, bs, rfl, ⟨hn0, hn7⟩, hlen, hsm, hown1, hR1, G1⟩)
    | (go_at_call 143; go_fit (few_c g (K + 200) _ _ (by omega) (by omega) (hR1.alloc _)); rintro e w2 ⟨n', A', c', bs', rfl, ⟨hn0', hn7'⟩, hlen', hsm', hown2, hR2, G2⟩))
  have hT := ts_new (n' := n') hg G1 hown1 G2 hown2 hR2
  generalize w2.alloc (.cells #[.int .i64 n', .slice A' bs'.length c'] 25) = wa at hT ⊢
  generalize w2.heap.size = Q at hT ⊢
  generalize w1.heap.size = P at hT ⊢
  clear hown1 hown2 hR1 hR2 G1 G2 hR
  go_cut [32] (fun s wx => (s = .bool true ∨ (s = .bool false ∧ planOk ⟨n, bs⟩ = true)) ∧ TS w wx g P Q (K + 401) n n' A A' c c' bs bs')
  case first =>
    have p0 := hT.c0
    have p1 := hT.c1
    have p2 := hT.d0
    by_cases hnn : n = n'
    · go_wp2_with fail
      go_meet
      case rel => exact ⟨.inl rfl, hT.more (by omega)⟩
    · obtain ⟨r1, hr1⟩ : ∃ r1, planOk ⟨n, bs⟩ = r1 := ⟨_, rfl⟩
      obtain ⟨r2, hr2⟩ : ∃ r2, planOk ⟨n', bs'⟩ = r2 := ⟨_, rfl⟩
      have Hr1 := hide hr1
      have Hr2 := hide hr2
      clear hr1 hr2
      cases r1
      all_goals cases r2
      all_goals (
        go_wp2_with (first
          | (go_at_call 89; go_fit (pick_ts _ _ hT (by omega) (by omega)); rintro e w3 ⟨v, rfl, c1, c2, _, hT3, _, _⟩; have c2' := c2 (by omega); have q0 := hT3.c0; have q1 := hT3.c1; obtain ⟨b, hrd⟩ := OwnB.readsA hT3.own)
          | (go_at_call 43; go_fit (sPlanOk_c ⟨n, bs⟩ A b 0 c _ _ (by dsimp only; omega) (Nat.le_refl _) hrd); rintro e w4 ⟨rfl, hb4⟩; rw [Hr1.out]; have hT4 := hT3.below hb4; have s0 := hT4.d0; have s1 := hT4.d1; obtain ⟨b', hrd'⟩ := OwnB.readsA hT4.own')
          | (go_at_call 43; go_fit (sPlanOk_c ⟨n', bs'⟩ A' b' 0 c' _ _ (by dsimp only; omega) (Nat.le_refl _) hrd'); rintro e w5 ⟨rfl, hb5⟩; rw [Hr2.out]; have hT5 := hT4.below hb5))
        all_goals go_meet
        all_goals (
          case rel => exact ⟨by first | exact .inl rfl | exact bool_or _ (fun _ => Hr1.out) | exact bool_or _ (fun h => by simp at h), by first | exact hT5.more (by omega) | exact hT4.more (by omega) | exact hT3.more (by omega)⟩))
  case rest =>
    clear hT
    obtain ⟨hs, hT⟩ := hcut
    have z0 := hT.z0
    have z1 := hT.z1
    have zf0 := hT.zf 0
    have zf1 := hT.zf 1
    have y0 := hT.y0
    have y1 := hT.y1
    have yf0 := hT.yf 0
    have yf1 := hT.yf 1
    have p0 := hT.c0
    have p1 := hT.c1
    have q0 := hT.d0
    have q1 := hT.d1
    have hlt0 := hT.lt
    have hP0 := hT.P0
    have hPQ := hT.PQ
    rcases hs with rfl | ⟨rfl, hpo⟩
    · go_upto_region 4 with fail
      go_region
      go_wp2_with fail
      obtain ⟨W, hW, r0, r1, s0, s1, ox, oy, hr, hgr⟩ := hT.fin (nx := n) (ny := n') hT.own hT.own'
      rw [← hW]
      refine bodyPost_ret (v := .tuple #[.agg #[.int .i64 n, .slice A bs.length c], .agg #[.int .i64 n', .slice A' bs'.length c']]) (by simp [results, Try.results79, go_sem, r0, r1, s0, s1]) rfl ?_
      exact ⟨n, A, c, bs, n', A', c', bs', rfl, ⟨hn0, hn7⟩, hlen, hsm, ⟨hn0', hn7'⟩, hlen', hsm', World.ownsRow.drew ox, World.ownsRow.drew oy, (hr.more (by omega)).drew, grown_drew hgr⟩
    · obtain ⟨_, hl16, hn1, hn6⟩ := sm_ok hpo
      have hbd : ∀ x ∈ bs, -99 ≤ x.m ∧ x.m ≤ 99 := fun x hx => ((bdOk_iff.1 ((planOk_iff.1 hpo).2.2 x hx)).2.2)
      clear hpo z0 z1 zf0 zf1 y0 y1 yf0 yf1 q0 q1
      go_wp2_with fail
      have hQc := hT.Q1
      have hTa := hT.alloc (.cells #[.int .i64 n, .slice none 0 0] 25)
      have o0 : (wc.alloc (.cells #[.int .i64 n, .slice none 0 0] 25)).cell? ⟨wc.heap.size, 0, none⟩ = some (.int .i64 n) := by simp [go_sem]
      have o1 : (wc.alloc (.cells #[.int .i64 n, .slice none 0 0] 25)).cell? ⟨wc.heap.size, 1, none⟩ = some (.slice none 0 0) := by simp [go_sem]
      have of : ∀ i, (wc.alloc (.cells #[.int .i64 n, .slice none 0 0] 25)).frozen? ⟨wc.heap.size, i, none⟩ = false := fun i => by simp [go_sem]
      have hOs : wc.heap.size + 1 ≤ (wc.alloc (.cells #[.int .i64 n, .slice none 0 0] 25)).heap.size := by simp
      have hpl : ∀ q, (Value.slice A bs.length c).ownBlock = some q → q < wc.heap.size := fun q hq => (hT.own.lt q hq).2
      have hql : ∀ q, (Value.slice A' bs'.length c').ownBlock = some q → q < wc.heap.size := fun q hq => (hT.own'.lt q hq).2
      generalize wc.alloc (.cells #[.int .i64 n, .slice none 0 0] 25) = W at hTa o0 o1 of hOs ⊢
      generalize wc.heap.size = O at hpl hql hQc o0 o1 of hOs ⊢
      clear hT p0 p1
      go_loopg [7] bs.length (fun gh s wr => ∃ k : Nat, k ≤ bs.length ∧ gh = bs.length - k ∧ s = .int .i64 k ∧ ∃ A3 c3, ∃ bs3 : List Bd, bs3.length ≤ k ∧ (∀ x ∈ bs3, Sm x) ∧ OwnB (O + 1) wr (.slice A3 bs3.length c3) bs3 ∧ TS w wr g P Q (K + 401 + 2 * (k : Int)) n n' A A' c c' bs bs' ∧ O + 1 ≤ wr.heap.size ∧ wr.cell? ⟨O, 0, none⟩ = some (.int .i64 n) ∧ wr.cell? ⟨O, 1, none⟩ = some (.slice A3 bs3.length c3) ∧ ∀ i, wr.frozen? ⟨O, i, none⟩ = false)
      case atStart => exact ⟨0, Nat.zero_le _, rfl, rfl, none, 0, [], Nat.le_refl _, by simp, World.ownsRow_nil _ _ _ _, hTa.more (by omega), hOs, o0, o1, of⟩
      case round =>
        clear hTa o0 o1 of hOs
        obtain ⟨k, hk, rfl, rfl, A3, c3, bs3, hl3, hsm3, hE, hT, hOs, o0, o1, of⟩ := hrel
        have p0 := hT.c0
        have p1 := hT.c1
        by_cases hkl : k < bs.length
        · have hkl' : (k : Int) < (bs.length : Int) := by omega
          obtain ⟨b, hrd⟩ := OwnB.readsA hT.own
          have hx := List.getElem?_eq_getElem hkl
          obtain rfl := hrd.addr (by omega)
          have d0 := hrd.c0 k _ hx
          have d1 := hrd.c1 k _ hx
          have d2 := hrd.c2 k _ hx
          have hsx := hsm _ (List.getElem_mem hkl)
          have hbx := hbd _ (List.getElem_mem hkl)
          simp only [Nat.zero_add] at d0 d1 d2
          generalize bs[k] = x at d0 d1 d2 hsx hbx
          clear hx hrd
          go_upto_region 10 with fail
          have hTa := hT.alloc (.cells #[.int .i64 x.f, .int .i64 x.t, .int .i64 x.m] 41)
          have hEa : OwnB (O + 1) (wr.alloc (.cells #[.int .i64 x.f, .int .i64 x.t, .int .i64 x.m] 41)) (.slice A3 bs3.length c3) bs3 := World.ownsRow.alloc hE _
          have k0 : (wr.alloc (.cells #[.int .i64 x.f, .int .i64 x.t, .int .i64 x.m] 41)).cell? ⟨O, 0, none⟩ = some (.int .i64 n) := by rw [World.cell?_alloc_past _ _ _ (by omega)]; exact o0
          have k1 : (wr.alloc (.cells #[.int .i64 x.f, .int .i64 x.t, .int .i64 x.m] 41)).cell? ⟨O, 1, none⟩ = some (.slice A3 bs3.length c3) := by rw [World.cell?_alloc_past _ _ _ (by omega)]; exact o1
          have kf : ∀ i, (wr.alloc (.cells #[.int .i64 x.f, .int .i64 x.t, .int .i64 x.m] 41)).frozen? ⟨O, i, none⟩ = false := fun i => by rw [World.frozen?_alloc_past _ _ _ (by omega)]; exact of i
          have b0 : (wr.alloc (.cells #[.int .i64 x.f, .int .i64 x.t, .int .i64 x.m] 41)).cell? ⟨wr.heap.size, 0, none⟩ = some (.int .i64 x.f) := by simp [go_sem]
          have b1 : (wr.alloc (.cells #[.int .i64 x.f, .int .i64 x.t, .int .i64 x.m] 41)).cell? ⟨wr.heap.size, 1, none⟩ = some (.int .i64 x.t) := by simp [go_sem]
          have b2 : (wr.alloc (.cells #[.int .i64 x.f, .int .i64 x.t, .int .i64 x.m] 41)).cell? ⟨wr.heap.size, 2, none⟩ = some (.int .i64 x.m) := by simp [go_sem]
          have hsb : (wr.alloc (.cells #[.int .i64 x.f, .int .i64 x.t, .int .i64 x.m] 41)).heap.size = wr.heap.size + 1 := by simp
          generalize wr.alloc (.cells #[.int .i64 x.f, .int .i64 x.t, .int .i64 x.m] 41) = Wb at hTa hEa k0 k1 kf b0 b1 b2 hsb ⊢
          have hlt3 : ∀ q, (Value.slice A3 bs3.length c3).ownBlock = some q → q < wr.heap.size := fun q hq => (hE.lt q hq).2
          have hgO : g < O := by have := hT.lt; have := hT.P0; have := hT.PQ; omega
          clear hT hE o0 o1 of p0 p1 d0 d1 d2
          go_cut [52] from 38 to 69 (fun s wx => (s = .bool true ∨ s = .bool false) ∧ TS w wx g P Q (K + 401 + 2 * (k : Int) + 1) n n' (some ⟨b, 0, none⟩) A' c c' bs bs' ∧ OwnB (O + 1) wx (.slice A3 bs3.length c3) bs3 ∧ wx.cell? ⟨O, 0, none⟩ = some (.int .i64 n) ∧ wx.cell? ⟨O, 1, none⟩ = some (.slice A3 bs3.length c3) ∧ (∀ i, wx.frozen? ⟨O, i, none⟩ = false) ∧ wx.cell? ⟨wr.heap.size, 0, none⟩ = some (.int .i64 x.f) ∧ wx.cell? ⟨wr.heap.size, 1, none⟩ = some (.int .i64 x.t) ∧ wx.cell? ⟨wr.heap.size, 2, none⟩ = some (.int .i64 x.m) ∧ wx.heap.size = wr.heap.size + 1)
          case first =>
            go_wp2_with (go_at_call 89; go_fit (pick_ts _ _ hTa (by omega) (by omega)); rintro e w3 ⟨v, rfl, c1, c2, _, hT3, G3, hs3⟩; have c2' := c2 (by omega))
            go_meet
            case rel =>
              refine ⟨?_, hT3, own_far hEa G3 (by omega), far_cell G3 k0 (by omega), far_cell G3 k1 (by omega), fun i => far_frozen G3 (kf i) (by omega) (by omega), far_cell G3 b0 (by omega), far_cell G3 b1 (by omega), far_cell G3 b2 (by omega), by omega⟩
              by_cases hv : 0 < v
              · simp [hv]
              · simp [hv]
          case rest =>
            clear hTa hEa k0 k1 kf b0 b1 b2 hsb
            obtain ⟨hs, hT, hE, o0, o1, of, b0, b1, b2, hsz⟩ := hcut
            rcases hs with rfl | rfl
            · go_upto_region 11 with fail
              have hgV : wr.heap.size ≠ g := by have := hT.lt; have := hT.P0; have := hT.PQ; have := hT.Q1; omega
              have hOV : O ≠ wr.heap.size := by omega
              have hOg : O ≠ g := by omega
              generalize wr.heap.size = V at b0 b1 b2 hsz hlt3 hgV hOV hOs
              have hS0 : wc.drew.cell? ⟨O, 1, none⟩ = some (.slice A3 bs3.length c3) ∧ wc.drew.cell? ⟨V, 0, none⟩ = some (.int .i64 x.f) ∧ wc.drew.cell? ⟨V, 1, none⟩ = some (.int .i64 x.t) ∧ wc.drew.cell? ⟨V, 2, none⟩ = some (.int .i64 x.m) := ⟨o1, b0, b1, b2⟩
              refine wp_regionE (fun w' => w'.cell? ⟨O, 1, none⟩ = some (.slice A3 bs3.length c3) ∧ w'.cell? ⟨V, 0, none⟩ = some (.int .i64 x.f) ∧ w'.cell? ⟨V, 1, none⟩ = some (.int .i64 x.t) ∧ w'.cell? ⟨V, 2, none⟩ = some (.int .i64 x.m)) 17 (by kernel_rfl) ?_
              change wpE _ _ _ _ _ _ 18 #[false, false, false, false, false, false, false, false, false, false, false, false, false, false, false, false, false, false] _ _
              refine wpE_take' (v := ?_) 0 [17] (of_decide_eq_true (by kernel_rfl)) (by kernel_rfl) (by kernel_rfl) (by kernel_rfl) (by kernel_rfl) (fun _ _ _ h => h) (by kernel_rfl) ?_ hS0 ?_
              rotate_left
              · intro w' hSw
                simp only [List.getElem_toArray, List.getElem_cons_succ, List.getElem_cons_zero]
                go_simp
                all_goals with_reducible rfl
              simp only [List.getElem_toArray, List.getElem_cons_succ, List.getElem_cons_zero, Act.put, List.setIfInBounds_toArray, List.set_cons_zero, List.set_cons_succ]
              refine wpE_take' (v := ?_) 1 [17] (of_decide_eq_true (by kernel_rfl)) (by kernel_rfl) (by kernel_rfl) (by kernel_rfl) (by kernel_rfl) (fun _ _ _ h => h) (by kernel_rfl) ?_ hS0 ?_
              rotate_left
              · intro w' hSw
                simp only [List.getElem_toArray, List.getElem_cons_succ, List.getElem_cons_zero]
                go_simp
                all_goals with_reducible rfl
              simp only [List.getElem_toArray, List.getElem_cons_succ, List.getElem_cons_zero, Act.put, List.setIfInBounds_toArray, List.set_cons_zero, List.set_cons_succ]
              refine wpE_take' (v := ?_) 2 [17] (of_decide_eq_true (by kernel_rfl)) (by kernel_rfl) (by kernel_rfl) (by kernel_rfl) (by kernel_rfl) (fun _ _ _ h => h) (by kernel_rfl) ?_ hS0 ?_
              rotate_left
              · intro w' hSw
                simp only [List.getElem_toArray, List.getElem_cons_succ, List.getElem_cons_zero]
                go_simp
                all_goals with_reducible rfl
              simp only [List.getElem_toArray, List.getElem_cons_succ, List.getElem_cons_zero, Act.put, List.setIfInBounds_toArray, List.set_cons_zero, List.set_cons_succ]
              refine wpE_take' (v := ?_) 3 [17] (of_decide_eq_true (by kernel_rfl)) (by kernel_rfl) (by kernel_rfl) (by kernel_rfl) (by kernel_rfl) (fun _ _ _ h => h) (by kernel_rfl) ?_ hS0 ?_
              rotate_left
              · intro w' hSw
                simp only [List.getElem_toArray, List.getElem_cons_succ, List.getElem_cons_zero]
                go_simp
                all_goals with_reducible rfl
              simp only [List.getElem_toArray, List.getElem_cons_succ, List.getElem_cons_zero, Act.put, List.setIfInBounds_toArray, List.set_cons_zero, List.set_cons_succ]
              refine wpE_take' (v := ?_) 4 [17] (of_decide_eq_true (by kernel_rfl)) (by kernel_rfl) (by kernel_rfl) (by kernel_rfl) (by kernel_rfl) (fun _ _ _ h => h) (by kernel_rfl) ?_ hS0 ?_
              rotate_left
              · intro w' hSw
                simp only [List.getElem_toArray, List.getElem_cons_succ, List.getElem_cons_zero]
                go_simp
                all_goals with_reducible rfl
              simp only [List.getElem_toArray, List.getElem_cons_succ, List.getElem_cons_zero, Act.put, List.setIfInBounds_toArray, List.set_cons_zero, List.set_cons_succ]
              refine wpE_take' (v := ?_) 5 [17] (of_decide_eq_true (by kernel_rfl)) (by kernel_rfl) (by kernel_rfl) (by kernel_rfl) (by kernel_rfl) (fun _ _ _ h => h) (by kernel_rfl) ?_ hS0 ?_
              rotate_left
              · intro w' hSw
                simp only [List.getElem_toArray, List.getElem_cons_succ, List.getElem_cons_zero]
                go_simp
                all_goals with_reducible rfl
              simp only [List.getElem_toArray, List.getElem_cons_succ, List.getElem_cons_zero, Act.put, List.setIfInBounds_toArray, List.set_cons_zero, List.set_cons_succ]
              refine wpE_take' (v := ?_) 6 [17] (of_decide_eq_true (by kernel_rfl)) (by kernel_rfl) (by kernel_rfl) (by kernel_rfl) (by kernel_rfl) (fun _ _ _ h => h) (by kernel_rfl) ?_ hS0 ?_
              rotate_left
              · intro w' hSw
                simp only [List.getElem_toArray, List.getElem_cons_succ, List.getElem_cons_zero]
                go_simp
                all_goals with_reducible rfl
              simp only [List.getElem_toArray, List.getElem_cons_succ, List.getElem_cons_zero, Act.put, List.setIfInBounds_toArray, List.set_cons_zero, List.set_cons_succ]
              refine wpE_take' (v := ?_) 7 [17] (of_decide_eq_true (by kernel_rfl)) (by kernel_rfl) (by kernel_rfl) (by kernel_rfl) (by kernel_rfl) (fun _ _ _ h => h) (by kernel_rfl) ?_ hS0 ?_
              rotate_left
              · intro w' hSw
                simp only [List.getElem_toArray, List.getElem_cons_succ, List.getElem_cons_zero]
                go_simp
                all_goals with_reducible rfl
              simp only [List.getElem_toArray, List.getElem_cons_succ, List.getElem_cons_zero, Act.put, List.setIfInBounds_toArray, List.set_cons_zero, List.set_cons_succ]
              refine wpE_take' (v := ?_) 8 [17] (of_decide_eq_true (by kernel_rfl)) (by kernel_rfl) (by kernel_rfl) (by kernel_rfl) (by kernel_rfl) (fun _ _ _ h => h) (by kernel_rfl) ?_ hS0 ?_
              rotate_left
              · intro w' hSw
                simp only [List.getElem_toArray, List.getElem_cons_succ, List.getElem_cons_zero]
                go_simp
                all_goals with_reducible rfl
              simp only [List.getElem_toArray, List.getElem_cons_succ, List.getElem_cons_zero, Act.put, List.setIfInBounds_toArray, List.set_cons_zero, List.set_cons_succ]
              refine wpE_step' 9 (of_decide_eq_true (by kernel_rfl)) (by kernel_rfl) (by kernel_rfl) (fun K hK => ?_)
              simp only [List.getElem_toArray, List.getElem_cons_succ, List.getElem_cons_zero]
              go_simp
              go_at_call 89
              refine (pick_ts 4 _ hT.drew (by omega) (by omega)).mono ?_
              rintro e w4 ⟨v, rfl, c1, c2, -, hT4, G4, hs4⟩
              have c2' := c2 (by omega)
              have hS1 : w4.cell? ⟨O, 1, none⟩ = some (.slice A3 bs3.length c3) ∧ w4.cell? ⟨V, 0, none⟩ = some (.int .i64 x.f) ∧ w4.cell? ⟨V, 1, none⟩ = some (.int .i64 x.t) ∧ w4.cell? ⟨V, 2, none⟩ = some (.int .i64 x.m) := ⟨far_cell (undrew G4) o1 hOg, far_cell (undrew G4) b0 hgV, far_cell (undrew G4) b1 hgV, far_cell (undrew G4) b2 hgV⟩
              have o04 := far_cell (undrew G4) o0 hOg
              have of4 := fun i => far_frozen (undrew G4) (of i) (by omega) hOg
              have hE4 : OwnB (O + 1) w4 (.slice A3 bs3.length c3) bs3 := own_far hE (undrew G4) (by omega)
              have hs4' : w4.heap.size = V + 1 := by rw [hs4]; simpa using hsz
              obtain ⟨y, hmin, hya, hyb⟩ : ∃ y : Int, (if 99 < IntKind.i64.wrap (IntKind.i64.wrap (x.m + v) - 1) then (99 : Int) else IntKind.i64.wrap (IntKind.i64.wrap (x.m + v) - 1)) = y ∧ -200 ≤ y ∧ y ≤ 200 := ⟨_, rfl, by rw [IntWalk.i64_left, IntWalk.i64_left, IntWalk.wrap64_in (x.m + v) (by omega), IntWalk.wrap64_in _ (by omega)]; split <;> omega, by rw [IntWalk.i64_left, IntWalk.i64_left, IntWalk.wrap64_in (x.m + v) (by omega), IntWalk.wrap64_in _ (by omega)]; split <;> omega⟩
              refine hK.out _ _ (.inr hS1) ?_
              clear hK K hS0 hs4 hsz hT hE o0 o1 of b0 b1 b2 G4
              have hS0 := hS1
              clear hS1
              simp only [Act.put, List.setIfInBounds_toArray, List.set_cons_zero, List.set_cons_succ]
              refine wpE_take' (v := ?_) 10 [17] (of_decide_eq_true (by kernel_rfl)) (by kernel_rfl) (by kernel_rfl) (by kernel_rfl) (by kernel_rfl) (fun _ _ _ h => h) (by kernel_rfl) ?_ hS0 ?_
              rotate_left
              · intro w' hSw
                simp only [List.getElem_toArray, List.getElem_cons_succ, List.getElem_cons_zero]
                go_simp
                all_goals with_reducible rfl
              simp only [List.getElem_toArray, List.getElem_cons_succ, List.getElem_cons_zero, Act.put, List.setIfInBounds_toArray, List.set_cons_zero, List.set_cons_succ]
              refine wpE_take' (v := ?_) 11 [17] (of_decide_eq_true (by kernel_rfl)) (by kernel_rfl) (by kernel_rfl) (by kernel_rfl) (by kernel_rfl) (fun _ _ _ h => h) (by kernel_rfl) ?_ hS0 ?_
              rotate_left
              · intro w' hSw
                simp only [List.getElem_toArray, List.getElem_cons_succ, List.getElem_cons_zero]
                go_simp
                all_goals with_reducible rfl
              simp only [List.getElem_toArray, List.getElem_cons_succ, List.getElem_cons_zero, Act.put, List.setIfInBounds_toArray, List.set_cons_zero, List.set_cons_succ]
              refine wpE_take' (v := ?_) 12 [17] (of_decide_eq_true (by kernel_rfl)) (by kernel_rfl) (by kernel_rfl) (by kernel_rfl) (by kernel_rfl) (fun _ _ _ h => h) (by kernel_rfl) ?_ hS0 ?_
              rotate_left
              · intro w' hSw
                simp only [List.getElem_toArray, List.getElem_cons_succ, List.getElem_cons_zero]
                go_simp
                all_goals with_reducible rfl
              simp only [List.getElem_toArray, List.getElem_cons_succ, List.getElem_cons_zero, Act.put, List.setIfInBounds_toArray, List.set_cons_zero, List.set_cons_succ]
              refine wpE_take' (v := ?_) 13 [17] (of_decide_eq_true (by kernel_rfl)) (by kernel_rfl) (by kernel_rfl) (by kernel_rfl) (by kernel_rfl) (fun _ _ _ h => h) (by kernel_rfl) ?_ hS0 ?_
              rotate_left
              · intro w' hSw
                simp only [List.getElem_toArray, List.getElem_cons_succ, List.getElem_cons_zero]
                go_simp
                all_goals with_reducible rfl
              simp only [List.getElem_toArray, List.getElem_cons_succ, List.getElem_cons_zero, Act.put, List.setIfInBounds_toArray, List.set_cons_zero, List.set_cons_succ]
              refine wpE_step' 14 (of_decide_eq_true (by kernel_rfl)) (by kernel_rfl) (by kernel_rfl) (fun K hK => ?_)
              simp only [List.getElem_toArray, List.getElem_cons_succ, List.getElem_cons_zero]
              go_simp
              have hal : Below w4.heap.size w4 (w4.alloc (.cells #[.int .i64 x.f, .int .i64 x.t, .int .i64 y] 41)) := by go_grown
              have hbc := (bcell hal).1
              have hbf := (bcell hal).2
              have hO4 : O < w4.heap.size := by omega
              have hV4 : V < w4.heap.size := by omega
              have hS1 : (w4.alloc (.cells #[.int .i64 x.f, .int .i64 x.t, .int .i64 y] 41)).cell? ⟨O, 1, none⟩ = some (.slice A3 bs3.length c3) ∧ (w4.alloc (.cells #[.int .i64 x.f, .int .i64 x.t, .int .i64 y] 41)).cell? ⟨V, 0, none⟩ = some (.int .i64 x.f) ∧ (w4.alloc (.cells #[.int .i64 x.f, .int .i64 x.t, .int .i64 y] 41)).cell? ⟨V, 1, none⟩ = some (.int .i64 x.t) ∧ (w4.alloc (.cells #[.int .i64 x.f, .int .i64 x.t, .int .i64 y] 41)).cell? ⟨V, 2, none⟩ = some (.int .i64 x.m) := ⟨(hbc _ _ hO4).trans hS0.1, (hbc _ _ hV4).trans hS0.2.1, (hbc _ _ hV4).trans hS0.2.2.1, (hbc _ _ hV4).trans hS0.2.2.2⟩
              have o05 := (hbc _ 0 hO4).trans o04
              have of5 := fun i => (hbf _ i hO4).trans (of4 i)
              have hE5 := World.ownsRow.alloc hE4 (.cells #[.int .i64 x.f, .int .i64 x.t, .int .i64 y] 41)
              have hT5 := hT4.alloc (.cells #[.int .i64 x.f, .int .i64 x.t, .int .i64 y] 41)
              have hns : NewsAt (w4.alloc (.cells #[.int .i64 x.f, .int .i64 x.t, .int .i64 y] 41)) (some ⟨w4.heap.size, 0, none⟩) 1 [.int .i64 x.f, .int .i64 x.t, .int .i64 y] := NewsAt.block (cs := #[.int .i64 x.f, .int .i64 x.t, .int .i64 y]) (at_new rfl)
              refine hK.out _ _ (.inr hS1) ?_
              clear hK K hS0 hbc hbf hal o04 of4 hE4 hT4
              have hS0 := hS1
              clear hS1
              simp only [Act.put, List.setIfInBounds_toArray, List.set_cons_zero, List.set_cons_succ]
              have hsz5 : V + 1 < (w4.alloc (.cells #[.int .i64 x.f, .int .i64 x.t, .int .i64 y] 41)).heap.size := by simp; omega
              generalize w4.alloc (.cells #[.int .i64 x.f, .int .i64 x.t, .int .i64 y] 41) = W5 at hS0 o05 of5 hE5 hT5 hns hsz5 ⊢
              rw [hs4'] at hns
              refine wpE_step' 15 (of_decide_eq_true (by kernel_rfl)) (by kernel_rfl) (by kernel_rfl) (fun K hK => ?_)
              simp only [List.getElem_toArray, List.getElem_cons_succ, List.getElem_cons_zero]
              refine app_wp _ (.tmp 54) (.tmp 67) _ rfl (O + 1) 41 j0 _ 3 24 Try.underlying23 hj0 hy0 hy1 hy2 rfl (by omega) (.slice A3 bs3.length c3) bs3.length (bdCs bs3) rfl hE5 (some ⟨V + 1, 0, none⟩) 1 _ [.int .i64 x.f, .int .i64 x.t, .int .i64 y] rfl rfl hns (by simp [Value.oneCell']) (by omega) (by omega) (by omega) ?_
              intro A4 c4 w5 hown5 hg5 hat5
              have hq5 := fun q hq => hE5.lt q hq
              have kO : some O ≠ (Value.slice A3 bs3.length c3).ownBlock := fun e => by have := (hq5 _ e.symm).1; omega
              have kV : some V ≠ (Value.slice A3 bs3.length c3).ownBlock := fun e => by have := hlt3 _ e.symm; omega
              have hS1 : w5.cell? ⟨O, 1, none⟩ = some (.slice A3 bs3.length c3) ∧ w5.cell? ⟨V, 0, none⟩ = some (.int .i64 x.f) ∧ w5.cell? ⟨V, 1, none⟩ = some (.int .i64 x.t) ∧ w5.cell? ⟨V, 2, none⟩ = some (.int .i64 x.m) := ⟨hg5.cell hS0.1 kO, hg5.cell hS0.2.1 kV, hg5.cell hS0.2.2.1 kV, hg5.cell hS0.2.2.2 kV⟩
              have o06 := hg5.cell o05 kO
              have of6 := fun i => (hg5.frozen_far ⟨O, i, none⟩ (by show O < _; omega) kO).trans (of5 i)
              have hrd5 := hT5.rd.other hg5 (fun q e => by have := (hq5 q e).1; omega)
              have hT6 := hT5.via hrd5 hg5 (fun q e => .inr ⟨by have := (hq5 q e).1; omega, fun e2 => by have := hpl _ e2; have := (hq5 q e).1; omega, fun e2 => by have := hql _ e2; have := (hq5 q e).1; omega⟩)
              have hEx : OwnB (O + 1) w5 (.slice A4 (bs3.length + 1) c4) (bs3 ++ [(⟨x.f, x.t, y⟩ : Bd)]) := by unfold OwnB; rw [List.length_append, bdCs_append]; exact hown5
              have hlx : (bs3 ++ [(⟨x.f, x.t, y⟩ : Bd)]).length = bs3.length + 1 := by simp
              have nO : (Value.slice A4 (bs3.length + 1) c4).ownBlock ≠ some O := fun e => by have := (hEx.lt _ e).1; omega
              have hs5 := hg5.size
              have hof6 := of6 1
              have Hlx := hide hlx
              refine hK.out _ _ (.inr hS1) ?_
              clear hK K hS0 hlx hT5 hE5 hns o05 of5 hown5 hg5 hat5 hq5 kO kV hrd5
              have hS0 := hS1
              clear hS1
              simp only [Act.put, List.setIfInBounds_toArray, List.set_cons_zero, List.set_cons_succ]
              refine wpE_take' (v := ?_) 16 [17] (of_decide_eq_true (by kernel_rfl)) (by kernel_rfl) (by kernel_rfl) (by kernel_rfl) (by kernel_rfl) (fun _ _ _ h => h) (by kernel_rfl) ?_ hS0 ?_
              rotate_left
              · intro w' hSw
                simp only [List.getElem_toArray, List.getElem_cons_succ, List.getElem_cons_zero]
                go_simp
                all_goals with_reducible rfl
              simp only [List.getElem_toArray, List.getElem_cons_succ, List.getElem_cons_zero, Act.put, List.setIfInBounds_toArray, List.set_cons_zero, List.set_cons_succ]
              have o16 := hS0.1
              have hEy : OwnB (O + 1) (w5.setCell ⟨O, 1, none⟩ (.slice A4 (bs3.length + 1) c4)) (.slice A4 (bs3.length + 1) c4) (bs3 ++ [(⟨x.f, x.t, y⟩ : Bd)]) := own_set hEx (p := ⟨O, 1, none⟩) nO _
              have hT7 : TS w (w5.setCell ⟨O, 1, none⟩ (.slice A4 (bs3.length + 1) c4)) g P Q _ n n' (some ⟨b, 0, none⟩) A' c c' bs bs' := hT6.via (hT6.rd.set ⟨O, 1, none⟩ (by show g < O; omega) _) (grown_set w5 ⟨O, 1, none⟩ _) (fun q e => by have e2 : O = q := Option.some.inj e; subst e2; exact .inr ⟨hQc, fun e3 => by have := hpl _ e3; omega, fun e3 => by have := hql _ e3; omega⟩)
              have z06 : (w5.setCell ⟨O, 1, none⟩ (.slice A4 (bs3.length + 1) c4)).cell? ⟨O, 0, none⟩ = some (.int .i64 n) := by rw [World.cell?_setCell_other _ _ _ _ (by simp)]; exact o06
              have z16 : (w5.setCell ⟨O, 1, none⟩ (.slice A4 (bs3.length + 1) c4)).cell? ⟨O, 1, none⟩ = some (.slice A4 (bs3.length + 1) c4) := World.cell?_setCell_same _ _ _ o16
              have zf6 : ∀ i, (w5.setCell ⟨O, 1, none⟩ (.slice A4 (bs3.length + 1) c4)).frozen? ⟨O, i, none⟩ = false := fun i => by rw [← of6 i]; simp
              clear hEx hT6 o06 hmin
              refine wpE_step' 17 (of_decide_eq_true (by kernel_rfl)) (by kernel_rfl) (by kernel_rfl) (fun K hK => ?_)
              simp only [List.getElem_toArray, List.getElem_cons_succ, List.getElem_cons_zero]
              go_simp
              refine hK.out _ _ (.inl rfl) ?_
              clear hK K hS0
              simp only [Act.put, List.setIfInBounds_toArray, List.set_cons_zero, List.set_cons_succ]
              refine wpE_done (by kernel_rfl) ?_ _
              clear o16 hof6 of6
              have hs7 : O + 1 ≤ (w5.setCell ⟨O, 1, none⟩ (.slice A4 (bs3.length + 1) c4)).heap.size := by simp; omega
              generalize w5.setCell ⟨O, 1, none⟩ (.slice A4 (bs3.length + 1) c4) = W7 at hEy hT7 z06 z16 zf6 hs7 ⊢
              go_wp2_with fail
              go_roundg (bs.length - (k + 1))
              case measure => go_light; omega
              case rel =>
                go_light
                refine ⟨k + 1, by omega, rfl, by go_num, A4, c4, bs3 ++ [(⟨x.f, x.t, y⟩ : Bd)], by rw [Hlx.out]; omega, fun z hz => ?_, by rw [Hlx.out]; exact hEy, hT7.more (by simp; omega), hs7, z06, by rw [Hlx.out]; exact z16, zf6⟩
                rcases List.mem_append.1 hz with h | h
                · exact hsm3 z h
                · rw [List.mem_singleton] at h; subst h
                  exact ⟨hsx.1, hsx.2.1, by dsimp only; omega⟩
            · go_wp2_with fail
              go_roundg (bs.length - (k + 1))
              case measure => go_light; omega
              case rel => go_light; exact ⟨k + 1, by omega, rfl, by go_num, A3, c3, bs3, by omega, hsm3, hE, hT.more (by omega), by omega, o0, o1, of⟩
        · have z0 := hT.z0
          have z1 := hT.z1
          have zf0 := hT.zf 0
          have zf1 := hT.zf 1
          have y0 := hT.y0
          have y1 := hT.y1
          have yf0 := hT.yf 0
          have yf1 := hT.yf 1
          go_upto_region 12 with fail
          go_region
          go_wp2_with fail
          obtain ⟨W', hW', r0, r1, s0, s1, ox, oy, hr, hgr⟩ := hT.fin (nx := n) (ny := n) hT.own (own_less hE (by omega))
          rw [← hW']
          refine bodyPost_ret (v := .tuple #[.agg #[.int .i64 n, .slice A bs.length c], .agg #[.int .i64 n, .slice A3 bs3.length c3]]) (by simp [results, Try.results79, go_sem, r0, r1, s0, s1]) rfl ?_
          exact ⟨n, A, c, bs, n, A3, c3, bs3, rfl, ⟨hn0, hn7⟩, hlen, hsm, ⟨hn0, hn7⟩, by omega, hsm3, World.ownsRow.drew ox, World.ownsRow.drew oy, (hr.more (by omega)).drew, grown_drew hgr⟩
end Go.Proofs.Ytjlaljnffmncpaa
