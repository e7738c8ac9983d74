/-
  The draws of the reference: a plan with bounds both ways.
-/
import Derived.Test.YtjlaljnffmncpaaD3
import Derived.Test.YtjlaljnffmncpaaD2
import Derived.Test.YtjlaljnffmncpaaS3b
namespace Go.Proofs.Ytjlaljnffmncpaa
set_option linter.unusedVariables false
set_option linter.unusedSimpArgs false
open Go.RowKit Pp

set_option maxHeartbeats 2000000 in
set_option maxRecDepth 100000 in
theorem joined_c (g : Nat) (K m : Int) (w : World) (hK : 0 ≤ K ∧ K ≤ 10000000) (hm : 0 ≤ m ∧ m ≤ 100) (hR : RdO w g K) :
    Calls Try.prog 88 #[.pointer (some ⟨g, 0, none⟩), .int .i64 m] w fun e w' =>
      ∃ n A c bs, e = .returned (.agg #[.int .i64 n, .slice A bs.length c]) ∧ (0 ≤ n ∧ n ≤ 7) ∧ bs.length ≤ 16 ∧ (∀ x ∈ bs, Sm x) ∧ OwnB w.heap.size w' (.slice A bs.length c) bs ∧ RdO w' g (K + 200) ∧ w.grownBy w' (some g) := by
  obtain ⟨hK0, hK1⟩ := hK
  obtain ⟨hm0, hm1⟩ := hm
  have hg := hR.lt
  go_enter Try.func88, Try.ntmps88
  go_upto_region 2 with (go_at_call 113; go_fit (plan_c g K m _ ⟨hK0, by omega⟩ ⟨hm0, hm1⟩ (hR.alloc _)); rintro e w1 ⟨n, A, c, bs, rfl, hn, hlen, hsm, hown, hR1, G1⟩)
  have hJ := js_new (n := n) (t := 25) G1 hg hR1 hown
  generalize w1.alloc (.cells #[.int .i64 n, .slice A bs.length c] 25) = wa at hJ ⊢
  generalize w1.heap.size = P at hJ ⊢
  clear hown hR1 G1 hR
  obtain ⟨hn0, hn7⟩ := hn
  go_cut [20] (fun s wx => ((s = .bool false ∧ planOk ⟨n, bs⟩ = true) ∨ s = .bool true) ∧ JS w wx g P (K + 101) n A c bs)
  case first =>
    cases hpo : planOk ⟨n, bs⟩
    · have Hpo := hide hpo
      clear hpo
      go_wp2_with (first
        | (go_at_call 89; go_fit (pick_js _ _ hJ (by omega) (by omega)); rintro e w6 ⟨v, rfl, c1, c2, _, hJ2, _, _⟩; have c2' := c2 (by omega); have q0 := hJ2.c0; have q1 := hJ2.c1; obtain ⟨b, hrd⟩ := hJ2.reads)
        | (go_at_call 43; go_fit (sPlanOk_c ⟨n, bs⟩ A b 0 c _ _ (by dsimp only; omega) (Nat.le_refl _) hrd); rintro e w7 ⟨rfl, hb⟩; rw [Hpo.out]; have hJ3 := hJ2.below hb))
      all_goals go_meet
      all_goals (
        case rel => exact ⟨.inr rfl, by first | exact hJ3.more (by omega) | exact hJ2.more (by omega)⟩)
    · have Hpo := hide hpo
      clear hpo
      go_wp2_with (first
        | (go_at_call 89; go_fit (pick_js _ _ hJ (by omega) (by omega)); rintro e w6 ⟨v, rfl, c1, c2, _, hJ2, _, _⟩; have c2' := c2 (by omega); have q0 := hJ2.c0; have q1 := hJ2.c1; obtain ⟨b, hrd⟩ := hJ2.reads)
        | (go_at_call 43; go_fit (sPlanOk_c ⟨n, bs⟩ A b 0 c _ _ (by dsimp only; omega) (Nat.le_refl _) hrd); rintro e w7 ⟨rfl, hb⟩; rw [Hpo.out]; have hJ3 := hJ2.below hb))
      all_goals go_meet
      all_goals (
        case rel => exact ⟨by first | exact .inr rfl | exact .inl ⟨rfl, Hpo.out⟩ | (cases hv0 : (v == 0) <;> first | exact .inr rfl | exact .inl ⟨rfl, Hpo.out⟩), by first | exact hJ3.more (by omega) | exact hJ2.more (by omega)⟩)
  case rest =>
    obtain ⟨hs, hJ⟩ := hcut
    rcases hs with ⟨rfl, hpo⟩ | rfl
    · skip
--BEGIN 1
      have hsm' := sm_ok hpo
      obtain ⟨_, hl16, hn1, hn6⟩ := hsm'
      obtain ⟨nn, rfl⟩ := Int.eq_ofNat_of_zero_le hn0
      have Hpo := hide hpo
      clear hpo hsm hlen hn0 hn7 hl16
      go_wp2_with fail
      go_loopg [6] 7 (fun gh s wr => ∃ k : Nat, gh = 8 - k ∧ 1 ≤ k ∧ k ≤ nn ∧ s = .int .i64 k ∧ ∃ A c, ∃ bs : List Bd, Hid (planOk ⟨(nn : Int), bs⟩ = true) ∧ bs.length ≤ 16 ∧ JS w wr g P (K + 101 + 2 * (k : Int)) (nn : Int) A c bs)
      case atStart => exact ⟨1, rfl, by omega, by omega, rfl, A, c, bs, Hpo, (sm_ok Hpo.out).2.1, hJ.more (by omega)⟩
      case round =>
        clear hJ Hpo
        obtain ⟨k, rfl, hk1, hkn, rfl, A, c, bs, Hpo, hlen, hJ⟩ := hrel
        have p0 := hJ.c0
        have p1 := hJ.c1
        by_cases hlt : k < nn
        · have hlt' : (k : Int) < (nn : Int) := by omega
          go_upto_region 8 with (go_at_call 89; go_fit (pick_js _ _ hJ (by omega) (by omega)); rintro e w6 ⟨a, rfl, c1, c2, _, hJ2, _, _⟩; have c2' := c2 (by omega))
          obtain ⟨b, hrd⟩ := hJ2.reads
          have q0 := hJ2.c0
          have q1 := hJ2.c1
          have qf0 := hJ2.cf 0
          have qf1 := hJ2.cf 1
          cases hp1 : planOk ⟨(nn : Int), bs ++ [(⟨(k : Int), 0, -a⟩ : Bd)]⟩
          · have Hq1 := hide (toldP_no hp1)
            have Hr1 := hide hp1
            clear hp1
            go_upto_region 11 with (first
              | (go_at_call 107; go_fit (sWithBound_reg (nn : Int) bs ⟨(k : Int), 0, -a⟩ A b 0 c _ _ (by omega) (Nat.le_refl _) hrd ⟨0, []⟩ false Hq1.out Hr1.out); rintro e w7 ⟨A1, c1', g1, rfl, hx1, hown1, hb⟩; have hJ3 := hJ2.below hb))
            have hXB := xb_new (w := w7) (v := .slice A bs.length c) (x := .int .i64 0) (y := .slice A1 0 c1') (t := 25) rfl hJ3.P1 (fun e => by have := (hJ3.own.lt _ e).2; omega)
            have hJ4 := hJ3.alloc (.cells #[.int .i64 0, .slice A1 0 c1'] 25)
            generalize w7.alloc (.cells #[.int .i64 0, .slice A1 0 c1'] 25) = wb at hXB hJ4 ⊢
            clear hJ3 hb hx1 hown1 hrd q0 q1 qf0 qf1 p0 p1 hJ2
            generalize w7.heap.size = X at hXB ⊢
            skip
--BEGIN 2
            obtain ⟨xl, xo, xe, ⟨u0, x0⟩, ⟨u1, x1⟩, xf0, xf1⟩ := hXB
            have hP0 := hJ4.P0
            have p0 := hJ4.c0
            have p1 := hJ4.c1
            have hl16 := (sm_ok Hpo.out).2.1
            go_cut [9] from 22 to 53 (fun s wx => (s = .bool false ∧ JS w wx g P (K + 101 + 2 * (k : Int) + 2) (nn : Int) A c bs) ∨ (s = .bool true ∧ ∃ A2 c2, ∃ bs2 : List Bd, Hid (planOk ⟨(nn : Int), bs2⟩ = true) ∧ JS w wx g P (K + 101 + 2 * (k : Int) + 2) (nn : Int) A c bs ∧ wx.cell? ⟨X, 0, none⟩ = some (.int .i64 (nn : Int)) ∧ wx.cell? ⟨X, 1, none⟩ = some (.slice A2 bs2.length c2) ∧ OwnB w.heap.size wx (.slice A2 bs2.length c2) bs2 ∧ (Value.slice A2 bs2.length c2).ownBlock ≠ some w.heap.size ∧ (Value.slice A2 bs2.length c2).ownBlock ≠ some P))
            case first =>
              go_region_held3 (fun w' => w'.cell? ⟨P, 0, none⟩ = some (.int .i64 (nn : Int)) ∧ w'.cell? ⟨P, 1, none⟩ = some (.slice A (bs).length c))
                (first
                  | (go_split_ands; (repeat' apply And.intro) <;> assumption)
                  | (go_split_ands; (repeat' apply And.intro) <;> exact (set_other (by dsimp only; omega)).trans ((set_other (by dsimp only; omega)).trans (by assumption)))
                  | (go_keep; done))
                (first
                  | (go_at_call 89; go_fit (pick_js _ _ hJ4.drew (by omega) (by omega)); rintro e w8 ⟨v, rfl, d1, d2, _, hJ5, G5, hs5⟩; have d2' := d2 (by omega); have q0 := hJ5.c0; have q1 := hJ5.c1; have hP5 := hJ5.P1; have y0 := far_cell (undrew G5) x0 (by omega); have y1 := far_cell (undrew G5) x1 (by omega); have yf0 := far_frozen (undrew G5) xf0 xe (by omega); have yf1 := far_frozen (undrew G5) xf1 xe (by omega); obtain ⟨b2, hrd2⟩ := hJ5.reads; have xe5 : X < w8.heap.size := (by rw [hs5]; exact xe))
                  | (go_at_call 107
                     obtain ⟨q2, Hq2⟩ : ∃ q2, Hid (toldP ⟨(nn : Int), bs ++ [(⟨0, (k : Int), IntKind.i64.wrap (a + v)⟩ : Bd)]⟩ = q2) := ⟨_, rfl⟩
                     obtain ⟨r2, Hr2⟩ : ∃ r2, Hid (planOk ⟨(nn : Int), bs ++ [(⟨0, (k : Int), IntKind.i64.wrap (a + v)⟩ : Bd)]⟩ = r2) := ⟨_, rfl⟩
                     go_fit (sWithBound_reg (nn : Int) bs ⟨0, (k : Int), IntKind.i64.wrap (a + v)⟩ A b2 0 c _ _ (by omega) (Nat.le_refl _) hrd2 q2 r2 Hq2.out Hr2.out)
                     rintro e w9 ⟨A2, c2, g2, rfl, hx2, hown2, hb2⟩
                     have hJ6 := hJ5.below hb2
                     have t0 := hJ6.c0
                     have t1 := hJ6.c1
                     have k0 := ((bcell hb2).1 X 0 xe5).trans y0
                     have k1 := ((bcell hb2).1 X 1 xe5).trans y1
                     have kf0 := ((bcell hb2).2 X 0 xe5).trans yf0
                     have kf1 := ((bcell hb2).2 X 1 xe5).trans yf1))
              go_wp2_with fail
              go_meet
              case rel =>
                have hJ7 := ((hJ6.set ⟨X, 0, none⟩ (by dsimp only; omega) xo (.int .i64 q2.n)).set ⟨X, 1, none⟩ (by dsimp only; omega) xo (.slice A2 q2.bs.length c2)).more (show _ ≤ K + 101 + 2 * (k : Int) + 2 by omega)
                cases hp2 : planOk ⟨(nn : Int), bs ++ [(⟨0, (k : Int), IntKind.i64.wrap (a + v)⟩ : Bd)]⟩
                · left
                  have e2 := Hr2.out
                  rw [hp2] at e2
                  subst e2
                  exact ⟨rfl, hJ7⟩
                · right
                  have e2 := Hr2.out
                  rw [hp2] at e2
                  subst e2
                  have e3 := Hq2.out
                  rw [toldP_yes hp2] at e3
                  obtain ⟨z0, z1⟩ := two_cells (a := .int .i64 q2.n) (b := .slice A2 q2.bs.length c2) k0 k1
                  have hX8 : X < w8.heap.size := xe5
                  have hw8 : w.heap.size ≤ w8.heap.size := by omega
                  have hlow : ∀ q, (Value.slice A2 q2.bs.length c2).ownBlock = some q → w8.heap.size ≤ q := fun q hq => (hown2.lt q hq).1
                  have ho3 := own_set_low (p := ⟨X, 1, none⟩) (own_set_low (p := ⟨X, 0, none⟩) hown2 hX8 (.int .i64 q2.n)) hX8 (.slice A2 q2.bs.length c2)
                  obtain ⟨qn, qb⟩ := q2
                  injection e3 with e4 e5
                  dsimp only at *
                  subst e4
                  refine ⟨rfl, A2, c2, qb, ?_, hJ7, z0, z1, own_less ho3 hw8, fun e => ?_, fun e => ?_⟩
                  · rw [← e5]; exact hp2
                  · have := hlow _ e; omega
                  · have := hlow _ e; omega
            case rest =>
              rcases hcut with ⟨rfl, hJ7⟩ | ⟨rfl, A2, c2, bs2, Hp3, hJ7, z0, z1, ho3, n0, nP⟩
              · go_wp2_with fail
                go_roundg (8 - (k + 1))
                case measure => go_light; omega
                case rel =>
                  go_light
                  exact ⟨k + 1, rfl, by omega, by omega, by go_num, A, c, bs, Hpo, hl16, hJ7.more (by omega)⟩
              · have p0 := hJ7.c0
                have p1 := hJ7.c1
                have pf0 := hJ7.cf 0
                have pf1 := hJ7.cf 1
                have hP7 := hJ7.P1
                go_wp2_with fail
                go_roundg (8 - (k + 1))
                case measure => go_light; omega
                case rel =>
                  go_light
                  exact ⟨k + 1, rfl, by omega, by omega, by go_num, A2, c2, bs2, Hp3, (sm_ok Hp3.out).2.1, (hJ7.plan ho3 n0 nP).more (by omega)⟩
--END 2
          · have Hp1 := hide hp1
            obtain ⟨bs1, hbs1⟩ : ∃ bs1, bs ++ [(⟨(k : Int), 0, -a⟩ : Bd)] = bs1 := ⟨_, rfl⟩
            have Hq1 := hide (toldP_yes hp1)
            have Hr1 := hide hp1
            have Hp2 : Hid (planOk ⟨(nn : Int), bs1⟩ = true) := by rw [← hbs1]; exact hp1
            unfold Hid at Hq1
            rw [hbs1] at Hq1
            have Hq1 := hide Hq1
            have Hbs1 := hide hbs1
            clear hp1 hbs1
            go_upto_region 11 with (first
              | (go_at_call 107; go_fit (sWithBound_reg (nn : Int) bs ⟨(k : Int), 0, -a⟩ A b 0 c _ _ (by omega) (Nat.le_refl _) hrd ⟨(nn : Int), bs1⟩ true (by rw [Hbs1.out]; exact Hq1.out) Hr1.out); rintro e w7 ⟨A1, c1', g1, rfl, hx1, hown1, hb⟩; have hJ3 := hJ2.below hb; have s0 := hJ3.c0; have s1 := hJ3.c1; have sf0 := hJ3.cf 0; have sf1 := hJ3.cf 1; have sP := hJ3.P1))
            have hl3 : ∀ q, (Value.slice A1 bs1.length c1').ownBlock = some q → w6.heap.size ≤ q ∧ q < w7.heap.size := fun q hq => hown1.lt q hq
            have hP6 := hJ2.P1
            have hP60 := hJ2.P0
            have hJ4 := (hJ3.plan (n' := (nn : Int)) (own_less hown1 (by omega)) (fun e => by have := (hl3 _ e).1; omega) (fun e => by have := (hl3 _ e).1; omega)).alloc (.cells #[.int .i64 (nn : Int), .slice A1 bs1.length c1'] 25)
            have hXB := xb_new (w := (w7.setCell ⟨P, 0, none⟩ (.int .i64 (nn : Int))).setCell ⟨P, 1, none⟩ (.slice A1 bs1.length c1')) (v := .slice A1 bs1.length c1') (x := .int .i64 (nn : Int)) (y := .slice A1 bs1.length c1') (t := 25) (P := P) (X := w7.heap.size) (by simp) (by simpa using sP) (fun e => by have := (hl3 _ e).2; omega)
            generalize ((w7.setCell ⟨P, 0, none⟩ (.int .i64 (nn : Int))).setCell ⟨P, 1, none⟩ (.slice A1 bs1.length c1')).alloc (.cells #[.int .i64 (nn : Int), .slice A1 bs1.length c1'] 25) = wb at hXB hJ4 ⊢
            clear hJ3 hb hx1 hown1 hrd q0 q1 qf0 qf1 p0 p1 hJ2 s0 s1 sf0 sf1 hl3 sP
            generalize w7.heap.size = X at hXB ⊢
            skip
--BEGIN 3
            obtain ⟨xl, xo, xe, ⟨u0, x0⟩, ⟨u1, x1⟩, xf0, xf1⟩ := hXB
            have hP0 := hJ4.P0
            have p0 := hJ4.c0
            have p1 := hJ4.c1
            have hl16 := (sm_ok Hp2.out).2.1
            go_cut [9] from 22 to 53 (fun s wx => (s = .bool false ∧ JS w wx g P (K + 101 + 2 * (k : Int) + 2) (nn : Int) A1 c1' bs1) ∨ (s = .bool true ∧ ∃ A2 c2, ∃ bs2 : List Bd, Hid (planOk ⟨(nn : Int), bs2⟩ = true) ∧ JS w wx g P (K + 101 + 2 * (k : Int) + 2) (nn : Int) A1 c1' bs1 ∧ wx.cell? ⟨X, 0, none⟩ = some (.int .i64 (nn : Int)) ∧ wx.cell? ⟨X, 1, none⟩ = some (.slice A2 bs2.length c2) ∧ OwnB w.heap.size wx (.slice A2 bs2.length c2) bs2 ∧ (Value.slice A2 bs2.length c2).ownBlock ≠ some w.heap.size ∧ (Value.slice A2 bs2.length c2).ownBlock ≠ some P))
            case first =>
              go_region_held3 (fun w' => w'.cell? ⟨P, 0, none⟩ = some (.int .i64 (nn : Int)) ∧ w'.cell? ⟨P, 1, none⟩ = some (.slice A1 (bs1).length c1'))
                (first
                  | (go_split_ands; (repeat' apply And.intro) <;> assumption)
                  | (go_split_ands; (repeat' apply And.intro) <;> exact (set_other (by dsimp only; omega)).trans ((set_other (by dsimp only; omega)).trans (by assumption)))
                  | (go_keep; done))
                (first
                  | (go_at_call 89; go_fit (pick_js _ _ hJ4.drew (by omega) (by omega)); rintro e w8 ⟨v, rfl, d1, d2, _, hJ5, G5, hs5⟩; have d2' := d2 (by omega); have q0 := hJ5.c0; have q1 := hJ5.c1; have hP5 := hJ5.P1; have y0 := far_cell (undrew G5) x0 (by omega); have y1 := far_cell (undrew G5) x1 (by omega); have yf0 := far_frozen (undrew G5) xf0 xe (by omega); have yf1 := far_frozen (undrew G5) xf1 xe (by omega); obtain ⟨b2, hrd2⟩ := hJ5.reads; have xe5 : X < w8.heap.size := (by rw [hs5]; exact xe))
                  | (go_at_call 107
                     obtain ⟨q2, Hq2⟩ : ∃ q2, Hid (toldP ⟨(nn : Int), bs1 ++ [(⟨0, (k : Int), IntKind.i64.wrap (a + v)⟩ : Bd)]⟩ = q2) := ⟨_, rfl⟩
                     obtain ⟨r2, Hr2⟩ : ∃ r2, Hid (planOk ⟨(nn : Int), bs1 ++ [(⟨0, (k : Int), IntKind.i64.wrap (a + v)⟩ : Bd)]⟩ = r2) := ⟨_, rfl⟩
                     go_fit (sWithBound_reg (nn : Int) bs1 ⟨0, (k : Int), IntKind.i64.wrap (a + v)⟩ A1 b2 0 c1' _ _ (by omega) (Nat.le_refl _) hrd2 q2 r2 Hq2.out Hr2.out)
                     rintro e w9 ⟨A2, c2, g2, rfl, hx2, hown2, hb2⟩
                     have hJ6 := hJ5.below hb2
                     have t0 := hJ6.c0
                     have t1 := hJ6.c1
                     have k0 := ((bcell hb2).1 X 0 xe5).trans y0
                     have k1 := ((bcell hb2).1 X 1 xe5).trans y1
                     have kf0 := ((bcell hb2).2 X 0 xe5).trans yf0
                     have kf1 := ((bcell hb2).2 X 1 xe5).trans yf1))
              go_wp2_with fail
              go_meet
              case rel =>
                have hJ7 := ((hJ6.set ⟨X, 0, none⟩ (by dsimp only; omega) xo (.int .i64 q2.n)).set ⟨X, 1, none⟩ (by dsimp only; omega) xo (.slice A2 q2.bs.length c2)).more (show _ ≤ K + 101 + 2 * (k : Int) + 2 by omega)
                cases hp2 : planOk ⟨(nn : Int), bs1 ++ [(⟨0, (k : Int), IntKind.i64.wrap (a + v)⟩ : Bd)]⟩
                · left
                  have e2 := Hr2.out
                  rw [hp2] at e2
                  subst e2
                  exact ⟨rfl, hJ7⟩
                · right
                  have e2 := Hr2.out
                  rw [hp2] at e2
                  subst e2
                  have e3 := Hq2.out
                  rw [toldP_yes hp2] at e3
                  obtain ⟨z0, z1⟩ := two_cells (a := .int .i64 q2.n) (b := .slice A2 q2.bs.length c2) k0 k1
                  have hX8 : X < w8.heap.size := xe5
                  have hw8 : w.heap.size ≤ w8.heap.size := by omega
                  have hlow : ∀ q, (Value.slice A2 q2.bs.length c2).ownBlock = some q → w8.heap.size ≤ q := fun q hq => (hown2.lt q hq).1
                  have ho3 := own_set_low (p := ⟨X, 1, none⟩) (own_set_low (p := ⟨X, 0, none⟩) hown2 hX8 (.int .i64 q2.n)) hX8 (.slice A2 q2.bs.length c2)
                  obtain ⟨qn, qb⟩ := q2
                  injection e3 with e4 e5
                  dsimp only at *
                  subst e4
                  refine ⟨rfl, A2, c2, qb, ?_, hJ7, z0, z1, own_less ho3 hw8, fun e => ?_, fun e => ?_⟩
                  · rw [← e5]; exact hp2
                  · have := hlow _ e; omega
                  · have := hlow _ e; omega
            case rest =>
              rcases hcut with ⟨rfl, hJ7⟩ | ⟨rfl, A2, c2, bs2, Hp3, hJ7, z0, z1, ho3, n0, nP⟩
              · go_wp2_with fail
                go_roundg (8 - (k + 1))
                case measure => go_light; omega
                case rel =>
                  go_light
                  exact ⟨k + 1, rfl, by omega, by omega, by go_num, A1, c1', bs1, Hp2, hl16, hJ7.more (by omega)⟩
              · have p0 := hJ7.c0
                have p1 := hJ7.c1
                have pf0 := hJ7.cf 0
                have pf1 := hJ7.cf 1
                have hP7 := hJ7.P1
                go_wp2_with fail
                go_roundg (8 - (k + 1))
                case measure => go_light; omega
                case rel =>
                  go_light
                  exact ⟨k + 1, rfl, by omega, by omega, by go_num, A2, c2, bs2, Hp3, (sm_ok Hp3.out).2.1, (hJ7.plan ho3 n0 nP).more (by omega)⟩
--END 3
        · have hlt' : ¬ (k : Int) < (nn : Int) := by omega
          go_upto_region 14 with fail
          have p0 := hJ.c0
          have p1 := hJ.c1
          have z0 := hJ.z0
          have z1 := hJ.z1
          have zf0 := hJ.zf 0
          have zf1 := hJ.zf 1
          go_wp2_with fail
          obtain ⟨r0, r1, ho, hr, hgr⟩ := hJ.fin
          refine bodyPost_ret (v := .agg #[.int .i64 (nn : Int), .slice A (bs).length c]) (by simp [results, Try.results88, go_sem, r0, r1]) rfl ?_
          exact ⟨_, _, _, _, rfl, ⟨by omega, by omega⟩, by omega, (sm_ok Hpo.out).1, ho, hr.more (by omega), hgr⟩
--END 1
    · go_upto_region 3 with fail
      have p0 := hJ.c0
      have p1 := hJ.c1
      have z0 := hJ.z0
      have z1 := hJ.z1
      have zf0 := hJ.zf 0
      have zf1 := hJ.zf 1
      go_wp2_with fail
      obtain ⟨r0, r1, ho, hr, hgr⟩ := hJ.fin
      refine bodyPost_ret (v := .agg #[.int .i64 n, .slice A (bs).length c]) (by simp [results, Try.results88, go_sem, r0, r1]) rfl ?_
      exact ⟨_, _, _, _, rfl, ⟨by omega, by omega⟩, by omega, hsm, ho, hr.more (by omega), hgr⟩
end Go.Proofs.Ytjlaljnffmncpaa
