/-
  (impl.Deal).own.
-/
import Derived.Test.YtdijfkpccbkdfaaL22a
import Derived.Test.YtdijfkpccbkdfaaL1b
namespace Go.Proofs.Ytdijfkpccbkdfaa
set_option linter.unusedVariables false
set_option linter.unusedSimpArgs false
open Go.RowKit Pp

set_option maxHeartbeats 8000000 in
set_option maxRecDepth 100000 in
theorem own_q (n : Int) (bs : List Bd) (ps : List Pr) (hd : DealOk ⟨n, bs⟩ ps) (qs : List Bd) (hq : bs.map (ownB ps) = qs) (A A2 : Option Addr) (b o c b2 o2 c2 B : Nat) (w : World) (hB : B ≤ w.heap.size) (hR : BdsR w B b o A bs) (hP : CsR w B b2 o2 A2 ps.length (prCs ps)) :
    Calls Try.prog 79 #[.agg #[.int .i64 n, .slice A bs.length c, .slice A2 ps.length c2]] w fun e w' => ∃ A1 c1 g1, e = .returned (.agg #[.int .i64 n, .slice A1 qs.length c1]) ∧
      BdsR w' w'.heap.size g1 0 A1 qs ∧ OwnB w.heap.size w' (.slice A1 qs.length c1) qs ∧ Below w.heap.size w w' := by
  have hbm : Hid (∀ (k : Nat) (x : Bd), bs[k]? = some x → -99 ≤ x.m ∧ x.m ≤ 99) := fun k x hx => by
    have h := (planOk_iff.1 hd.1).2.2 x (List.mem_of_getElem? hx)
    have := (bdOk_iff.1 h).2.2; exact this
  have hpm : Hid (∀ (k : Nat) (x : Pr), ps[k]? = some x → PrOk n x) := fun k x hx => (hd.2.2.2 k x (List.getElem?_eq_some_iff.1 hx).1 hx).1
  have hbl : bs.length ≤ 12 := hd.2.1
  have hpl : ps.length ≤ 2 := hd.2.2.1
  clear hd
  have hql : qs.length = bs.length := by rw [← hq]; simp
  have Hq := hide hq
  have Hql := hide hql
  clear hq hql
  have hb0 : 0 < bs.length → b < w.heap.size := fun h => Nat.lt_of_lt_of_le (hR.lt h) hB
  have hb20 : 0 < ps.length → b2 < w.heap.size := fun h => Nat.lt_of_lt_of_le (hP.lt h) hB
  have hD := (pd_new (n := n) (c := c) (c2 := c2) (t := 28) hB hR hP).alloc (.cells #[.int .i64 0, .slice none 0 0] 25)
  have hY : ZB w ((w.alloc (.cells #[.int .i64 n, .slice A bs.length c, .slice A2 ps.length c2] 28)).alloc (.cells #[.int .i64 0, .slice none 0 0] 25)) (w.heap.size + 1) := by
    have h : ZB w ((w.alloc (.cells #[.int .i64 n, .slice A bs.length c, .slice A2 ps.length c2] 28)).alloc (.cells #[.int .i64 0, .slice none 0 0] 25)) (w.alloc (.cells #[.int .i64 n, .slice A bs.length c, .slice A2 ps.length c2] 28)).heap.size := zb_new (by simp)
    simpa using h
  clear hR hP hB
  go_enter Try.func79, Try.ntmps79
  go_upto_region 1 with fail
  generalize (w.alloc (.cells #[.int .i64 n, .slice A bs.length c, .slice A2 ps.length c2] 28)).alloc (.cells #[.int .i64 0, .slice none 0 0] 25) = W at hD hY ⊢
  have hYw : w.heap.size + 1 ≠ w.heap.size := by omega
  have hYg : w.heap.size ≤ w.heap.size + 1 := by omega
  have hYW := hY.ex
  generalize w.heap.size + 1 = Y at hY hYw hYg hYW ⊢
  have p0 := hD.r.c0
  have p1 := hD.r.c1
  have p2 := hD.r.c2
  have hDW := hD.r.ex
  go_upto_region 2 with (go_at_call 56; go_fit (clone_q ⟨n, bs⟩ A b o c _ _ (by dsimp only; omega) (Nat.le_refl _) hD.r.rd); rintro e w2 ⟨A1, c1, g1, rfl, hr1, own1, hb2⟩; replace hD := hD.below hb2; replace hY := hY.below hb2; clear p0 p1 p2; have p0 := hD.r.c0; have p1 := hD.r.c1; have p2 := hD.r.c2)
  have hX := cb_new w2 [.int .i64 n, .slice A1 bs.length c1] 25
  have hal : Below w2.heap.size w2 (w2.alloc (.cells #[.int .i64 n, .slice A1 bs.length c1] 25)) := by go_grown
  have hgX : ∀ k, (Value.slice A1 bs.length c1).ownBlock = some k → W.heap.size ≤ k ∧ k < w2.heap.size := fun k hk => own1.lt k hk
  have hXw : W.heap.size ≤ w2.heap.size := hb2.size
  replace hD := hD.below hal
  replace hY := hY.below hal
  replace own1 := own_below own1 hal
  clear hr1 hb2
  generalize w2.alloc (.cells #[.int .i64 n, .slice A1 bs.length c1] 25) = W2 at hX hD hY own1 ⊢
  generalize w2.heap.size = X at hX hgX hXw ⊢
  clear p0 p1 p2 hal
  have p0 := hD.r.c0
  have p1 := hD.r.c1
  have p2 := hD.r.c2
  have own2 : W2.ownsRow W.heap.size 73 3 (.slice A1 bs.length c1) bs.length (bdCs (ownL ps bs 0)) := by rw [ownL_zero]; exact own1
  clear own1
  go_upto_region 3 with fail
  go_loopg [15] bs.length (fun gh i wr => ∃ k : Nat, k ≤ bs.length ∧ gh = bs.length - k ∧ i = .int .i64 k ∧ PD w wr w.heap.size b o n A c bs b2 o2 A2 c2 ps ∧ CB wr X [.int .i64 n, .slice A1 bs.length c1] ∧ ZB w wr Y ∧ wr.ownsRow W.heap.size 73 3 (.slice A1 bs.length c1) bs.length (bdCs (ownL ps bs k)))
  case atStart => exact ⟨0, Nat.zero_le _, rfl, rfl, hD, hX, hY, own2⟩
  case round =>
    clear hD hX hY own2 p0 p1 p2
    obtain ⟨k, hk, rfl, rfl, hD, hX, hY, own⟩ := hrel
    have p0 := hD.r.c0
    have p1 := hD.r.c1
    have p2 := hD.r.c2
    by_cases hlt : k < bs.length
    · have hlt' : (k : Int) < (bs.length : Int) := by omega
      have hk0 : (0 : Int) ≤ (k : Int) := by omega
      obtain rfl := hD.r.rd.addr (by omega)
      obtain ⟨A3, g, c3, hv, h1, _, _⟩ := own_form own
      injection hv with e1 _ e3
      subst e1; subst e3
      obtain rfl := h1 (by omega)
      obtain ⟨f, hf, hfx, hgb, hnc, hcm⟩ := own_row own
      have hgX1 : g < X := (hgX g (by simp [Value.ownBlock])).2
      have hgw : w.heap.size < g := by omega
      clear h1
      have hu := List.getElem?_eq_getElem hlt
      have hum := hbm.out k _ hu
      have d0 := hD.r.rd.c0 k _ hu
      have d1 := hD.r.rd.c1 k _ hu
      have d2 := hD.r.rd.c2 k _ hu
      generalize bs[k] = u at hu d0 d1 d2 hum
      obtain ⟨hum1, hum2⟩ := hum
      have Hu := hide hu
      clear hu
      have hfa : Hid (∀ j, f j = rowK f k u j) := rowK_at (L := ownL ps bs k) (by rw [ownL_length]; exact hfx) (by rw [ownL_get, if_neg (by omega)]; exact Hu.out)
      have Hfx := hide hfx
      have Hown := hide own
      clear hfx own
      have hU := cb_new wr [.int .i64 u.f, .int .i64 u.t, .int .i64 u.m] 73
      have hal : Below wr.heap.size wr (wr.alloc (.cells #[.int .i64 u.f, .int .i64 u.t, .int .i64 u.m] 73)) := by go_grown
      have hrow0 := rowIs_below hf hal hf.lt
      have hown0 := hide (own_below Hown.out hal)
      have hXwr := hX.ex
      replace hD := hD.below hal
      replace hX := hX.below hal
      replace hY := hY.below hal
      clear Hown hf
      clear p0 p1 p2
      have p0 := hD.r.c0
      go_upto_region 5 with fail
      generalize wr.alloc (.cells #[.int .i64 u.f, .int .i64 u.t, .int .i64 u.m] 73) = Wu at hD hX hY hU hrow0 hown0 ⊢
      have hUg : g < wr.heap.size := by omega
      generalize wr.heap.size = U at hU hUg ⊢
      clear hal hXwr d0 d1 d2 p0
      have u0 := hU.c 0 _ rfl
      have u1 := hU.c 1 _ rfl
      have p2 := hD.r.c2
      by_cases he : u.f = u.t
      · have Hs : Hid (ownL ps bs (k + 1) = ownL ps bs k) := ownL_same Hu.out (by unfold ownB; rw [if_pos he])
        go_wp2_with fail
        go_roundg (bs.length - (k + 1))
        case measure => go_light; omega
        case rel => go_light; exact ⟨k + 1, by omega, rfl, by go_num, hD, hX, hY, by rw [Hs.out]; exact hown0.out⟩
      have He : Hid (¬ u.f = u.t) := he
      go_upto_region 7 with fail
      clear he
      rename_i hee
      clear hee u0 u1 p2
      have hrow1 := hrow0.congr (fun j _ => hfa.out j)
      go_loopg [28] ps.length (fun gh i wr => ∃ (j : Nat) (y : Bd), j ≤ ps.length ∧ gh = ps.length - j ∧ i = .int .i64 j ∧ Hid (y = (ps.take j).foldl (ownI u) u) ∧ -(99 + 12 * (j : Int)) ≤ y.m ∧ y.m ≤ 99 + 12 * (j : Int) ∧ PD w wr w.heap.size b o n (some ⟨b, o, none⟩) c bs b2 o2 A2 c2 ps ∧ CB wr X [.int .i64 n, .slice (some ⟨g, 0, none⟩) bs.length c1] ∧ ZB w wr Y ∧ CB wr U [.int .i64 u.f, .int .i64 u.t, .int .i64 u.m] ∧ wr.rowIs g 73 (c1 * 3) (rowK f k y))
      case atStart => exact ⟨0, u, Nat.zero_le _, rfl, rfl, by simp [Hid], by omega, by omega, hD, hX, hY, hU, hrow1⟩
      case round =>
        clear hD hX hY hU hrow0 hrow1 hown0
        obtain ⟨j, y, hj, rfl, rfl, Hyj, hm1, hm2, hD, hX, hY, hU, hrow⟩ := hrel
        have p2 := hD.r.c2
        by_cases hlj : j < ps.length
        · have hlj' : (j : Int) < (ps.length : Int) := by omega
          have hj0 : (0 : Int) ≤ (j : Int) := by omega
          obtain rfl := hD.r.rp.addr (by omega)
          have hx := List.getElem?_eq_getElem hlj
          have hpx := hpm.out j _ hx
          obtain ⟨d0, d1, d2, d3⟩ := pr_cells hD.r.rp hx
          generalize ps[j] = x at hx d0 d1 d2 d3 hpx
          have Hn : Hid ((ps.take (j + 1)).foldl (ownI u) u = ownI u y x) := by unfold Hid; rw [fold_next _ _ hx, ← Hyj.out]
          have hbn := ownI_bound hpx (b := u) (c := y) (M := 99 + 12 * (j : Int)) ⟨hm1, hm2⟩
          obtain ⟨_, _, _, l0, l1, l2⟩ := hpx
          clear hx
          have hV := cb_new wr [.int .i64 x.f, .int .i64 x.t, .int .i64 x.l, .int .i64 x.h] 40
          have hal : Below wr.heap.size wr (wr.alloc (.cells #[.int .i64 x.f, .int .i64 x.t, .int .i64 x.l, .int .i64 x.h] 40)) := by go_grown
          have hUl := hU.ex
          replace hrow := rowIs_below hrow hal hrow.lt
          replace hD := hD.below hal
          replace hX := hX.below hal
          replace hY := hY.below hal
          replace hU := hU.below hal
          go_upto_region 9 with fail
          generalize wr.alloc (.cells #[.int .i64 x.f, .int .i64 x.t, .int .i64 x.l, .int .i64 x.h] 40) = Wx at hD hX hY hU hV hrow ⊢
          have hVg : g < wr.heap.size := by omega
          generalize wr.heap.size = V at hV hVg ⊢
          clear p2 d0 d1 d2 d3 hal hUl
          have u0 := hU.c 0 _ rfl
          have u1 := hU.c 1 _ rfl
          have v0 := hV.c 0 _ rfl
          have v1 := hV.c 1 _ rfl
          have x1 := hX.c 1 _ rfl
          have t1 := hrow.cell (i := k * 3 + 1) (by omega)
          have t0 := hrow.cell (i := k * 3) (by omega)
          have tf0 := hrow.frozen (k * 3)
          have tf1 := hrow.frozen (k * 3 + 1)
          by_cases e1 : u.t = x.t
          · have e2 : ¬ u.f = x.t := fun e => He.out (e.trans e1.symm)
            have HN : Hid ((⟨y.f, x.f, y.m - x.h⟩ : Bd) = (ps.take (j + 1)).foldl (ownI u) u) := by unfold Hid; rw [Hn.out]; unfold ownI; rw [if_pos e1, if_neg e2]
            go_upto_region 11 with fail
            clear e1
            have hrow1 := hrow.set (k * 3 + 1) (.int .i64 x.f)
            have hD1 := hD.set (g := g) (k * 3 + 1) (.int .i64 x.f) (by omega) (by omega) (fun h => by have := hb0 h; omega) (fun h => by have := hb20 h; omega)
            have hX1 := hX.set (g := g) (k * 3 + 1) (.int .i64 x.f) (by omega)
            have hY1 := hY.set (g := g) (k * 3 + 1) (.int .i64 x.f) (by omega)
            have hU1 := hU.set (g := g) (k * 3 + 1) (.int .i64 x.f) (by omega)
            have hV1 := hV.set (g := g) (k * 3 + 1) (.int .i64 x.f) (by omega)
            generalize Wx.setCell ⟨g, (k * 3 + 1), none⟩ (.int .i64 x.f) = W1 at hrow1 hD1 hX1 hY1 hU1 hV1 ⊢
            clear hrow hD hX hY hU hV u0 u1 v0 v1 x1 t0 t1 tf0 tf1
            have hrow := hrow1; have hD := hD1; have hX := hX1; have hY := hY1; have hU := hU1; have hV := hV1
            clear hrow1 hD1 hX1 hY1 hU1 hV1
            have x1 := hX.c 1 _ rfl
            have u0 := hU.c 0 _ rfl
            have t2 := hrow.cell (i := k * 3 + 2) (by omega)
            have tf2 := hrow.frozen (k * 3 + 2)
            rw [if_neg (by omega), rowK_2] at t2
            have hXg1 : ¬ X = g := by omega
            have hXg2 : ¬ g = X := by omega
            have hVg1 : ¬ V = g := by omega
            have hVg2 : ¬ g = V := by omega
            have v3 := hV.c 3 _ rfl
            have hw1 : IntKind.i64.wrap (y.m - x.h) = y.m - x.h := by rw [IntWalk.i64_left, IntWalk.wrap64_in _ (by omega)]
            go_region
            clear hw1
            have hrow1 := (hrow.set (k * 3 + 2) (.int .i64 (y.m - x.h))).drew
            have hD1 := (hD.set (g := g) (k * 3 + 2) (.int .i64 (y.m - x.h)) (by omega) (by omega) (fun h => by have := hb0 h; omega) (fun h => by have := hb20 h; omega)).drew
            have hX1 := (hX.set (g := g) (k * 3 + 2) (.int .i64 (y.m - x.h)) (by omega)).drew
            have hY1 := (hY.set (g := g) (k * 3 + 2) (.int .i64 (y.m - x.h)) (by omega)).dr
            have hU1 := (hU.set (g := g) (k * 3 + 2) (.int .i64 (y.m - x.h)) (by omega)).drew
            have hV1 := (hV.set (g := g) (k * 3 + 2) (.int .i64 (y.m - x.h)) (by omega)).drew
            generalize (W1.setCell ⟨g, k * 3 + 2, none⟩ (.int .i64 (y.m - x.h))).drew = W3 at hrow1 hD1 hX1 hY1 hU1 hV1 ⊢
            clear hrow hD hX hY hU hV x1 t2 tf2 u0
            have u0 := hU1.c 0 _ rfl
            have v1 := hV1.c 1 _ rfl
            have hrow' := hrow1.congr (fun i _ => rowK_put f k y x.f (y.m - x.h) i)
            have hm3 : -(99 + 12 * ((j + 1 : Nat) : Int)) ≤ y.m - x.h := by omega
            have hm4 : y.m - x.h ≤ 99 + 12 * ((j + 1 : Nat) : Int) := by omega
            go_wp2_with fail
            go_roundg (ps.length - (j + 1))
            case measure => go_light; omega
            case rel => go_light; exact ⟨j + 1, ⟨y.f, x.f, y.m - x.h⟩, by omega, rfl, by go_num, HN, hm3, hm4, hD1, hX1, hY1, hU1, hrow'⟩
          · by_cases e2 : u.f = x.t
            · have HN : Hid ((⟨x.f, y.t, y.m + x.l⟩ : Bd) = (ps.take (j + 1)).foldl (ownI u) u) := by unfold Hid; rw [Hn.out]; unfold ownI; rw [if_neg e1, if_pos e2]
              go_upto_region 14 with fail
              clear e2
              have hrow1 := hrow.set (k * 3) (.int .i64 x.f)
              have hD1 := hD.set (g := g) (k * 3) (.int .i64 x.f) (by omega) (by omega) (fun h => by have := hb0 h; omega) (fun h => by have := hb20 h; omega)
              have hX1 := hX.set (g := g) (k * 3) (.int .i64 x.f) (by omega)
              have hY1 := hY.set (g := g) (k * 3) (.int .i64 x.f) (by omega)
              have hU1 := hU.set (g := g) (k * 3) (.int .i64 x.f) (by omega)
              have hV1 := hV.set (g := g) (k * 3) (.int .i64 x.f) (by omega)
              generalize Wx.setCell ⟨g, (k * 3), none⟩ (.int .i64 x.f) = W1 at hrow1 hD1 hX1 hY1 hU1 hV1 ⊢
              clear hrow hD hX hY hU hV u0 u1 v0 v1 x1 t0 t1 tf0 tf1
              have hrow := hrow1; have hD := hD1; have hX := hX1; have hY := hY1; have hU := hU1; have hV := hV1
              clear hrow1 hD1 hX1 hY1 hU1 hV1
              have x1 := hX.c 1 _ rfl
              have u0 := hU.c 0 _ rfl
              have t2 := hrow.cell (i := k * 3 + 2) (by omega)
              have tf2 := hrow.frozen (k * 3 + 2)
              rw [if_neg (by omega), rowK_2] at t2
              have hXg1 : ¬ X = g := by omega
              have hXg2 : ¬ g = X := by omega
              have hVg1 : ¬ V = g := by omega
              have hVg2 : ¬ g = V := by omega
              have v2 := hV.c 2 _ rfl
              have hw1 : IntKind.i64.wrap (y.m + x.l) = y.m + x.l := by rw [IntWalk.i64_left, IntWalk.wrap64_in _ (by omega)]
              go_region
              clear hw1
              have hrow1 := (hrow.set (k * 3 + 2) (.int .i64 (y.m + x.l))).drew
              have hD1 := (hD.set (g := g) (k * 3 + 2) (.int .i64 (y.m + x.l)) (by omega) (by omega) (fun h => by have := hb0 h; omega) (fun h => by have := hb20 h; omega)).drew
              have hX1 := (hX.set (g := g) (k * 3 + 2) (.int .i64 (y.m + x.l)) (by omega)).drew
              have hY1 := (hY.set (g := g) (k * 3 + 2) (.int .i64 (y.m + x.l)) (by omega)).dr
              have hU1 := (hU.set (g := g) (k * 3 + 2) (.int .i64 (y.m + x.l)) (by omega)).drew
              have hV1 := (hV.set (g := g) (k * 3 + 2) (.int .i64 (y.m + x.l)) (by omega)).drew
              generalize (W1.setCell ⟨g, k * 3 + 2, none⟩ (.int .i64 (y.m + x.l))).drew = W3 at hrow1 hD1 hX1 hY1 hU1 hV1 ⊢
              clear hrow hD hX hY hU hV x1 t2 tf2 u0
              have u0 := hU1.c 0 _ rfl
              have v1 := hV1.c 1 _ rfl
              have hrow' := hrow1.congr (fun i _ => rowK_put0 f k y x.f (y.m + x.l) i)
              have hm3 : -(99 + 12 * ((j + 1 : Nat) : Int)) ≤ y.m + x.l := by omega
              have hm4 : y.m + x.l ≤ 99 + 12 * ((j + 1 : Nat) : Int) := by omega
              go_wp2_with fail
              go_roundg (ps.length - (j + 1))
              case measure => go_light; omega
              case rel => go_light; exact ⟨j + 1, ⟨x.f, y.t, y.m + x.l⟩, by omega, rfl, by go_num, HN, hm3, hm4, hD1, hX1, hY1, hU1, hrow'⟩
            · have HN : Hid (y = (ps.take (j + 1)).foldl (ownI u) u) := by unfold Hid; rw [Hn.out]; unfold ownI; rw [if_neg e1, if_neg e2]
              have hm3 : -(99 + 12 * ((j + 1 : Nat) : Int)) ≤ y.m := by omega
              have hm4 : y.m ≤ 99 + 12 * ((j + 1 : Nat) : Int) := by omega
              go_wp2_with fail
              go_roundg (ps.length - (j + 1))
              case measure => go_light; omega
              case rel => go_light; exact ⟨j + 1, y, by omega, rfl, by go_num, HN, hm3, hm4, hD, hX, hY, hU, hrow⟩
        · obtain rfl : j = ps.length := by omega
          have HL : Hid (ownL ps bs (k + 1) = (ownL ps bs k).set k y) := by
            unfold Hid
            rw [ownL_next Hu.out, Hyj.out, List.take_length]
            unfold ownB ownIs
            rw [if_neg He.out]
          have hown : wr.ownsRow W.heap.size 73 3 (.slice (some ⟨g, 0, none⟩) bs.length c1) bs.length (bdCs (ownL ps bs (k + 1))) :=
            row_own hrow (fun i hi => by rw [HL.out]; exact rowK_list (L := ownL ps bs k) (by rw [ownL_length]; exact Hfx.out) (by rw [ownL_length]; exact hlt) i (by rw [ownL_length]; exact hi)) (by rw [bdCs_length, ownL_length]) hgb hnc hcm
          go_wp2_with fail
          go_roundg (bs.length - (k + 1))
          case measure => go_light; omega
          case rel => go_light; exact ⟨k + 1, by omega, rfl, by go_num, hD, hX, hY, hown⟩
    · obtain rfl : k = bs.length := by omega
      have ho : OwnB W.heap.size wr (.slice A1 qs.length c1) qs := by
        unfold OwnB
        rw [Hql.out, ← Hq.out, ← ownL_all]
        exact own
      have x0 := hX.c 0 _ rfl
      have x1 := hX.c 1 _ rfl
      have y0 := hY.z0
      have y1 := hY.z1
      have yf0 := hY.zf 0
      have yf1 := hY.zf 1
      have hWlo : w.heap.size ≤ W.heap.size := by omega
      have hXX := hX.ex
      have hYX := hY.ex
      go_wp2_with fail
      have ne : (Value.slice A1 qs.length c1).ownBlock ≠ some Y := fun e => by have := (ho.lt _ e).1; omega
      rw [← Hql.out] at x1 ⊢
      obtain ⟨r0, r1, ho2, hb7⟩ := hY.fin (n := n) hD.bel (own_less ho hWlo) ne
      refine bodyPost_ret (v := .agg #[.int .i64 n, .slice A1 qs.length c1]) (by simp [results, Try.results79, go_sem, r0, r1]) rfl ?_
      obtain ⟨g, hr⟩ := OwnB.readsA ho2
      exact ⟨A1, c1, g, rfl, hr, ho2, hb7⟩
end Go.Proofs.Ytdijfkpccbkdfaa
