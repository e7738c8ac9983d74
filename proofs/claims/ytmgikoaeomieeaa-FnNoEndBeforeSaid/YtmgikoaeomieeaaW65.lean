/-
  The law of NoEndBefore: its walk.
-/
import Derived.Test.YtmgikoaeomieeaaD64
import Derived.Test.YtmgikoaeomieeaaL69
import Derived.Test.YtmgikoaeomieeaaL72
import Derived.Test.YtmgikoaeomieeaaW0
namespace Go.Proofs.Ytmgikoaeomieeaa
set_option linter.unusedVariables false
set_option linter.unusedSimpArgs false
open Go.RowKit Pp

theorem fact_small {n : Nat} (h : n ≤ 5) : 1 ≤ fact n ∧ fact n ≤ 120 := by
  have : n = 0 ∨ n = 1 ∨ n = 2 ∨ n = 3 ∨ n = 4 ∨ n = 5 := by omega
  rcases this with rfl | rfl | rfl | rfl | rfl | rfl <;> simp [fact]
theorem code_left (a : Nat) : ∀ k, (codeTo a k).2 ≤ a
  | 0 => Nat.le_refl _
  | k + 1 => Nat.le_trans (Nat.div_le_self _ _) (code_left a k)
theorem none_facts {L F xs : List Int} {h : Int} (hb : beginsOk L F h xs = true) (h5 : L.length ≤ 5) :
    ∃ R, leastV L F h = R ∧ (∃ a, a < fact L.length ∧ endBy L F h (codeTo a L.length).1 = R) ∧ (if fitB L F xs then endOf L xs else -1) = endOf L xs ∧ R ≤ endOf L xs ∧ (1 ≤ h ∧ h ≤ 3) := by
  obtain ⟨hp, hlen, hbv, hh, hbi⟩ := beginsOk_iff.1 hb
  refine ⟨leastE L F h, ?_, code_least L F h, ?_, least_all hb, hh⟩
  · unfold leastV; rw [hp, decide_eq_true h5, inB_iff.2 hh]; rfl
  · rw [beginsOk_eq] at hb
    simp only [Bool.and_eq_true] at hb
    rw [if_pos hb.1.1]
theorem code_facts {L F xs : List Int} {h : Int} (hb : beginsOk L F h xs = true) (a : Nat) :
    ∃ b, beginsBy L F h (codeTo a L.length).1 = b ∧ orderFits L F h (codeTo a L.length).1 = true ∧ b.length = L.length ∧ (if fitB L F b then endOf L b else -1) = endBy L F h (codeTo a L.length).1 := by
  obtain ⟨hp, hlen, hbv, hh, hbi⟩ := beginsOk_iff.1 hb
  have ho := code_order a L.length
  have hb1 := by_ok (h := h) hp hh ho
  refine ⟨_, rfl, orderFits_iff.2 ⟨hp, hh, ho⟩, (beginsOk_iff.1 hb1).2.1, ?_⟩
  rw [beginsOk_eq] at hb1
  simp only [Bool.and_eq_true] at hb1
  rw [if_pos hb1.1.1]
  rfl

set_option maxHeartbeats 4000000 in
set_option maxRecDepth 100000 in
theorem lawNone_c (a0 : Option Addr) (len0 cap0 : Nat) (z0 : List Int) (w : World) (w0 : RowU w a0 len0 cap0 z0) :
    Calls Try.prog 7 #[.slice a0 len0 cap0] w fun e w' => e = .returned (.bool true) ∧ Below w.heap.size w w' := by
  obtain ⟨hlc, hAs, hby⟩ := w0.bytes
  obtain ⟨i0, hi0, hz0, hz1, hz2⟩ := info_parts infoI
  clear w0
  by_cases hlen : (1048576 : Int) < (len0 : Int)
  · go_enter Try.func7, Try.ntmps7
    go_wp2_with fail
    go_ret
    exact ⟨rfl, Below.refl _ _⟩
  · go_enter Try.func7, Try.ntmps7
    go_upto_region 4 with (go_at_call 34; go_fit (drawBeginsOk_c a0 len0 cap0 z0 _ (by omega) hlc hAs hby); rintro e w1 ⟨A1, c1, L, A2, c2, F, h, A3, c3, xs, rfl, hL7, hF7, hh, hx10, ⟨b1, i1⟩, ⟨b2, i2⟩, ⟨b3, i3⟩, hW⟩)
    have hD := pj_law (cl := c1) (cf := c2) (t := 25) hW i1 i2
    have hX := (i3.below (show Below w1.heap.size w1 (w1.alloc (.cells #[.slice A1 L.length c1, .slice A2 F.length c2] 25)) by go_grown)).more (show w1.heap.size ≤ (w1.alloc (.cells #[.slice A1 L.length c1, .slice A2 F.length c2] 25)).heap.size by simp)
    generalize w1.alloc (.cells #[.slice A1 L.length c1, .slice A2 F.length c2] 25) = wa at hD hX ⊢
    generalize w1.heap.size = D at hD ⊢
    clear hW i1 i2 i3 hlen hby hAs
    have hll : L.length ≤ 2000000 := by omega
    have hlf : F.length ≤ 2000000 := by omega
    have hlx : xs.length ≤ 2000000 := by omega
    have p0 := hD.c0
    have p1 := hD.c1
    cases hbo : beginsOk L F h xs
    · have Hbo := hide hbo
      clear hbo
      go_wp2_with (first
        | (go_at_call 35; go_fit (sBeginsOk_c L F xs h A1 A2 A3 b1 0 c1 b2 0 c2 b3 0 c3 _ _ hll hlf hlx (Nat.le_refl _) hD.rl hD.rf hX); rintro e w4 ⟨rfl, hb4⟩; rw [Hbo.out]; have hD4 := hD.below hb4)
        | (go_at_call 14; go_fit (alive_c _); rintro e w6 ⟨rfl, hb6⟩; have hD6 := hD4.below hb6))
      go_ret
      exact ⟨rfl, hD6.bel⟩
    by_cases h5 : 5 < L.length
    · have Hbo := hide hbo
      have h5z : (5 : Int) < (L.length : Int) := by omega
      clear hbo
      go_wp2_with (first
        | (go_at_call 35; go_fit (sBeginsOk_c L F xs h A1 A2 A3 b1 0 c1 b2 0 c2 b3 0 c3 _ _ hll hlf hlx (Nat.le_refl _) hD.rl hD.rf hX); rintro e w4 ⟨rfl, hb4⟩; rw [Hbo.out]; have hD4 := hD.below hb4; have q0 := hD4.c0; have q1 := hD4.c1)
        | (go_at_call 14; go_fit (alive_c _); rintro e w6 ⟨rfl, hb6⟩; have hD6 := hD4.below hb6))
      go_ret
      exact ⟨rfl, hD6.bel⟩
    have h5z : ¬ (5 : Int) < (L.length : Int) := by omega
    have hf := fact_small (show L.length ≤ 5 by omega)
    obtain ⟨R, hR, hex, hEx, hRE, hh1⟩ := none_facts hbo (by omega)
    have HR := hide hR
    have Hex := hide hex
    have HEx := hide hEx
    have Hbo := hide hbo
    clear hbo hR hex hEx
    go_upto_region 7 with (first
      | (go_at_call 35; go_fit (sBeginsOk_c L F xs h A1 A2 A3 b1 0 c1 b2 0 c2 b3 0 c3 _ _ hll hlf hlx (Nat.le_refl _) hD.rl hD.rf hX); rintro e w2 ⟨rfl, hb2⟩; rw [Hbo.out]; have hD2 := hD.below hb2; have hX2 := (hX.below hb2).more hb2.size; have q0 := hD2.c0; have q1 := hD2.c1)
      | (go_at_call 25; go_fit (leastEnd_c L F h A1 A2 b1 0 c1 b2 0 c2 _ _ hll hlf (Nat.le_refl _) hD2.rl hD2.rf); rintro e w3 ⟨rfl, hb3⟩; rw [HR.out]; have hD3 := hD2.below hb3; have hX3 := (hX2.below hb3).more hb3.size))
    clear p0 p1 q0 q1 hb2 hb3 hD hD2 hX hX2
    go_upto_block 0 with fail
    go_cut [7] (fun s wx => s = .int .i64 (fact L.length : Int) ∧ PJ w wx D b1 0 A1 c1 L b2 0 A2 c2 F ∧ IntsR wx wx.heap.size b3 0 A3 xs)
    case first =>
      have p0 := hD3.c0
      go_wp2_with fail
      go_loopg [7, 8] 7 (fun gh s i wr => ∃ k : Nat, 2 ≤ k ∧ k ≤ 6 ∧ (k ≤ L.length + 1 ∨ k = 2) ∧ gh + k = 9 ∧ i = .int .i64 k ∧ s = .int .i64 (fact (k - 1) : Int) ∧ Below w3.heap.size w3 wr)
      case atStart => exact ⟨2, Nat.le_refl _, by omega, .inr rfl, rfl, rfl, rfl, Below.refl _ _⟩
      case round =>
        clear p0
        obtain ⟨k, hk2, hk6, hkl, hgh, rfl, rfl, hW⟩ := hrel
        obtain ⟨m, rfl⟩ : ∃ m, k = m + 1 := ⟨k - 1, by omega⟩
        simp only [Nat.add_sub_cancel]
        have hD := hD3.below hW
        have hX := (hX3.below hW).more hW.size
        have p0 := hD.c0
        by_cases hlt : m + 1 ≤ L.length
        · have hlt' : ((m + 1 : Nat) : Int) ≤ (L.length : Int) := by omega
          have hfm := fact_small (show m + 1 ≤ 5 by omega)
          have hfe : (fact m : Int) * ((m : Int) + 1) = (fact (m + 1) : Int) := by simp [fact]
          have hw : IntKind.i64.wrap ((fact m : Int) * ((m : Int) + 1)) = (fact (m + 1) : Int) := by rw [hfe]; exact IntWalk.i64_in _ (by omega)
          clear hfe hX
          go_wp2_with fail
          go_roundg (9 - (m + 2))
          case measure => go_light; omega
          case rel => go_light; exact ⟨m + 2, by omega, by omega, .inl (by omega), by omega, by go_num, rfl, hW⟩
        · have hlt' : ¬ ((m + 1 : Nat) : Int) ≤ (L.length : Int) := by omega
          have hfe : fact m = fact L.length := by
            rcases hkl with e | e
            · have : m = L.length := by omega
              rw [this]
            · have hm1 : m = 1 := by omega
              have : L.length = 0 ∨ L.length = 1 := by omega
              rcases this with e2 | e2 <;> rw [e2, hm1] <;> rfl
          have Hfe := hide hfe
          clear hfe
          go_wp2_with fail
          go_meet
          case rel => exact ⟨by rw [Hfe.out], hD, hX⟩
    case rest =>
      clear hD3 hX3
      obtain ⟨rfl, hD3, hX3⟩ := hcut
      obtain ⟨N, hN⟩ : ∃ N, fact L.length = N := ⟨_, rfl⟩
      rw [hN] at hf Hex
      rw [hN]
      clear hN
      go_upto_block 2 with fail
      go_cut [9] (fun s wx => s = .bool true ∧ PJ w wx D b1 0 A1 c1 L b2 0 A2 c2 F ∧ IntsR wx wx.heap.size b3 0 A3 xs)
      case first =>
        go_wp2_with fail
        go_loopg [9, 10] N (fun gh s i wr => ∃ (a : Nat) (sm : Bool), a ≤ N ∧ gh = N - a ∧ i = .int .i64 a ∧ s = .bool sm ∧ Hid (sm = false → ∀ a', a' < a → endBy L F h (codeTo a' L.length).1 ≠ R) ∧ PJ w wr D b1 0 A1 c1 L b2 0 A2 c2 F ∧ IntsR wr wr.heap.size b3 0 A3 xs)
        case atStart => exact ⟨0, false, Nat.zero_le _, rfl, rfl, rfl, fun _ a' h => absurd h (by omega), hD3, hX3⟩
        case round =>
          clear hD3 hX3
          obtain ⟨a, sm, ha, rfl, rfl, rfl, Hno, hD, hX⟩ := hrel
          cases sm
          · by_cases hlt : a < N
            · have hlt' : (a : Int) < (N : Int) := by omega
              obtain ⟨bg, hbg, hof, hbl, hE⟩ := code_facts Hbo.out a
              have hbl2 : bg.length ≤ 2000000 := by omega
              have Hbg := hide hbg
              have Hof := hide hof
              have Hbl := hide hbl
              have HE := hide hE
              clear hbg hof hbl hE
              obtain ⟨wo, rfl⟩ : ∃ wo, wo = wr := ⟨wr, rfl⟩
              go_upto_block 4 with fail
              go_cut [11] from 52 to 109 (fun s wx => ∃ b7 g7 c7, s = .slice (some ⟨b7, 0, none⟩) L.length c7 ∧ L.length ≤ c7 ∧ IntsR wx wx.heap.size g7 0 (some ⟨b7, 0, none⟩) (codeTo a L.length).1 ∧ Below wo.heap.size wo wx)
              case first =>
                have p0 := hD.c0
                go_wp2_with fail
                go_loopg [11, 12, 13] L.length (fun gh s l i wr => ∃ (j b c : Nat), j ≤ L.length ∧ gh = L.length - j ∧ i = .int .i64 j ∧ l = .int .i64 ((codeTo a j).2 : Int) ∧ s = .slice (some ⟨b, 0, none⟩) j c ∧ OwnI wo.heap.size wr (.slice (some ⟨b, 0, none⟩) j c) (codeTo a j).1 ∧ Below wo.heap.size wo wr)
                case atStart => exact ⟨0, wo.heap.size, 0, Nat.zero_le _, rfl, rfl, rfl, rfl, own_empty (at_new rfl) (Nat.le_refl _), by go_grown⟩
                case round =>
                  clear p0
                  obtain ⟨j, b, c, hj, rfl, rfl, rfl, rfl, hO, hW⟩ := hrel
                  have hDi := hD.below hW
                  have p0 := hDi.c0
                  have hol : (codeTo a j).1.length = j := (code_order a j).1
                  have hll2 := code_left a j
                  by_cases hlj : j < L.length
                  · have hlj' : (j : Int) < (L.length : Int) := by omega
                    have hnx : (codeTo a (j + 1)).1 = insAt (codeTo a j).1 ((codeTo a j).2 % (j + 1)) (j : Int) := rfl
                    have hnl : (codeTo a (j + 1)).2 = (codeTo a j).2 / (j + 1) := rfl
                    generalize (codeTo a j).1 = o at hO hol hnx
                    generalize (codeTo a j).2 = l at hll2 hnx hnl ⊢
                    have hp : l % (j + 1) < j + 1 := Nat.mod_lt _ (by omega)
                    have hrem : (l : Int) % ((j : Int) + 1) = ((l % (j + 1) : Nat) : Int) := by
                      rw [show ((j : Int) + 1) = ((j + 1 : Nat) : Int) by omega, Int.natCast_emod]
                    have hdl : l / (j + 1) ≤ l := Nat.div_le_self _ _
                    have hqe : (l : Int) / ((j : Int) + 1) = ((l / (j + 1) : Nat) : Int) := by
                      rw [show ((j : Int) + 1) = ((j + 1 : Nat) : Int) by omega, Int.natCast_ediv]
                    have hquo : wrap64 ((l : Int) / ((j : Int) + 1)) = ((l / (j + 1) : Nat) : Int) := by
                      rw [hqe]
                      exact IntWalk.wrap64_in _ (by omega)
                    clear hqe
                    have hw1 : IntKind.i64.wrap ((j : Int) + 1) = (j : Int) + 1 := IntWalk.i64_in _ (by omega)
                    have hj0 : ¬ (j : Int) + 1 = 0 := by omega
                    generalize l % (j + 1) = p at hrem hp hnx
                    generalize l / (j + 1) = q at hquo hnl hdl
                    have Hnx := hide hnx
                    have Hnl := hide hnl
                    have Hol := hide hol
                    clear hnx hnl hol
                    go_upto_region 23 with fail
                    rw [hrem, hquo]
                    clear hrem hquo
                    have hpj : p ≤ j := by omega
                    have hpz : (0 : Int) ≤ (p : Int) := by omega
                    have hjc : j ≤ c ∧ c ≤ maxLen := by
                      obtain ⟨-, -, -, -, h1, h2⟩ := own_row (show wr.ownsRow wo.heap.size 3 1 (.slice (some ⟨b, 0, none⟩) j c) j (o.map (Value.int .i64)) by have := hO; unfold OwnI at this; rw [Hol.out] at this; exact this)
                      exact ⟨h1, h2⟩
                    have hjc2 := hjc.2
                    unfold maxLen at hjc2
                    have hpc : (p : Int) ≤ (c : Int) := by omega
                    have hpjz : (p : Int) ≤ (j : Int) := by omega
                    have hxa : (o.take p).length = p := by rw [List.length_take, Hol.out]; omega
                    have hxd : (o.drop p).length = j - p := by rw [List.length_drop, Hol.out]
                    have Hxa := hide hxa
                    have Hxd := hide hxd
                    clear hxa hxd
                    have hWs := hW.size
                    have hWa := hW.trans ((show Below wr.heap.size wr (wr.alloc (.cells #[] 3)) by go_grown).mono hWs)
                    have hE3 : OwnI wo.heap.size (wr.alloc (.cells #[] 3)) (.slice (some ⟨wr.heap.size, 0, none⟩) 0 0) [] := own_empty (at_new rfl) hWs
                    have hX3 := hO.alloc (.cells #[] 3)
                    have hN3 : NewsAt (wr.alloc (.cells #[] 3)) (some ⟨b, 0, none⟩) p ((o.take p).map (Value.int .i64)) := by
                      obtain ⟨gb, hr⟩ := own_IntsR (show OwnI wo.heap.size (wr.alloc (.cells #[] 3)) (.slice (some ⟨b, 0, none⟩) o.length c) o by rw [Hol.out]; exact hX3)
                      have := (hr.takeK p (by rw [Hol.out]; exact hpj)).news
                      rw [Hxa.out] at this
                      intro hm
                      obtain ⟨ad, e, hc⟩ := this hm
                      exact ⟨ad, e, hc⟩
                    have hsz3 := hWa.size
                    go_upto_region 24 with (at_builtin; refine app_list _ rfl (.tmp 78) (.tmp 81) _ rfl wo.heap.size 3 i0 _ 1 8 Try.underlying23 hi0 hz0 hz1 hz2 rfl (by omega) (.slice (some ⟨wr.heap.size, 0, none⟩) 0 0) 0 [] rfl hE3 (some ⟨b, 0, none⟩) p c ((o.take p).map (Value.int .i64)) rfl (by rw [List.length_map, Hxa.out]; omega) hN3 (ints_one _) (by omega) (by omega) hsz3 ?_; intro A4 c4 w4 hown4 hg4 hat4)
                    simp only [Nat.zero_add, List.nil_append] at hown4 hat4
                    have hO4 : OwnI wo.heap.size w4 (.slice A4 p c4) (o.take p) := by unfold OwnI; rw [Hxa.out]; exact hown4
                    have hW4 : Below wo.heap.size wo w4 := below_app (size := 1) hWa hE3 hg4 (Nat.le_refl _) hsz3
                    have hX4 : OwnI wo.heap.size w4 (.slice (some ⟨b, 0, none⟩) j c) o := hX3.kept hg4 (.inr (by have := (hO.lt b rfl).2; simp [Value.ownBlock]; omega))
                    have hlo4 : ∀ q, (Value.slice A4 p c4).ownBlock = some q → wr.heap.size ≤ q := fun q hq => by
                      rcases hat4 with e | e <;> rw [e] at hq <;> simp [Value.ownBlock] at hq <;> omega
                    have hbw : b < wr.heap.size := (hO.lt b rfl).2
                    clear hE3 hX3 hN3 hg4 hown4 hat4 hsz3 hWa hO
                    have hW5 := hW4.trans ((show Below w4.heap.size w4 (w4.alloc (.cells #[.int .i64 (j : Int)] 3)) by go_grown).mono hW4.size)
                    have hX5 : OwnI wo.heap.size (w4.alloc (.cells #[.int .i64 (j : Int)] 3)) (.slice (some ⟨b, 0, none⟩) j c) o := hX4.alloc _
                    have hO5 : (w4.alloc (.cells #[.int .i64 (j : Int)] 3)).ownsRow wo.heap.size 3 1 (.slice A4 p c4) p ((o.take p).map (Value.int .i64)) := by have := hO4.alloc (.cells #[.int .i64 (j : Int)] 3); unfold OwnI at this; rw [Hxa.out] at this; exact this
                    have hsz5 := hW5.size
                    go_upto_region 25 with (at_builtin; refine app_list _ rfl (.tmp 83) (.tmp 85) _ rfl wo.heap.size 3 i0 _ 1 8 Try.underlying23 hi0 hz0 hz1 hz2 rfl (by omega) (.slice A4 p c4) p ((o.take p).map (Value.int .i64)) rfl hO5 _ 1 _ [.int .i64 (j : Int)] rfl rfl (NewsAt.block (cs := #[.int .i64 (j : Int)]) (at_new rfl)) (by simp [Value.oneCell']) (by omega) (by omega) hsz5 ?_; intro A6 c6 w6 hown6 hg6 hat6)
                    have hyl : (o.take p ++ [(j : Int)]).length = p + 1 := by rw [List.length_append, Hxa.out]; rfl
                    have hO6 : OwnI wo.heap.size w6 (.slice A6 (p + 1) c6) (o.take p ++ [(j : Int)]) := by unfold OwnI; rw [hyl, List.map_append]; exact hown6
                    have hW6 : Below wo.heap.size wo w6 := below_app (size := 1) hW5 hO5 hg6 (Nat.le_refl _) hsz5
                    have hX6 : OwnI wo.heap.size w6 (.slice (some ⟨b, 0, none⟩) j c) o := hX5.kept hg6 (.inr (fun e => by have := hlo4 b (by rw [← e]; rfl); omega))
                    have Hyl := hide hyl
                    clear hW4 hW5 hX4 hX5 hO4 hO5 hg6 hown6 hat6 hsz5 hlo4 hyl
                    obtain ⟨ys, hys⟩ : ∃ ys, o.take p ++ [(j : Int)] = ys := ⟨_, rfl⟩
                    have Hins : Hid (ys ++ o.drop p = (codeTo a (j + 1)).1) := by unfold Hid; rw [Hnx.out, ← hys]; unfold insAt; simp
                    rw [hys] at hO6 Hyl
                    clear hys
                    have hO7 : w6.ownsRow wo.heap.size 3 1 (.slice A6 (p + 1) c6) (p + 1) (ys.map (Value.int .i64)) := by have := hO6; unfold OwnI at this; rw [Hyl.out] at this; exact this
                    have hsz6 := hW6.size
                    obtain ⟨gb, hr⟩ := own_IntsR (show OwnI wo.heap.size w6 (.slice (some ⟨b, 0, none⟩) o.length c) o by rw [Hol.out]; exact hX6)
                    by_cases hca : c = p
                    · subst hca
                      have hke : c = j := by omega
                      subst hke
                      clear hpc
                      have hod : o.drop c = [] := List.eq_nil_of_length_eq_zero (by rw [Hxd.out]; omega)
                      have Hins2 : Hid (ys = (codeTo a (c + 1)).1) := by have := Hins.out; rw [hod, List.append_nil] at this; exact this
                      clear hod
                      go_upto_region 20 with (at_builtin; refine app_list _ rfl (.tmp 87) (.tmp 90) _ rfl wo.heap.size 3 i0 _ 1 8 Try.underlying23 hi0 hz0 hz1 hz2 rfl (by omega) (.slice A6 (c + 1) c6) (c + 1) (ys.map (Value.int .i64)) rfl hO7 _ 0 _ [] rfl rfl (fun h => absurd h (by omega)) (by simp) (by omega) (by omega) hsz6 ?_; intro A8 c8 w8 hown8 hg8 hat8)
                      simp only [Nat.add_zero, List.append_nil] at hown8 hat8 ⊢
                      have hO8 : OwnI wo.heap.size w8 (.slice A8 ys.length c8) ys := by unfold OwnI; rw [Hyl.out]; exact hown8
                      have hW8 : Below wo.heap.size wo w8 := below_app (size := 1) hW6 hO7 hg8 (Nat.le_refl _) hsz6
                      obtain ⟨b8, hr8⟩ := own_IntsR hO8
                      have hA8 := hr8.addr (by rw [Hyl.out]; omega)
                      subst hA8
                      rw [Hyl.out, Hins2.out] at hO8
                      clear hX6 hO6 hO7 hg8 hown8 hat8 hsz6 hr8 hr
                      go_wp2_with fail
                      go_roundg (L.length - (c + 1))
                      case measure => go_light; omega
                      case rel =>
                        exact ⟨c + 1, b8, c8, by omega, rfl, congrArg (Value.int .i64) (by omega), by rw [Hnl.out], rfl, hO8, hW8⟩
                    · have hN7 : NewsAt w6 (some ⟨b, p, none⟩) (j - p) ((o.drop p).map (Value.int .i64)) := by
                        have := (hr.dropK p).news
                        rw [Hxd.out] at this
                        intro hm
                        obtain ⟨ad, e, hc⟩ := this hm
                        have e1 := hr.addr (by rw [Hol.out]; omega)
                        injection e1 with e1
                        injection e1 with e1
                        subst e1
                        exact ⟨ad, by rw [← e, Nat.zero_add], hc⟩
                      have hdl2 : ((o.drop p).map (Value.int .i64)).length = (j - p) * 1 := by rw [List.length_map, Hxd.out, Nat.mul_one]
                      clear hr
                      go_upto_region 20 with (at_builtin; refine app_list _ rfl (.tmp 87) (.tmp 90) _ rfl wo.heap.size 3 i0 _ 1 8 Try.underlying23 hi0 hz0 hz1 hz2 rfl (by omega) (.slice A6 (p + 1) c6) (p + 1) (ys.map (Value.int .i64)) rfl hO7 (some ⟨b, p, none⟩) (j - p) (c - p) ((o.drop p).map (Value.int .i64)) rfl hdl2 hN7 (ints_one _) (by omega) (by omega) hsz6 ?_; intro A8 c8 w8 hown8 hg8 hat8)
                      have hzl : (ys ++ o.drop p).length = j + 1 := by rw [List.length_append, Hyl.out, Hxd.out]; omega
                      have hka : p + 1 + (j - p) = j + 1 := by omega
                      rw [hka] at hown8
                      have hO8 : OwnI wo.heap.size w8 (.slice A8 (ys ++ o.drop p).length c8) (ys ++ o.drop p) := by unfold OwnI; rw [hzl, List.map_append]; exact hown8
                      have hW8 : Below wo.heap.size wo w8 := below_app (size := 1) hW6 hO7 hg8 (Nat.le_refl _) hsz6
                      obtain ⟨b8, hr8⟩ := own_IntsR hO8
                      have hA8 := hr8.addr (by omega)
                      subst hA8
                      rw [hzl, Hins.out] at hO8
                      have Hka := hide hka
                      clear hX6 hO6 hO7 hg8 hown8 hat8 hsz6 hr8 hN7 hdl2 hzl hka
                      go_wp2_with fail
                      go_roundg (L.length - (j + 1))
                      case measure => go_light; omega
                      case rel =>
                        refine ⟨j + 1, b8, c8, by omega, rfl, congrArg (Value.int .i64) (by omega), by rw [Hnl.out], ?_, hO8, hW8⟩
                        go_light
                        rw [Hka.out]
                  · obtain rfl : j = L.length := by omega
                    have hcap : L.length ≤ c := by
                      obtain ⟨-, -, -, -, h1, -⟩ := own_row (show wr.ownsRow wo.heap.size 3 1 (.slice (some ⟨b, 0, none⟩) L.length c) L.length ((codeTo a L.length).1.map (Value.int .i64)) by have := hO; unfold OwnI at this; rw [hol] at this; exact this)
                      exact h1
                    obtain ⟨g7, i7⟩ := own_IntsR (show OwnI wo.heap.size wr (.slice (some ⟨b, 0, none⟩) (codeTo a L.length).1.length c) (codeTo a L.length).1 by rw [hol]; exact hO)
                    clear hol hll2
                    go_wp2_with fail
                    go_meet
                    case rel => exact ⟨b, g7, c, rfl, hcap, i7, hW⟩
              case rest =>
                obtain ⟨b7, g7, c7, rfl, hc7, i7, hW⟩ := hcut
                have hcl : (codeTo a L.length).1.length = L.length := (code_order a L.length).1
                have Hcl := hide hcl
                have hcx : (codeTo a L.length).1.length ≤ c7 := by rw [hcl]; exact hc7
                have Hcx := hide hcx
                clear hcl hcx
                have hD2 := hD.below hW
                have hX2 := (hX.below hW).more hW.size
                have p0 := hD2.c0
                have p1 := hD2.c1
                go_upto_region 27 with (go_at_call 29; have hcall := beginsBy_yes L F (codeTo a L.length).1 h Hof.out A1 A2 (some ⟨b7, 0, none⟩) b1 0 c1 b2 0 c2 g7 0 c7 _ wc Hcx.out (Nat.le_refl _) hD2.rl hD2.rf i7; rw [Hcl.out, Hbg.out] at hcall; refine hcall.mono ?_; clear hcall; rintro e w4 ⟨g, rfl, hg, hrow, hb4⟩; have hr4 := row_ints hrow Hbl.out; have hD4 := hD2.below hb4; have hX4 := (hX2.below hb4).more hb4.size)
                clear p0 p1 hD2 hX2 hb4 i7 hrow hD hX hW
                have p0 := hD4.c0
                have p1 := hD4.c1
                obtain ⟨E, hE⟩ : ∃ E, endBy L F h (codeTo a L.length).1 = E := ⟨_, rfl⟩
                rw [hE] at HE
                by_cases hER : E = R
                · subst hER
                  have hee : (E == E) = true := by simp
                  go_wp2_with (go_at_call 32; have hcall := endOf_c L F bg A1 A2 (some ⟨g, 0, none⟩) b1 0 c1 b2 0 c2 g 0 L.length _ w4 hll hlf hbl2 (Nat.le_refl _) hD4.rl hD4.rf hr4; rw [Hbl.out, HE.out] at hcall; refine hcall.mono ?_; clear hcall; rintro e w5 ⟨rfl, hb5⟩; have hD5 := hD4.below hb5; have hX5 := (hX4.below hb5).more hb5.size)
                  go_roundg (N - (a + 1))
                  case measure => go_light; omega
                  case rel => exact ⟨a + 1, true, by omega, rfl, congrArg (Value.int .i64) (by omega), rfl, fun h => by simp at h, hD5, hX5⟩
                · have hee : (E == R) = false := by rw [beq_eq_false_iff_ne]; exact hER
                  go_wp2_with (go_at_call 32; have hcall := endOf_c L F bg A1 A2 (some ⟨g, 0, none⟩) b1 0 c1 b2 0 c2 g 0 L.length _ w4 hll hlf hbl2 (Nat.le_refl _) hD4.rl hD4.rf hr4; rw [Hbl.out, HE.out] at hcall; refine hcall.mono ?_; clear hcall; rintro e w5 ⟨rfl, hb5⟩; have hD5 := hD4.below hb5; have hX5 := (hX4.below hb5).more hb5.size)
                  go_roundg (N - (a + 1))
                  case measure => go_light; omega
                  case rel =>
                    exact ⟨a + 1, false, by omega, rfl, congrArg (Value.int .i64) (by omega), rfl, fun _ a' ha' => by
                      by_cases e : a' = a
                      · subst e; rw [hE]; exact hER
                      · exact Hno.out (by trivial) a' (by omega), hD5, hX5⟩
            · obtain ⟨a', ha', he⟩ := Hex.out
              exact absurd he (Hno.out (by trivial) a' (by omega))
          · by_cases hlt : a < N
            · have hlt' : (a : Int) < (N : Int) := by omega
              go_wp2_with fail
              go_meet
              case rel => exact ⟨rfl, hD, hX⟩
            · have hlt' : ¬ (a : Int) < (N : Int) := by omega
              go_wp2_with fail
              go_meet
              case rel => exact ⟨rfl, hD, hX⟩
      case rest =>
        clear hD3 hX3
        obtain ⟨rfl, hD3, hX3⟩ := hcut
        have p0 := hD3.c0
        have p1 := hD3.c1
        go_wp2_with (first
          | (go_at_call 32; go_fit (endOf_c L F xs A1 A2 A3 b1 0 c1 b2 0 c2 b3 0 c3 _ _ hll hlf hlx (Nat.le_refl _) hD3.rl hD3.rf hX3); rintro e w4 ⟨rfl, hb4⟩; rw [HEx.out]; have hD4 := hD3.below hb4)
          | (go_at_call 14; go_fit (alive_c _); rintro e w6 ⟨rfl, hb6⟩; have hD6 := hD4.below hb6))
        go_ret
        exact ⟨rfl, hD6.bel⟩
end Go.Proofs.Ytmgikoaeomieeaa
