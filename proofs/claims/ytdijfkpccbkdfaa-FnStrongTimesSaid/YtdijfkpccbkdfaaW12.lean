/-
  The law of StrongTimes: its walk.
-/
import Derived.Test.YtdijfkpccbkdfaaD19
import Derived.Test.YtdijfkpccbkdfaaP19
import Derived.Test.YtdijfkpccbkdfaaW4
import Derived.Test.YtdijfkpccbkdfaaL27
import Derived.Test.YtdijfkpccbkdfaaS27
import Derived.Test.YtdijfkpccbkdfaaL23
import Derived.Test.YtdijfkpccbkdfaaL25
import Derived.Deep.CutBlock
import Derived.Test.YtdijfkpccbkdfaaL6
namespace Go.Proofs.Ytdijfkpccbkdfaa
set_option linter.unusedVariables false
set_option linter.unusedSimpArgs false
open Go.RowKit Pp

theorem infoBo : (Try.prog.info? 4).map (fun i => (i.zero, i.size, i.bytes)) = some (some (.bool false), 1, 1) := by kernel_rfl
/-- Whether a point is To of one of the first promises. -/
def toTo (ps : List Pr) (k i : Nat) : Bool := (ps.take k).any fun x => x.t == (i : Int)
theorem toTo_step {ps : List Pr} {k : Nat} {x : Pr} {t : Nat} (hx : ps[k]? = some x) (ht : x.t = (t : Int)) (j : Nat) : (if j = t then Value.bool true else Value.bool (toTo ps k j)) = Value.bool (toTo ps (k + 1) j) := by
  unfold toTo
  rw [List.take_add_one, hx]
  simp only [Option.toList, List.any_append, List.any_cons, List.any_nil, Bool.or_false, ht]
  by_cases e : j = t
  · subst e; simp
  · rw [if_neg e]
    have : ((t : Int) == (j : Int)) = false := by simp; omega
    rw [this, Bool.or_false]
theorem toTo_none {ps : List Pr} {i : Nat} (h : toTo ps ps.length i = false) : ∀ x ∈ ps, (i : Int) ≠ x.t := by
  unfold toTo at h
  rw [List.take_length] at h
  intro x hx e
  have := List.any_eq_false.1 h x hx
  simp [e] at this

/-- Two blocks more lie there. -/
def W4S (w : World) (S : Nat) : Prop := S + 1 < w.heap.size
set_option maxHeartbeats 4000000 in
set_option maxRecDepth 100000 in
theorem lawStrongTimes_c (a0 : Option Addr) (len0 cap0 : Nat) (z0 : List Int) (w : World) (w0 : RowU w a0 len0 cap0 z0) :
    Calls Try.prog 12 #[.slice a0 len0 cap0] w fun e w' => e = .returned (.bool true) ∧ Below w.heap.size w w' := by
  obtain ⟨hlc, hAs, hby⟩ := w0.bytes
  clear w0
  obtain ⟨i0, hi0, hz0, hz1, hz2⟩ := info_parts infoI
  obtain ⟨j0, hj0, hy0, hy1, hy2⟩ := info_parts infoBo
  by_cases hlen : (1048576 : Int) < (len0 : Int)
  · go_enter Try.func12, Try.ntmps12
    go_wp2_with fail
    go_ret
    exact ⟨rfl, Below.refl _ _⟩
  · go_enter Try.func12, Try.ntmps12
    go_upto_region 4 with (go_at_call 47; go_fit (drawTimes_c a0 len0 cap0 z0 _ (by omega) hlc hAs hby); rintro e w1 ⟨n, A, c, bs, A2, c2, ps, A3, c3, ls, b, b2, b3, rfl, hn, hlb, hlp, hll, HP, hrd, hrp, hrl, hW⟩)
    have hD := pd_law (n := n) (c := c) (c2 := c2) (t := 28) hW hrd hrp
    have hba : Below w1.heap.size w1 (w1.alloc (.cells #[.int .i64 n, .slice A bs.length c, .slice A2 ps.length c2] 28)) := by go_grown
    replace hrl := (hrl.below hba).more hba.size
    generalize w1.alloc (.cells #[.int .i64 n, .slice A bs.length c, .slice A2 ps.length c2] 28) = wa at hD hrl ⊢
    generalize w1.heap.size = D at hD ⊢
    clear hW hrd hrp hlen hby hAs hba
    have hlb' : bs.length ≤ 2000000 := by omega
    have hlp' : ps.length ≤ 2000000 := by omega
    have hll' : ls.length ≤ 2000000 := by omega
    have d0 := hD.r.c0
    have d1 := hD.r.c1
    have d2 := hD.r.c2
    obtain ⟨zs, r, hq⟩ : ∃ zs r, strongTimes ⟨n, bs⟩ ps ls = (zs, r) := ⟨_, _, rfl⟩
    have Hq := hide hq
    have hzl : zs.length ≤ 6 := by
      cases r
      · rw [strongTimes_no hq]; simp
      · obtain ⟨_, h1, h2, _⟩ := strongTimes_law hq
        have := nn_ok h1.1.1
        omega
    have hzl' : zs.length ≤ 2000000 := by omega
    clear hq
    go_upto_region 6 with (first
      | (go_at_call 48; go_fit (strongTimes_q n bs ps ls zs r Hq.out A A2 A3 b 0 c b2 0 c2 b3 0 c3 _ _ hlb' hlp' hll' (Nat.le_refl _) hD.r.rd hD.r.rp hrl); rintro e w2 ⟨A5, c5, rfl, ho5, hb2⟩; have hD2 := hD.below hb2; have hrl2 := (hrl.below hb2).more hb2.size; have e0 := hD2.r.c0; have e1 := hD2.r.c1; have e2 := hD2.r.c2)
      | (go_at_call 49; go_fit (sStrongTimes_q n bs ps ls zs r Hq.out A A2 A3 b 0 c b2 0 c2 b3 0 c3 _ _ hlb' hlp' hll' (Nat.le_refl _) hD2.r.rd hD2.r.rp hrl2); rintro e w3 ⟨A6, c6, rfl, ho6, hb3⟩; have hD3 := hD2.below hb3; have hrl3 := (hrl2.below hb3).more hb3.size))
    obtain ⟨g5, hT5⟩ := own_IntsR ho5
    replace hT5 := (hT5.below hb3).more hb3.size
    obtain ⟨g6, hT6⟩ := own_IntsR ho6
    clear d0 d1 d2 e0 e1 e2 hD hrl hD2 hrl2 hb2 hb3 ho5 ho6
    go_upto_region 8 with (go_at_call 50; go_fit (sameInts_yes zs A5 A6 g5 0 c5 g6 0 c6 _ _ hzl' (Nat.le_refl _) hT5 hT6); rintro e w4 ⟨rfl, hb4⟩)
    have hD4 := hD3.below hb4
    replace hrl3 := (hrl3.below hb4).more hb4.size
    replace hT5 := (hT5.below hb4).more hb4.size
    replace hT6 := (hT6.below hb4).more hb4.size
    clear hD3 hb4
    cases r
    · obtain rfl := strongTimes_no Hq.out
      go_wp2_with (go_at_call 18; go_fit (alive_c w4); rintro e w5 ⟨rfl, hb5⟩; have hD5 := hD4.below hb5)
      go_ret
      exact ⟨rfl, hD5.bel⟩
    · obtain ⟨hso, hLO, hzn, hk1, hk2, ss, hss, hssl, hsame⟩ := strongTimes_law Hq.out
      have hnn := nn_ok hLO.1.1
      obtain ⟨N, hN⟩ : ∃ N : Nat, n = (N : Int) := Int.eq_ofNat_of_zero_le (by have := hnn.2.2; show 0 ≤ n; change (nn ⟨n, bs⟩ : Int) = n at this; omega)
      subst hN
      have hNz : zs.length = N := by rw [hzn]; rfl
      have hN6 : 1 ≤ N ∧ N ≤ 6 := ⟨hnn.2.1, hnn.1⟩
      obtain ⟨hN0, hN1⟩ := hN6
      have Hpr : Hid (∀ x ∈ ps, ∃ t : Nat, x.t = (t : Int) ∧ t < N) := fun x hx => by
        obtain ⟨i, hi, rfl⟩ := List.getElem_of_mem hx
        obtain ⟨_, ⟨t0, t1⟩, _⟩ := (hLO.1.2.2.2 i _ hi (List.getElem?_eq_getElem hi)).1
        exact ⟨ps[i].t.toNat, by omega, by change ps[i].t < (N : Int) at t1; omega⟩
      have Hso := hide hso
      have HLO := hide hLO
      have Hk1 := hide hk1
      have Hk2 := hide hk2
      have Hss := hide hss
      have Hssl := hide hssl
      have Hsame := hide hsame
      have HNz := hide hNz
      have Hpf : Hid (planForR ⟨(N : Int), bs⟩ ps ls = (planFor ⟨(N : Int), bs⟩ ps ls, true)) := by unfold Hid planForR; rw [lastsOk_iff.2 hLO]; rfl
      clear hso hLO hzn hk1 hk2 hss hssl hsame hnn hNz
      have d0 := hD4.r.c0
      have d1 := hD4.r.c1
      have d2 := hD4.r.c2
      have hDx := hD4.r.ex
      have hmk := fun W => run_make (P := Try.prog) W 64 4 j0 (.bool false) Try.underlying64 hj0 hy0 .i64 .i64 N N (by omega) (Int.le_refl _) (by rw [hy2]; omega) (by omega)
      simp only [Int.toNat_natCast, hy1] at hmk
      have hE : OwnI w4.heap.size ((w4.alloc (.cells #[] 3)).alloc (.cells (madeCells #[.bool false] N) 4)) (.slice (some ⟨w4.heap.size, 0, none⟩) 0 0) [] := World.ownsRow.alloc (own_empty (at_new rfl) (Nat.le_refl _)) _
      have hrow : ((w4.alloc (.cells #[] 3)).alloc (.cells (madeCells #[.bool false] N) 4)).rowIs (w4.heap.size + 1) 4 N (fun _ => .bool false) := by
        have h := World.rowIs_made (w4.alloc (.cells #[] 3)) (.bool false) N 4
        simpa using h
      have hbl : Below w4.heap.size w4 ((w4.alloc (.cells #[] 3)).alloc (.cells (madeCells #[.bool false] N) 4)) := by go_grown
      go_upto_block 0 with fail
      have hWs : W4S ((w4.alloc (.cells #[] 3)).alloc (.cells (madeCells #[.bool false] N) 4)) w4.heap.size := by unfold W4S; simp
      generalize (w4.alloc (.cells #[] 3)).alloc (.cells (madeCells #[.bool false] N) 4) = W at hE hrow hbl hWs ⊢
      clear hmk d0 d1 d2
      go_cut [9] (fun s wx => ∃ A9 c9, s = .slice A9 ps.length c9 ∧ OwnI w4.heap.size wx (.slice A9 (ps.map Pr.l).length c9) (ps.map Pr.l) ∧ wx.rowIs (w4.heap.size + 1) 4 N (fun i => .bool (toTo ps ps.length i)) ∧ Below w4.heap.size w4 wx)
      case first =>
        go_wp2_with fail
        go_loopg [9, 11] ps.length (fun gh s i wr => ∃ (k : Nat) (A9 : Option Addr) (c9 : Nat) (xs : List Int), k ≤ ps.length ∧ gh = ps.length - k ∧ i = .int .i64 k ∧ Hid (xs = (ps.take k).map Pr.l) ∧ xs.length = k ∧ s = .slice A9 xs.length c9 ∧ OwnI w4.heap.size wr (.slice A9 xs.length c9) xs ∧ (Value.slice A9 xs.length c9).ownBlock ≠ some (w4.heap.size + 1) ∧ wr.rowIs (w4.heap.size + 1) 4 N (fun i => .bool (toTo ps k i)) ∧ Below w4.heap.size w4 wr ∧ W4S wr w4.heap.size)
        case atStart => exact ⟨0, _, _, [], Nat.zero_le _, rfl, rfl, by simp [Hid], rfl, rfl, hE, by simp [Value.ownBlock], hrow.congr (fun j _ => by simp [toTo]), hbl, hWs⟩
        case round =>
          clear hE hrow hbl hWs
          obtain ⟨k, A9, c9, xs, hk, rfl, rfl, HX, hxk, rfl, hE, hnO, hrow, hbl, hWs⟩ := hrel
          have hD := hD4.below hbl
          have d2 := hD.r.c2
          by_cases hlt : k < ps.length
          · have hlt' : (k : Int) < (ps.length : Int) := by omega
            have hk0 : (0 : Int) ≤ (k : Int) := by omega
            obtain rfl := hD.r.rp.addr (by omega)
            have hx := List.getElem?_eq_getElem hlt
            obtain ⟨t, ht, htN⟩ := Hpr.out _ (List.getElem_mem hlt)
            generalize ps[k] = x at hx ht
            obtain ⟨_, e1, e2, _⟩ := pr_cells hD.r.rp hx
            rw [Nat.zero_add] at e1 e2
            rw [ht] at e1
            have hst := toTo_step hx ht
            have HX2 : Hid (xs ++ [x.l] = (ps.take (k + 1)).map Pr.l) := by unfold Hid; rw [List.take_add_one, hx, HX.out]; simp
            have hlx : (xs ++ [x.l]).length = xs.length + 1 := by simp
            have Hst := hide hst
            have Hlx := hide hlx
            have Hxk := hide hxk
            have hxl3 : xs.length ≤ 3 := by omega
            have hb20 : b2 < w4.heap.size := hD4.r.rp.lt (by omega)
            clear hx hst hlx hxk
            have hszE := hbl.size
            unfold W4S at hWs
            go_upto_region 16 with (at_builtin; refine app_list _ rfl (.tmp 66) (.tmp 73) _ rfl w4.heap.size 3 i0 _ 1 8 Try.underlying29 hi0 hz0 hz1 hz2 rfl (by omega) (.slice A9 xs.length c9) xs.length (xs.map (Value.int .i64)) rfl (World.ownsRow.alloc hE _) _ 1 _ [.int .i64 x.l] rfl rfl (NewsAt.block (cs := #[.int .i64 x.l]) (at_new rfl)) (by simp [Value.oneCell']) (by omega) (by omega) (by simp only [World.size_alloc]; omega) ?_; intro A8 c8 w8 hown8 hg8 hat8)
            have hown9 : OwnI w4.heap.size w8 (.slice A8 (xs.length + 1) c8) (xs ++ [x.l]) := by unfold OwnI; rw [Hlx.out, List.map_append]; exact hown8
            have hal : Below wr.heap.size wr (wr.alloc (.cells #[.int .i64 x.l] 3)) := by go_grown
            have hal4 : Below w4.heap.size w4 (wr.alloc (.cells #[.int .i64 x.l] 3)) := bthen hbl hal
            have hEa := own_hi (World.ownsRow.alloc hE (.cells #[.int .i64 x.l] 3))
            have hbl8 : Below w4.heap.size w4 w8 := hal4.grown hg8 hal4.size (fun q e => (hEa q e).1)
            have hrow8 : w8.rowIs (w4.heap.size + 1) 4 N (fun i => .bool (toTo ps k i)) := (rowIs_below hrow hal (by omega)).of_block (hg8.block _ (by simp only [World.size_alloc]; omega) (Ne.symm hnO))
            have hWs8 : w4.heap.size + 1 < w8.heap.size := by have := hg8.size; simp only [World.size_alloc] at this; omega
            have hnO8 : (Value.slice A8 (xs.length + 1) c8).ownBlock ≠ some (w4.heap.size + 1) := by
              rcases hat8 with e | e <;> rw [e]
              · exact hnO
              · intro e2; have := Option.some.inj e2; simp only [World.size_alloc] at this; omega
            have hD8 := hD4.below hbl8
            have d2' := hD8.r.c2
            have e1' := ((bcell hbl8).1 _ _ hb20).trans (((bcell hbl).1 b2 (k * 4 + 1) hb20).symm.trans e1)
            have t0 := hrow8.cell (i := t) htN
            have tf0 := hrow8.frozen t
            have htN' : (t : Int) < (N : Int) := by omega
            have ht0 : (0 : Int) ≤ (t : Int) := by omega
            clear hD hD8 d2 e1 e2 hE hrow hal hal4 hEa hown8 hg8 hat8 hnO hbl hszE hWs
            go_wp2_with fail
            go_roundg (ps.length - (k + 1))
            case measure => go_light; omega
            case rel =>
              go_light
              refine ⟨k + 1, A8, c8, xs ++ [x.l], by omega, rfl, by go_num, HX2, by rw [Hlx.out, Hxk.out], by rw [Hlx.out], ?_, by rw [Hlx.out]; exact hnO8, (hrow8.set t _).congr (fun j _ => Hst.out j), hbl8.setCell (p := ⟨w4.heap.size + 1, t, none⟩) (by show w4.heap.size ≤ w4.heap.size + 1; omega) _, by unfold W4S; simpa using hWs8⟩
              rw [Hlx.out]
              exact own_set hown9 (p := ⟨w4.heap.size + 1, t, none⟩) hnO8 _
          · obtain rfl : k = ps.length := by omega
            have hxs : xs = ps.map Pr.l := by rw [HX.out, List.take_length]
            have Hxk := hide hxk
            clear hxk
            go_wp2_with fail
            go_meet
            case rel => exact ⟨A9, c9, by rw [Hxk.out], by rw [← hxs]; exact hE, hrow, hbl⟩
      case rest =>
        clear hE hrow hbl hWs
        obtain ⟨A9, c9, rfl, hE, hrow, hbl⟩ := hcut
        have hD := hD4.below hbl
        have hL := (hrl3.below hbl).more hbl.size
        have hZ5 := (hT5.below hbl).more hbl.size
        have hZ6 := (hT6.below hbl).more hbl.size
        obtain ⟨g9, hE9⟩ := own_IntsR hE
        have hlm : (ps.map Pr.l).length = ps.length := by simp
        have hlm2 : (ps.map Pr.l).length ≤ 2000000 := by rw [hlm]; omega
        have hO := hrow.lt
        clear hE hD4 hrl3 hT5 hT6
        have d0 := hD.r.c0
        have d1 := hD.r.c1
        have d2 := hD.r.c2
        obtain ⟨lows, hlows⟩ : ∃ l, ps.map Pr.l = l := ⟨_, rfl⟩
        rw [hlows] at hE9 hlm hlm2
        have Hss2 : Hid (strongTimes ⟨(N : Int), bs⟩ ps lows = (ss, true)) := by rw [← hlows]; exact Hss.out
        have Hlm := hide hlm
        clear hlows
        have hE9' : IntsR wc wc.heap.size g9 0 A9 lows := hE9
        have e9 : (Value.slice A9 ps.length c9) = .slice A9 lows.length c9 := by rw [Hlm.out]
        rw [e9]
        clear hlm e9 hE9
        have hssl6 : ss.length ≤ 6 := by have := Hssl.out; omega
        have hss2' : ss.length ≤ 2000000 := by omega
        go_upto_region 18 with (go_at_call 48; go_fit (strongTimes_q (N : Int) bs ps lows ss true Hss2.out A A2 A9 b 0 c b2 0 c2 g9 0 c9 _ _ hlb' hlp' hlm2 (Nat.le_refl _) hD.r.rd hD.r.rp hE9'); rintro e w5 ⟨A7, c7, rfl, ho7, hb5⟩)
        obtain ⟨g7, hT7⟩ := own_IntsR ho7
        replace hD := hD.below hb5
        replace hL := (hL.below hb5).more hb5.size
        replace hZ5 := (hZ5.below hb5).more hb5.size
        replace hZ6 := (hZ6.below hb5).more hb5.size
        replace hrow := rowIs_below hrow hb5 hO
        clear d0 d1 d2 ho7 hb5 hO hbl hE9'
        have hlen7 : ((ss.length : Int) != (zs.length : Int)) = false := by rw [Hssl.out]; simp
        go_upto_block 2 with fail
        go_cut [] (fun wx => Below w5.heap.size w5 wx)
        case first =>
          clear hlen7
          go_wp2_with fail
          go_loopg [14] zs.length (fun gh s wr => ∃ (k : Nat), k ≤ zs.length ∧ gh = zs.length - k ∧ s = .int .i64 k ∧ Below w5.heap.size w5 wr)
          case atStart => exact ⟨0, Nat.zero_le _, rfl, rfl, Below.refl _ _⟩
          case round =>
            obtain ⟨k, hk, rfl, rfl, hbl⟩ := hrel
            by_cases hlt : k < zs.length
            · have hlt' : (k : Int) < (zs.length : Int) := by omega
              have hk0 : (0 : Int) ≤ (k : Int) := by omega
              have hkN : k < N := by have := HNz.out; omega
              have hkN' : (k : Int) < (N : Int) := by omega
              have hks : (k : Int) < (ss.length : Int) := by have := Hssl.out; omega
              have hr := rowIs_below hrow hbl hrow.lt
              have t0 := hr.cell (i := k) hkN
              have hdr : ∀ m, Below w5.heap.size w5 (wr.drewN m) := fun m => hbl.trans ⟨rfl, rfl, rfl, Nat.le_refl _, fun _ _ => rfl⟩
              cases ht : toTo ps ps.length k
              · have hs := Hsame.out k hlt (toTo_none ht)
                rw [ht] at t0
                obtain rfl := hT7.addr (by omega)
                obtain rfl := hZ6.addr (by omega)
                have c7' := (hT7.below hbl).cell k (by omega)
                have c6' := (hZ6.below hbl).cell k hlt
                rw [hs] at c7'
                generalize zs.getD k 0 = z at c6' c7'
                rw [Nat.zero_add] at c6' c7'
                clear ht hs
                go_upto_region 23 with fail
                go_quiet (fail)
                go_wp2_with fail
                go_roundg (zs.length - (k + 1))
                case measure => go_light; omega
                case rel => go_light; exact ⟨k + 1, by omega, rfl, by go_num, hdr _⟩
              · rw [ht] at t0
                clear ht
                go_upto_region 23 with fail
                go_quiet (fail)
                go_wp2_with fail
                go_roundg (zs.length - (k + 1))
                case measure => go_light; omega
                case rel => go_light; exact ⟨k + 1, by omega, rfl, by go_num, hdr _⟩
            · obtain rfl : k = zs.length := by omega
              go_wp2_with fail
              go_meet
              case rel => exact hbl
        case rest =>
          have hbl := hcut
          replace hD := hD.below hbl
          replace hL := (hL.below hbl).more hbl.size
          replace hZ5 := (hZ5.below hbl).more hbl.size
          clear hbl hT7 hZ6 hrow hlen7
          have d0 := hD.r.c0
          have d1 := hD.r.c1
          have d2 := hD.r.c2
          obtain ⟨q, hq⟩ : ∃ q, planFor ⟨(N : Int), bs⟩ ps ls = q := ⟨_, rfl⟩
          have Hpf2 : Hid (planForR ⟨(N : Int), bs⟩ ps ls = (q, true)) := by rw [← hq]; exact Hpf.out
          have Hkq : Hid (keepsOk q zs = true) := by rw [← hq]; exact Hk2.out
          have hlq : q.bs.length ≤ 2000000 := by rw [← hq]; have := (planOk_iff.1 (planFor_ok HLO.out)).2.1; omega
          clear hq
          go_upto_region 26 with (go_at_call 15; go_fit (planFor_q (N : Int) bs ps ls q true Hpf2.out A A2 A3 b 0 c b2 0 c2 b3 0 c3 _ _ hlb' hlp' hll' (Nat.le_refl _) hD.r.rd hD.r.rp hL); rintro e w6 ⟨A8, c8, g8, rfl, hr8, _, hb6⟩)
          have hb6' := bthen hb6 (show Below w6.heap.size w6 (w6.alloc (.cells #[.int .i64 q.n, .slice A8 q.bs.length c8] 25)) by go_grown)
          have hQ := pb_new (n := q.n) (c := c8) (t := 25) (bthen hD.bel hb6) hr8
          replace hD := hD.below hb6'
          replace hZ5 := (hZ5.below hb6').more hb6'.size
          generalize w6.alloc (.cells #[.int .i64 q.n, .slice A8 q.bs.length c8] 25) = W6 at hD hQ hZ5 ⊢
          generalize w6.heap.size = Q at hQ ⊢
          clear d0 d1 d2 hb6' hb6 hr8 hL
          have d0 := hD.r.c0
          have d1 := hD.r.c1
          have q0 := hQ.c0
          have q1 := hQ.c1
          go_wp2_with (first
            | (go_at_call 51; go_fit (keepsOk_c ⟨(N : Int), bs⟩ zs A A5 b 0 c g5 0 c5 _ _ hlb' hzl' (Nat.le_refl _) hD.r.rd hZ5); rintro e w7 ⟨rfl, hb7⟩; rw [Hk1.out]; have hD7 := hD.below hb7; have hQ7 := hQ.below hb7; have hZ7 := (hZ5.below hb7).more hb7.size; have r0 := hQ7.c0; have r1 := hQ7.c1)
            | (go_at_call 51; go_fit (keepsOk_c q zs A8 A5 g8 0 c8 g5 0 c5 _ _ hlq hzl' (Nat.le_refl _) hQ7.rd hZ7); rintro e w8 ⟨rfl, hb8⟩; rw [Hkq.out]; have hD8 := hD7.below hb8; have f0 := hD8.r.c0; have f1 := hD8.r.c1; have f2 := hD8.r.c2)
            | (go_at_call 37; go_fit (strongOk_c (N : Int) bs ps A A2 b 0 c b2 0 c2 _ _ hlb' hlp' (Nat.le_refl _) hD8.r.rd hD8.r.rp); rintro e w9 ⟨rfl, hb9⟩; rw [Hso.out]; have hD9 := hD8.below hb9))
          go_ret
          exact ⟨rfl, hD9.bel⟩
end Go.Proofs.Ytdijfkpccbkdfaa
