/-
  impl: step.
-/
import Derived.Test.YtjlaljnffmncpaaL17
namespace Go.Proofs.Ytjlaljnffmncpaa
set_option linter.unusedVariables false
set_option linter.unusedSimpArgs false
open Go.RowKit Pp

set_option maxHeartbeats 4000000 in
set_option maxRecDepth 100000 in
theorem step_c (p : Pl) (s : St) (pick : Int) (q : St) (hq : stepR p s pick = q) (hpk : 0 ≤ pick ∧ pick ≤ 9223372036854775807) (hs : stateOk p s = true) (A A' : Option Addr) (b o c b' o' c' B : Nat) (w : World) (hn : p.bs.length ≤ 2000000) (hB : B ≤ w.heap.size) (hR : BdsR w B b o A p.bs) (hR' : IntsR w B b' o' A' s.done) :
    Calls Try.prog 139 #[.agg #[.int .i64 p.n, .slice A p.bs.length c], .agg #[.int .i64 s.now, .slice A' s.done.length c'], .int .i64 pick] w fun e w' =>
      ∃ A1 c1, e = .returned (.agg #[.int .i64 q.now, .slice A1 q.done.length c1]) ∧ (OwnI w.heap.size w' (.slice A1 q.done.length c1) q.done ∨ (A1 = A' ∧ c1 = c' ∧ q = s)) ∧ Below w.heap.size w w' := by
  obtain ⟨i0, hi0, hz0, hz1, hz2⟩ := info_parts infoI
  have hS0 := stateOk_iff.1 hs
  obtain ⟨hm6, hm1, hmn⟩ := nn_ok (planOk_of_fits hS0.fit)
  have hlen := hS0.len
  have hn' : s.done.length ≤ 2000000 := by omega
  clear hS0 hs
  unfold stepR at hq
  obtain ⟨m, hm⟩ : ∃ m, nn p = m := ⟨_, rfl⟩
  rw [hm] at hm6 hm1 hlen hq
  clear hm hmn
  obtain ⟨hp0, hp1⟩ := hpk
  have Hlen := hide hlen
  have Hq := hide hq
  clear hq hlen
  have hD0 := db_new (t := 25) (t' := 70) (n := p.n) (now := s.now) (c := c) (c' := c') hB hR hR'
  have hD := hD0.alloc (.cells #[.int .i64 0, .slice none 0 0] 70)
  have hZ : ZB w (((w.alloc (.cells #[.int .i64 p.n, .slice A p.bs.length c] 25)).alloc (.cells #[.int .i64 s.now, .slice A' s.done.length c'] 70)).alloc (.cells #[.int .i64 0, .slice none 0 0] 70)) (w.heap.size + 1 + 1) := by
    have h := zb_new (w0 := w) (W := (w.alloc (.cells #[.int .i64 p.n, .slice A p.bs.length c] 25)).alloc (.cells #[.int .i64 s.now, .slice A' s.done.length c'] 70)) (t := 70) hD0.bel.size
    simp only [World.size_alloc] at h
    exact h
  clear hR hR' hD0
  go_enter Try.func139, Try.ntmps139
  go_upto_region 1 with fail
  have hYs : w.heap.size + 1 + 1 < (((w.alloc (.cells #[.int .i64 p.n, .slice A p.bs.length c] 25)).alloc (.cells #[.int .i64 s.now, .slice A' s.done.length c'] 70)).alloc (.cells #[.int .i64 0, .slice none 0 0] 70)).heap.size := by simp
  generalize ((w.alloc (.cells #[.int .i64 p.n, .slice A p.bs.length c] 25)).alloc (.cells #[.int .i64 s.now, .slice A' s.done.length c'] 70)).alloc (.cells #[.int .i64 0, .slice none 0 0] 70) = W at hD hZ hYs ⊢
  have hYw : w.heap.size + 1 < w.heap.size + 1 + 1 := Nat.lt_succ_self _
  generalize w.heap.size + 1 + 1 = Y at hZ hYs hYw ⊢
  have s0 := hD.s.c0
  have s1 := hD.s.c1
  go_wp2_with fail
  clear s0 s1
  go_loopg [7, 19] m (fun gh s7 s19 wr => ∃ (k : Nat) (rs : List Int) (Ar : Option Addr) (cr : Nat), k ≤ m ∧ gh = m - k ∧ s19 = .int .i64 k ∧ s7 = .slice Ar rs.length cr ∧ Hid (readyTo p s k = rs) ∧ OwnI W.heap.size wr (.slice Ar rs.length cr) rs ∧ Below W.heap.size W wr)
  case atStart => exact ⟨0, [], none, 0, Nat.zero_le _, rfl, rfl, rfl, rfl, World.ownsRow_nil _ _ _ _, Below.refl _ _⟩
  case round =>
    obtain ⟨k, rs, Ar, cr, hk, rfl, rfl, rfl, Hrs, hown, hWr⟩ := hrel
    have hlen := Hlen.out
    have hDr := hD.below hWr
    have s0 := hDr.s.c0
    have s1 := hDr.s.c1
    have p0 := hDr.p.c0
    have p1 := hDr.p.c1
    have hrl : rs.length ≤ 6 := by rw [← Hrs.out]; have := readyTo_le p s k; omega
    by_cases hlt : k < m
    · have hz : (k : Int) < (s.done.length : Int) := by omega
      clear hlen
      cases hrd : isReady p s (k : Int)
      · have Hst : Hid (readyTo p s (k + 1) = rs) := by unfold Hid; simp only [readyTo]; rw [hrd, ← Hrs.out]; rfl
        have Hrd := hide hrd
        clear hrd
        go_wp2_with (go_at_call 130; go_fit (readyOk_c p s (k : Int) A A' b o c b' o' c' _ _ hn hn' (Nat.le_refl _) hDr.p.rd hDr.s.rd); rintro e w5 ⟨rfl, hb5⟩; rw [Hrd.out]; have hW5 : Below W.heap.size W w5 := bthen hWr hb5; have hown5 := own_below hown hb5)
        go_roundg (m - (k + 1))
        case measure => go_light; omega
        case rel => go_light; exact ⟨k + 1, rs, Ar, cr, by omega, rfl, by go_num, rfl, Hst, hown5, hW5⟩
      · have Hst : Hid (readyTo p s (k + 1) = rs ++ [(k : Int)]) := by unfold Hid; simp only [readyTo]; rw [hrd, ← Hrs.out]; rfl
        have Hrd := hide hrd
        clear hrd
        go_wp2_with (first
          | (go_at_call 130; go_fit (readyOk_c p s (k : Int) A A' b o c b' o' c' _ _ hn hn' (Nat.le_refl _) hDr.p.rd hDr.s.rd); rintro e w5 ⟨rfl, hb5⟩; rw [Hrd.out]; have hW5 : Below W.heap.size W w5 := bthen hWr hb5; have hown5 := own_below hown hb5)
          | (at_builtin; refine app_list _ rfl (.tmp 26) (.tmp 28) _ rfl W.heap.size 3 i0 _ 1 8 Try.underlying44 hi0 hz0 hz1 hz2 rfl (by omega) (.slice Ar rs.length cr) rs.length (rs.map (Value.int .i64)) rfl (hown5.alloc _) _ 1 _ [.int .i64 (k : Int)] rfl rfl (NewsAt.block (cs := #[.int .i64 (k : Int)]) (at_new rfl)) (by simp [Value.oneCell']) (by omega) (by omega) (by have h := hW5.size; simp only [World.size_alloc]; omega) ?_; intro A4 c4 w4 hown4 hg4 hat4))
        have hW4 : Below W.heap.size W w4 := below_app (bthen hW5 (show Below w5.heap.size w5 (w5.alloc (.cells #[.int .i64 (k : Int)] 3)) by go_grown)) (hown5.alloc (.cells #[.int .i64 (k : Int)] 3)) hg4 (Nat.le_refl _) (by have h := hW5.size; simp only [World.size_alloc]; omega)
        go_roundg (m - (k + 1))
        case measure => go_light; omega
        case rel =>
          go_light
          have hl2 : (rs ++ [(k : Int)]).length = rs.length + 1 := by simp
          exact ⟨k + 1, rs ++ [(k : Int)], A4, c4, by omega, rfl, by go_num, by rw [hl2], Hst, by unfold OwnI; rw [hl2, List.map_append]; exact hown4, hW4⟩
    · obtain rfl : k = m := by omega
      have hz : ¬ (k : Int) < (s.done.length : Int) := by omega
      clear hlen
      have Hq2 : Hid (tryFrom p s rs pick rs.length = q) := by unfold Hid; rw [← Hrs.out]; exact Hq.out
      clear Hq Hrs hk hlt s0 s1 p0 p1
      obtain ⟨L, hL⟩ : ∃ L, rs.length = L := ⟨_, rfl⟩
      have HL := hide hL
      rw [hL] at hown hrl
      have Hq3 : Hid (tryFrom p s rs pick L = q) := by unfold Hid; rw [← hL]; exact Hq2.out
      rw [hL]
      clear hL Hq2
      have hDr' := hide hDr
      go_wp2_with fail
      go_loopg [33] (L + 1) (fun gh s33 wr => ∃ (mm j : Nat), mm + j = L ∧ gh = mm + 1 ∧ s33 = .int .i64 j ∧ Hid (tryFrom p s rs pick mm = q) ∧ OwnI W.heap.size wr (.slice Ar L cr) rs ∧ Below W.heap.size W wr)
      case atStart => exact ⟨L, 0, rfl, rfl, rfl, Hq3, hown, hWr⟩
      case round =>
        clear hown hWr hDr hDr' Hq3
        obtain ⟨mm, j, hmj, rfl, rfl, Ht, hown, hWr⟩ := hrel
        have hDr := hD.below hWr
        have hZr := hZ.below hWr
        have s0 := hDr.s.c0
        have s1 := hDr.s.c1
        have p0 := hDr.p.c0
        have p1 := hDr.p.c1
        have z0 := hZr.z0
        have z1 := hZr.z1
        have zf0 := hZr.zf 0
        have zf1 := hZr.zf 1
        have hbW : w.heap.size ≤ W.heap.size := hD.bel.size
        cases mm with
        | zero =>
          have hz : ¬ (j : Int) < (L : Int) := by omega
          have e : q = s := Ht.out.symm
          subst e
          obtain ⟨r0, r1⟩ := two_cells (a := .int .i64 q.now) (b := .slice A' q.done.length c') z0 z1
          have hWf := (hDr.bel.setCell (p := ⟨Y, 0, none⟩) hZr.lo (.int .i64 q.now)).setCell (p := ⟨Y, 1, none⟩) hZr.lo (.slice A' q.done.length c')
          clear hmj
          go_wp2_with fail
          refine bodyPost_ret (v := .agg #[.int .i64 q.now, .slice A' q.done.length c']) (by simp [results, Try.results139, go_sem, r0, r1]) rfl ?_
          refine ⟨A', c', rfl, .inr ?_, hWf⟩
          simp
        | succ mm =>
          have hz : (j : Int) < (L : Int) := by omega
          have hL0 : 0 < L := by omega
          have hLz : (0 : Int) < (L : Int) := by omega
          have hj : rs.length - (mm + 1) = j := by rw [HL.out]; omega
          have hix := ixOf_lt (pick := pick) (j := j) hL0
          have hixe := ixOf_eq (j := j) hL0 hp0
          obtain ⟨ix, hixv⟩ : ∃ ix, ixOf pick L j = ix := ⟨_, rfl⟩
          rw [hixv] at hix hixe
          obtain ⟨t1, ht1⟩ : ∃ t1, Int.tmod pick (L : Int) = t1 := ⟨_, rfl⟩
          have ht1a : 0 ≤ t1 := by rw [← ht1]; exact Int.tmod_nonneg _ hp0
          have ht1b : t1 < (L : Int) := by rw [← ht1]; exact Int.tmod_lt_of_pos _ hLz
          rw [ht1] at hixe
          have hixz : (ix : Int) < (L : Int) := by omega
          obtain ⟨g, hrr⟩ := own_IntsR (c := cr) (by rw [HL.out]; exact hown : OwnI W.heap.size wr (.slice Ar rs.length cr) rs)
          have hAr := hrr.addr (by rw [HL.out]; omega)
          subst hAr
          have d0 := hrr.cell ix (by rw [HL.out]; exact hix)
          rw [Nat.zero_add] at d0
          have hgl : g < wr.heap.size := hrr.lt (by rw [HL.out]; omega)
          obtain ⟨pt, hpt⟩ : ∃ pt, rs.getD ix 0 = pt := ⟨_, rfl⟩
          rw [hpt] at d0
          obtain ⟨lo, hlo⟩ : ∃ x, (window p s pt).1 = x := ⟨_, rfl⟩
          obtain ⟨q1, r1, hd⟩ : ∃ q1 r1, doAt p s pt lo = (q1, r1) := ⟨_, _, rfl⟩
          have Hst : Hid ((if r1 then q1 else tryFrom p s rs pick mm) = q) := by
            unfold Hid
            rw [← Ht.out]
            simp only [tryFrom]
            rw [hj, HL.out, hixv, hpt, hlo, hd]
          obtain ⟨hi, hhi⟩ : ∃ x, (window p s pt).2.1 = x := ⟨_, rfl⟩
          obtain ⟨ok, hok⟩ : ∃ x, (window p s pt).2.2 = x := ⟨_, rfl⟩
          have Hlo := hide hlo
          have Hhi := hide hhi
          have Hok := hide hok
          have Hd := hide hd
          clear hlo hhi hok hd hpt hixv hj hrr z0 z1 zf0 zf1
          have hL6 : (L : Int) ≤ 6 := by omega
          cases r1
          · go_wp2_with (first
              | (go_at_call 128; go_fit (windowOf_c p s pt A A' b o c b' o' c' _ _ hn hn' (Nat.le_refl _) hDr.p.rd hDr.s.rd); rintro e w5 ⟨rfl, hb5⟩; rw [Hlo.out, Hhi.out, Hok.out]; have hW5 : Below W.heap.size W w5 := bthen hWr hb5; have hD5 := hD.below hW5; clear s0 s1 p0 p1; have s0 := hD5.s.c0; have s1 := hD5.s.c1; have p0 := hD5.p.c0; have p1 := hD5.p.c1)
              | (go_at_call 61; go_fit (doAt_c p s pt lo q1 false Hd.out A A' b o c b' o' c' _ _ hn hn' (Nat.le_refl _) hD5.p.rd hD5.s.rd); rintro e w6 ⟨A6, c6, g6, rfl, hr6, hown6, hb6⟩))
            go_roundg (mm + 1)
            case measure => go_light; omega
            case rel =>
              go_light
              have hb7 : Below wr.heap.size wr (w6.alloc (.cells #[.int .i64 q1.now, .slice A6 q1.done.length c6] 70)) := bthen (bthen hb5 hb6) (by go_grown)
              exact ⟨mm, j + 1, by omega, rfl, by go_num, Hst.out, own_below hown hb7, bthen hWr hb7⟩
          · have e : q1 = q := Hst.out
            subst e
            go_wp2_with (first
              | (go_at_call 128; go_fit (windowOf_c p s pt A A' b o c b' o' c' _ _ hn hn' (Nat.le_refl _) hDr.p.rd hDr.s.rd); rintro e w5 ⟨rfl, hb5⟩; rw [Hlo.out, Hhi.out, Hok.out]; have hW5 : Below W.heap.size W w5 := bthen hWr hb5; have hD5 := hD.below hW5; clear s0 s1 p0 p1; have s0 := hD5.s.c0; have s1 := hD5.s.c1; have p0 := hD5.p.c0; have p1 := hD5.p.c1)
              | (go_at_call 61; go_fit (doAt_c p s pt lo q1 true Hd.out A A' b o c b' o' c' _ _ hn hn' (Nat.le_refl _) hD5.p.rd hD5.s.rd); rintro e w6 ⟨A6, c6, g6, rfl, hr6, hown6, hb6⟩; have hZ6 := (hZ.below (bthen hW5 hb6)).below (show Below w6.heap.size w6 (w6.alloc (.cells #[.int .i64 q1.now, .slice A6 q1.done.length c6] 70)) by go_grown); have z0 := hZ6.z0; have z1 := hZ6.z1; have zf0 := hZ6.zf 0; have zf1 := hZ6.zf 1))
            have hb7 : Below w.heap.size w (w6.alloc (.cells #[.int .i64 q1.now, .slice A6 q1.done.length c6] 70)) := bthen (hD5.bel.trans (hb6.mono hD5.bel.size)) (by go_grown)
            obtain ⟨r0, r1, ho, hb9⟩ := hZ6.finI (n := q1.now) (A := A6) (c := c6) (xs := q1.done) hb7 (own_less (hown6.alloc _) hD5.bel.size) (fun e => by have h1 := (hown6.lt _ e).1; have h2 := hW5.size; omega)
            refine bodyPost_ret (v := .agg #[.int .i64 q1.now, .slice A6 q1.done.length c6]) (by simp [results, Try.results139, go_sem, r0, r1]) rfl ?_
            exact ⟨A6, c6, rfl, .inl ho, hb9⟩
end Go.Proofs.Ytjlaljnffmncpaa
