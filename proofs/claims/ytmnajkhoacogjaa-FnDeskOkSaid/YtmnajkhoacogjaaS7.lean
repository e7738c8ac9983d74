/-
  spec.TrimmedOf.
-/
import Derived.Test.YtmnajkhoacogjaaS6
namespace Go.Proofs.Ytmnajkhoacogjaa
set_option linter.unusedVariables false
set_option linter.unusedSimpArgs false
open Go.RowKit Pp

set_option maxHeartbeats 8000000 in
set_option maxRecDepth 100000 in
theorem sTrimmed_c (p q : Pl) (hq : trim p = q) (A : Option Addr) (b o c B : Nat) (w : World) (hn : p.bs.length ≤ 2000000) (hB : B ≤ w.heap.size) (hR : BdsR w B b o A p.bs) :
    Calls Try.prog 34 #[.agg #[.int .i64 p.n, .slice A p.bs.length c]] w fun e w' =>
      ∃ A1 c1 g1, e = .returned (.agg #[.int .i64 q.n, .slice A1 q.bs.length c1]) ∧ BdsR w' w'.heap.size g1 0 A1 q.bs ∧ OwnB w.heap.size w' (.slice A1 q.bs.length c1) q.bs ∧ Below w.heap.size w w' := by
  obtain ⟨i0, hi0, hz0, hz1, hz2⟩ := info_parts infoB
  obtain ⟨n, bs⟩ := p
  dsimp only at *
  have hP := (po_new (t := 25) (n := n) (c := c) (Below.refl w.heap.size w) (hR.more hB)).alloc (.cells #[.int .i64 0, .slice none 0 0] 25)
  have hZ : ZB w ((w.alloc (.cells #[.int .i64 n, .slice A bs.length c] 25)).alloc (.cells #[.int .i64 0, .slice none 0 0] 25)) (w.alloc (.cells #[.int .i64 n, .slice A bs.length c] 25)).heap.size := zb_new (by simp)
  simp only [World.size_alloc] at hZ
  cases hp : planOk ⟨n, bs⟩
  · have hq2 : q = ⟨0, []⟩ := by rw [← hq]; exact trim_no hp
    subst hq2
    have Hp := hide hp
    clear hp hq
    go_enter Try.func34, Try.ntmps34
    go_upto_region 1 with fail
    generalize (w.alloc (.cells #[.int .i64 n, .slice A bs.length c] 25)).alloc (.cells #[.int .i64 0, .slice none 0 0] 25) = W at hP hZ ⊢
    generalize w.heap.size + 1 = Y at hZ ⊢
    have p0 := hP.c0
    have p1 := hP.c1
    go_wp2_with (go_at_call 11; go_fit (sPlanOk_c ⟨n, bs⟩ A b o c _ _ hn (Nat.le_refl _) hP.rd); rintro e w2 ⟨rfl, hb2⟩; rw [Hp.out]; have hP2 := hP.below hb2; have hZ2 := hZ.below hb2; have z0 := hZ2.z0; have z1 := hZ2.z1; have zf0 := hZ2.zf 0; have zf1 := hZ2.zf 1)
    obtain ⟨r0, r1, ho, hb7⟩ := hZ2.fin (n := 0) (A := none) (c := 0) (bs := []) hP2.bel (World.ownsRow_nil _ _ _ _) (by simp [Value.ownBlock])
    simp only [List.length_nil] at r0 r1
    refine bodyPost_ret (v := .agg #[.int .i64 0, .slice none 0 0]) (by simp [results, Try.results34, go_sem, r0, r1]) rfl ?_
    exact ⟨none, 0, 0, rfl, BdsR.nil _ _ _, ho, hb7⟩
  · have hq2 : trimGo n bs.length bs = q.bs ∧ q.n = n := by rw [← hq]; unfold trim; rw [if_pos hp]; exact ⟨rfl, rfl⟩
    obtain ⟨qn, qs⟩ := q
    obtain ⟨hqs, hqn⟩ := hq2
    dsimp only at hqs hqn
    subst hqn
    have hl16 : bs.length ≤ 16 := (planOk_iff.1 hp).2.1
    have Hqs := hide hqs
    have Hp := hide hp
    clear hp hq hqs
    go_enter Try.func34, Try.ntmps34
    go_upto_region 1 with fail
    generalize (w.alloc (.cells #[.int .i64 qn, .slice A bs.length c] 25)).alloc (.cells #[.int .i64 0, .slice none 0 0] 25) = W at hP hZ ⊢
    have hXY : w.heap.size < w.heap.size + 1 := by omega
    generalize w.heap.size + 1 = Y at hZ hXY ⊢
    have p0 := hP.c0
    have p1 := hP.c1
    go_upto_region 3 with (go_at_call 11; go_fit (sPlanOk_c ⟨qn, bs⟩ A b o c _ _ hn (Nat.le_refl _) hP.rd); rintro e w2 ⟨rfl, hb2⟩; rw [Hp.out]; have hP2 := hP.below hb2; have hZ2 := hZ.below hb2; have q0 := hP2.c0; have q1 := hP2.c1; have qx := hP2.ex)
    clear hP hZ hb2 p0 p1
    have hP20 := hP2.bel.size
    have hY2 := hZ2.ex
    go_cut [3] (fun s wx => ∃ X A1 c1, s = .pointer (some ⟨X, 0, none⟩) ∧ OX w wx Y X qn A1 c1 bs ∧ wx.cell? ⟨w.heap.size, 1, none⟩ = some (.slice A bs.length c))
    case first =>
      go_region_held3 (fun w' => w'.cell? ⟨w.heap.size, 0, none⟩ = some (.int .i64 qn) ∧ w'.cell? ⟨w.heap.size, 1, none⟩ = some (.slice A bs.length c))
        (first
          | (go_split_ands; (repeat' apply And.intro) <;> first | assumption | exact (set_other (by dsimp only; omega)).trans ((set_other (by dsimp only; omega)).trans (by assumption)) | exact (World.cell?_alloc_past _ _ _ (by first | omega | (simp only [World.size_alloc, World.size_drew]; done) | (simp only [World.size_alloc, World.size_drew]; omega))).trans (by assumption) | exact (World.cell?_alloc_past _ _ _ (by first | omega | (simp only [World.size_alloc, World.size_drew]; done) | (simp only [World.size_alloc, World.size_drew]; omega))).trans ((World.cell?_alloc_past _ _ _ (by first | omega | (simp only [World.size_alloc, World.size_drew]; done) | (simp only [World.size_alloc, World.size_drew]; omega))).trans (by assumption)))
          | (go_keep; done))
        (first
          | (refine app_step _ rfl (.tmp 11) (.tmp 13) _ rfl w2.heap.size 51 i0 _ 3 24 Try.underlying23 hi0 hz0 hz1 hz2 rfl (by omega) (.slice (some ⟨w2.heap.size + 1, 0, none⟩) 0 0) 0 [] (Eq.refl _) ?_ A bs.length c (bdCs bs) (Eq.refl _) (bdCs_length bs) ?_ (bdCs_one bs) (by omega) (by omega) ?_ ?_
             · exact own_empty (at_new (w := w2.alloc (.cells #[.int .i64 0, .slice none 0 0] 25)) (by simp)) (by omega)
             · exact (hP2.rd.below (show Below w2.heap.size w2 _ by go_grown)).news
             · exact (by first | omega | (simp only [World.size_alloc, World.size_drew]; done) | (simp only [World.size_alloc, World.size_drew]; omega))
             intro A4 c4 w4 hown4 hg4 hat4
             simp only [Nat.zero_add, List.nil_append] at hown4 hat4 ⊢
             have hb4 : Below w2.heap.size w2 w4 := (show Below w2.heap.size w2 _ by go_grown).grown hg4 (by first | omega | (simp only [World.size_alloc, World.size_drew]; done) | (simp only [World.size_alloc, World.size_drew]; omega)) (fun q hq => by have e := Option.some.inj hq; subst e; dsimp only; omega)
             have hZ4 := hZ2.below hb4
             have hqY : (Value.slice A4 bs.length c4).ownBlock ≠ some Y := (fun e => by have := (hown4.lt _ e).1; omega)
             have hqN := (fun q (e : (Value.slice A4 bs.length c4).ownBlock = some q) => (hown4.lt q e).2)
             have hc4 := (bcell hb4).1
             have k0 := (hc4 _ 0 qx).trans q0
             have k1 := (hc4 _ 1 qx).trans q1
             have Hc4 := hide hc4
             clear hc4
             have hqX : (Value.slice A4 bs.length c4).ownBlock ≠ some (w2.heap.size) := (fun e => by rcases hat4 with h | h <;> rw [h] at e <;> (have e2 := Option.some.inj e; (try simp only [World.size_alloc, World.size_drew] at e2); (try dsimp only at e2); omega)); have hX := ZB.grown (((zb_at (w0 := w) (W := w2) (X := w2.heap.size) (t := 25) rfl hP20).alloc _).drew) hg4 (fun q hq => by have e := Option.some.inj hq; subst e; dsimp only; omega); have x0 := hX.z0; have x1 := hX.z1; have xf0 := hX.zf 0; have xf1 := hX.zf 1)
          | (refine app_step _ rfl (.tmp 11) (.tmp 13) _ rfl w2.heap.size 51 i0 _ 3 24 Try.underlying23 hi0 hz0 hz1 hz2 rfl (by omega) (.slice (some ⟨w2.heap.size, 0, none⟩) 0 0) 0 [] (Eq.refl _) ?_ A bs.length c (bdCs bs) (Eq.refl _) (bdCs_length bs) ?_ (bdCs_one bs) (by omega) (by omega) ?_ ?_
             · exact own_empty (at_old (at_new (w := w2) rfl)) (by omega)
             · exact (hP2.rd.below (show Below w2.heap.size w2 _ by go_grown)).news
             · exact (by first | omega | (simp only [World.size_alloc, World.size_drew]; done) | (simp only [World.size_alloc, World.size_drew]; omega))
             intro A4 c4 w4 hown4 hg4 hat4
             simp only [Nat.zero_add, List.nil_append] at hown4 hat4 ⊢
             have hb4 : Below w2.heap.size w2 w4 := (show Below w2.heap.size w2 _ by go_grown).grown hg4 (by first | omega | (simp only [World.size_alloc, World.size_drew]; done) | (simp only [World.size_alloc, World.size_drew]; omega)) (fun q hq => by have e := Option.some.inj hq; subst e; dsimp only; omega)
             have hZ4 := hZ2.below hb4
             have hqY : (Value.slice A4 bs.length c4).ownBlock ≠ some Y := (fun e => by have := (hown4.lt _ e).1; omega)
             have hqN := (fun q (e : (Value.slice A4 bs.length c4).ownBlock = some q) => (hown4.lt q e).2)
             have hc4 := (bcell hb4).1
             have k0 := (hc4 _ 0 qx).trans q0
             have k1 := (hc4 _ 1 qx).trans q1
             have Hc4 := hide hc4
             clear hc4
             have hqX : (Value.slice A4 bs.length c4).ownBlock ≠ some (w2.heap.size + 1) := (fun e => by rcases hat4 with h | h <;> rw [h] at e <;> (have e2 := Option.some.inj e; (try simp only [World.size_alloc, World.size_drew] at e2); (try dsimp only at e2); omega)); have hX := ZB.grown ((zb_at (w0 := w) (W := w2.alloc (.cells #[] 51)) (X := w2.heap.size + 1) (t := 25) (by simp) (by simp; omega)).drew) hg4 (fun q hq => by have e := Option.some.inj hq; subst e; dsimp only; omega); have x0 := hX.z0; have x1 := hX.z1; have xf0 := hX.zf 0; have xf1 := hX.zf 1)
          | (refine app_step _ rfl (.tmp 11) (.tmp 13) _ rfl w2.heap.size 51 i0 _ 3 24 Try.underlying23 hi0 hz0 hz1 hz2 rfl (by omega) (.slice (some ⟨w2.heap.size, 0, none⟩) 0 0) 0 [] (Eq.refl _) ?_ A bs.length c (bdCs bs) (Eq.refl _) (bdCs_length bs) ?_ (bdCs_one bs) (by omega) (by omega) ?_ ?_
             · exact own_empty (at_new (w := w2) rfl) (by omega)
             · exact (hP2.rd.below (show Below w2.heap.size w2 _ by go_grown)).news
             · exact (by first | omega | (simp only [World.size_alloc, World.size_drew]; done) | (simp only [World.size_alloc, World.size_drew]; omega))
             intro A4 c4 w4 hown4 hg4 hat4
             simp only [Nat.zero_add, List.nil_append] at hown4 hat4 ⊢
             have hb4 : Below w2.heap.size w2 w4 := (show Below w2.heap.size w2 _ by go_grown).grown hg4 (by first | omega | (simp only [World.size_alloc, World.size_drew]; done) | (simp only [World.size_alloc, World.size_drew]; omega)) (fun q hq => by have e := Option.some.inj hq; subst e; dsimp only; omega)
             have hZ4 := hZ2.below hb4
             have hqY : (Value.slice A4 bs.length c4).ownBlock ≠ some Y := (fun e => by have := (hown4.lt _ e).1; omega)
             have hqN := (fun q (e : (Value.slice A4 bs.length c4).ownBlock = some q) => (hown4.lt q e).2)
             have hc4 := (bcell hb4).1
             have k0 := (hc4 _ 0 qx).trans q0
             have k1 := (hc4 _ 1 qx).trans q1
             have Hc4 := hide hc4
             clear hc4
             skip))
      all_goals (
        go_wp2_with fail
        go_meet
        case rel =>
          first
            | exact ⟨_, A4, c4, rfl, ox_put (bthen hP2.bel hb4) hZ4 hX (by omega) (own_less hown4 hP20) hqY hqX, (set_other (by dsimp only; omega)).trans ((set_other (by dsimp only; omega)).trans k1)⟩
            | exact ⟨_, A4, c4, rfl, ox_new (bthen hP2.bel hb4) hZ4 (own_less hown4 hP20) hqY, (World.cell?_alloc_past _ _ _ (by have := hb4.size; omega)).trans k1⟩)
    case rest =>
      obtain ⟨X, A1, c1, rfl, hO, p1⟩ := hcut
      clear hP2 hZ2 q0 q1
      have o1 := hO.c1
      go_wp2_with fail
      go_loopg [4] (bs.length + 1) (fun gh s wr => ∃ k : Nat, ∃ a : Int, ∃ cur : List Bd, ∃ A c, gh = k + 1 ∧ s = .int .i64 a ∧ a = (k : Int) - 1 ∧ k ≤ cur.length ∧ cur.length ≤ 16 ∧ Hid (planOk ⟨qn, cur⟩ = true) ∧ Hid (trimGo qn k cur = qs) ∧ OX w wr Y X qn A c cur)
      case atStart => exact ⟨bs.length, _, bs, A1, c1, rfl, rfl, rfl, Nat.le_refl _, hl16, Hp, Hqs, hO⟩
      case round =>
        clear hO o1 Hp Hqs hl16
        obtain ⟨k, a, cur, A2, c2, rfl, rfl, ha, hk, hl16, Hp, Hqs, hO⟩ := hrel
        have o0 := hO.c0
        have o1 := hO.c1
        have of0 := hO.cf 0
        have of1 := hO.cf 1
        rcases Nat.eq_zero_or_pos k with rfl | hk0
        · obtain rfl : a = -1 := by omega
          clear ha
          have e : cur = qs := by rw [← Hqs.out]; rfl
          subst e
          have hZ := hO.z
          have z0 := hZ.z0
          have z1 := hZ.z1
          have zf0 := hZ.zf 0
          have zf1 := hZ.zf 1
          obtain ⟨r0, r1, ho, hb7⟩ := hZ.fin (n := qn) hO.bel hO.own hO.neY
          go_wp2_with fail
          refine bodyPost_ret (v := .agg #[.int .i64 qn, .slice A2 cur.length c2]) (by simp [results, Try.results34, go_sem, r0, r1]) rfl ?_
          obtain ⟨g, hr⟩ := OwnB.readsA ho
          exact ⟨_, _, g, rfl, hr, ho, hb7⟩
        · obtain ⟨j, rfl⟩ : ∃ j, k = j + 1 := ⟨k - 1, by omega⟩
          obtain rfl : a = (j : Int) := by omega
          clear ha
          obtain ⟨g2, hrd⟩ := hO.reads
          obtain ⟨hcap, hc63⟩ := own_cap hO.own
          have hnI : needlessI ⟨qn, cur⟩ (j : Int) = needless ⟨qn, cur⟩ j := by unfold needlessI; rw [decide_eq_true (by omega)]; rfl
          have hT : trimGo qn (j + 1) cur = trimGo qn j (if needless ⟨qn, cur⟩ j then del cur j else cur) := rfl
          cases hne : needless ⟨qn, cur⟩ j
          · have Hne : Hid (needlessI ⟨qn, cur⟩ (j : Int) = false) := by rw [hnI]; exact hne
            have Hqs2 : Hid (trimGo qn j cur = qs) := by rw [← Hqs.out, hT, hne]; rfl
            clear hT hnI hne
            go_wp2_with (go_at_call 41; go_fit (sNeedlessOk_c ⟨qn, cur⟩ (j : Int) A2 g2 0 c2 _ _ (by dsimp only; omega) hcap hc63 (Nat.le_refl _) hrd); rintro e w5 ⟨rfl, hb5⟩; rw [Hne.out]; have hO5 := hO.below hb5)
            go_roundg (j + 1)
            case measure => go_light; omega
            case rel => go_light; exact ⟨j, _, cur, A2, c2, rfl, rfl, rfl, by omega, hl16, Hp, Hqs2, hO5⟩
          · have Hne : Hid (needlessI ⟨qn, cur⟩ (j : Int) = true) := by rw [hnI]; exact hne
            obtain ⟨ds, hds⟩ : ∃ ds, del cur j = ds := ⟨_, rfl⟩
            have Hqs2 : Hid (trimGo qn j ds = qs) := by rw [← Hqs.out, hT, hne, ← hds]; rfl
            have Hp2 : Hid (planOk ⟨qn, ds⟩ = true) := by rw [← hds]; exact del_ok Hp.out j
            have hdl : ds.length = cur.length - 1 := by rw [← hds]; exact del_length (by omega)
            have hd2 : j ≤ ds.length ∧ ds.length ≤ 16 := by omega
            have Hds := hide hds
            clear hT hnI hne hds hdl
            go_upto_region 6 with (first
              | (go_at_call 41; go_fit (sNeedlessOk_c ⟨qn, cur⟩ (j : Int) A2 g2 0 c2 _ _ (by dsimp only; omega) hcap hc63 (Nat.le_refl _) hrd); rintro e w5 ⟨rfl, hb5⟩; rw [Hne.out]; have hO5 := hO.below hb5; have t0 := hO5.c0; have t1 := hO5.c1; obtain ⟨g5, hrd5⟩ := hO5.reads; have hx5 := hO5.ex)
              | (go_at_call 33; go_fit (sWithout_yes ⟨qn, cur⟩ j ds Hds.out A2 g5 0 c2 _ _ Hp.out (by dsimp only; omega) hcap hc63 (Nat.le_refl _) hrd5); rintro e w6 ⟨A6, c6, g6, rfl, hx6, hown6, hb6⟩; have hO6 := hO5.below hb6; have u0 := hO6.c0; have u1 := hO6.c1; have uf0 := hO6.cf 0; have uf1 := hO6.cf 1))
            have hz5 := hO5.z.ex
            have hO7 := hO6.put (n' := qn) (own_less hown6 hO5.bel.size) (fun e => by have := (hown6.lt _ e).1; omega) (fun e => by have := (hown6.lt _ e).1; omega)
            go_wp2_with fail
            go_roundg (j + 1)
            case measure => go_light; omega
            case rel => go_light; exact ⟨j, _, ds, A6, c6, rfl, rfl, rfl, hd2.1, hd2.2, Hp2, Hqs2, hO7⟩
end Go.Proofs.Ytmnajkhoacogjaa
