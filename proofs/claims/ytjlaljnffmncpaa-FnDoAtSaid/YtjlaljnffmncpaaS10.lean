/-
  spec: DoAt.
-/
import Derived.Test.YtjlaljnffmncpaaS8
import Derived.Test.YtjlaljnffmncpaaS7
import Derived.Test.YtjlaljnffmncpaaL15
namespace Go.Proofs.Ytjlaljnffmncpaa
set_option linter.unusedVariables false
set_option linter.unusedSimpArgs false
open Go.RowKit Pp


set_option maxHeartbeats 4000000 in
set_option maxRecDepth 100000 in
theorem sDoAt_c (p : Pl) (s : St) (pt t : Int) (q : St) (r : Bool) (hq : doAt p s pt t = (q, r)) (A A' : Option Addr) (b o c b' o' c' B : Nat) (w : World) (hn : p.bs.length ≤ 2000000) (hn' : s.done.length ≤ 2000000) (hB : B ≤ w.heap.size) (hR : BdsR w B b o A p.bs) (hR' : IntsR w B b' o' A' s.done) :
    Calls Try.prog 62 #[.agg #[.int .i64 p.n, .slice A p.bs.length c], .agg #[.int .i64 s.now, .slice A' s.done.length c'], .int .i64 pt, .int .i64 t] w fun e w' =>
      ∃ A1 c1 g1, e = .returned (.tuple #[.agg #[.int .i64 q.now, .slice A1 q.done.length c1], .bool r]) ∧ IntsR w' w'.heap.size g1 0 A1 q.done ∧ OwnI w.heap.size w' (.slice A1 q.done.length c1) q.done ∧ Below w.heap.size w w' := by
  obtain ⟨i0, hi0, hz0, hz1, hz2⟩ := info_parts infoI
  have hD0 := db_new (t := 25) (t' := 70) (n := p.n) (now := s.now) (c := c) (c' := c') hB hR hR'
  have hD := hD0.alloc (.cells #[.int .i64 0, .slice none 0 0] 70)
  have hZ : ZB w (((w.alloc (.cells #[.int .i64 p.n, .slice A p.bs.length c] 25)).alloc (.cells #[.int .i64 s.now, .slice A' s.done.length c'] 70)).alloc (.cells #[.int .i64 0, .slice none 0 0] 70)) (w.heap.size + 1 + 1) := by
    have h := zb_new (w0 := w) (W := (w.alloc (.cells #[.int .i64 p.n, .slice A p.bs.length c] 25)).alloc (.cells #[.int .i64 s.now, .slice A' s.done.length c'] 70)) (t := 70) hD0.bel.size
    simp only [World.size_alloc] at h
    exact h
  clear hR hR' hD0
  cases h1 : stateOk p s
  · have e : doAt p s pt t = (⟨0, []⟩, false) := by unfold doAt; rw [h1]; rfl
    rw [e] at hq
    injection hq with e1 e2
    subst e1 e2
    have H1 := hide h1
    clear h1 e
    go_enter Try.func62, Try.ntmps62
    go_upto_region 1 with fail
    generalize ((w.alloc (.cells #[.int .i64 p.n, .slice A p.bs.length c] 25)).alloc (.cells #[.int .i64 s.now, .slice A' s.done.length c'] 70)).alloc (.cells #[.int .i64 0, .slice none 0 0] 70) = W at hD hZ ⊢
    have p0 := hD.p.c0
    have p1 := hD.p.c1
    have s0 := hD.s.c0
    have s1 := hD.s.c1
    generalize w.heap.size + 1 + 1 = Y at hZ ⊢
    go_wp2_with (go_at_call 132; go_fit (sStateOk_c p s A A' b o c b' o' c' _ _ hn hn' (Nat.le_refl _) hD.p.rd hD.s.rd); rintro e w2 ⟨rfl, hb2⟩; rw [H1.out]; replace hD := hD.below hb2; clear p0 p1 s0 s1; have p0 := hD.p.c0; have p1 := hD.p.c1; have s0 := hD.s.c0; have s1 := hD.s.c1; replace hZ := hZ.below hb2; have z0 := hZ.z0; have z1 := hZ.z1; have zf0 := hZ.zf 0; have zf1 := hZ.zf 1)
    obtain ⟨r0, r1, ho, hb7⟩ := hZ.finI (n := 0) (A := none) (c := 0) (xs := []) hD.bel (World.ownsRow_nil _ _ _ _) (by simp [Value.ownBlock])
    simp only [List.length_nil] at r0 r1 ho hb7
    refine bodyPost_ret (v := .tuple #[.agg #[.int .i64 0, .slice none 0 0], .bool false]) (by simp [results, Try.results62, go_sem, r0, r1]) rfl ?_
    exact ⟨none, 0, 0, rfl, IntsR.nil _ _ _, ho, hb7⟩
  · have hs := stateOk_iff.1 h1
    obtain ⟨lo, hlo⟩ : ∃ x, (window p s pt).1 = x := ⟨_, rfl⟩
    obtain ⟨hi, hhi⟩ : ∃ x, (window p s pt).2.1 = x := ⟨_, rfl⟩
    obtain ⟨ok, hok⟩ : ∃ x, (window p s pt).2.2 = x := ⟨_, rfl⟩
    obtain ⟨rd, hrd⟩ : ∃ x, isReady p s pt = x := ⟨_, rfl⟩
    obtain ⟨dl, hdl⟩ : ∃ x, deadline p s = x := ⟨_, rfl⟩
    obtain ⟨iw, hiw⟩ : ∃ x, inB t lo hi = x := ⟨_, rfl⟩
    have hm : mayDo p s pt t = (rd && iw && decide (t ≤ dl) && decide (t ≤ 2000)) := by unfold mayDo; rw [hlo, hhi, hrd, hdl, hiw]
    have hop : rd = true → 0 ≤ pt ∧ pt < s.done.length := by
      intro h
      have h2 : openB s.done pt = true := by rw [h] at hrd; unfold isReady at hrd; rw [Bool.and_eq_true, Bool.and_eq_true] at hrd; exact hrd.1.2
      exact (openB_iff.1 h2).1
    unfold doAt at hq
    rw [h1, if_pos rfl, hm] at hq
    have H1 := hide h1
    have Hlo := hide hlo
    have Hhi := hide hhi
    have Hok := hide hok
    have Hrd := hide hrd
    have Hdl := hide hdl
    have Hiw := hide hiw
    clear h1 hlo hhi hok hrd hdl hiw hm
    go_enter Try.func62, Try.ntmps62
    go_upto_region 1 with fail
    generalize ((w.alloc (.cells #[.int .i64 p.n, .slice A p.bs.length c] 25)).alloc (.cells #[.int .i64 s.now, .slice A' s.done.length c'] 70)).alloc (.cells #[.int .i64 0, .slice none 0 0] 70) = W at hD hZ ⊢
    have p0 := hD.p.c0
    have p1 := hD.p.c1
    have s0 := hD.s.c0
    have s1 := hD.s.c1
    have hYw : w.heap.size + 1 < w.heap.size + 1 + 1 := by omega
    generalize w.heap.size + 1 + 1 = Y at hZ hYw ⊢
    go_upto_region 4 with (first
      | (go_at_call 132; go_fit (sStateOk_c p s A A' b o c b' o' c' _ _ hn hn' (Nat.le_refl _) hD.p.rd hD.s.rd); rintro e w2 ⟨rfl, hb2⟩; rw [H1.out]; replace hD := hD.below hb2; clear p0 p1 s0 s1; have p0 := hD.p.c0; have p1 := hD.p.c1; have s0 := hD.s.c0; have s1 := hD.s.c1; replace hZ := hZ.below hb2)
      | (go_at_call 127; go_fit (sWindowOf_c p s pt A A' b o c b' o' c' _ _ hn hn' (Nat.le_refl _) hD.p.rd hD.s.rd); rintro e wx ⟨rfl, hb3⟩; rw [Hlo.out, Hhi.out, Hok.out]; replace hD := hD.below hb3; clear p0 p1 s0 s1; have p0 := hD.p.c0; have p1 := hD.p.c1; have s0 := hD.s.c0; have s1 := hD.s.c1; replace hZ := hZ.below hb3))
    clear hb2 hb3
    have z0 := hZ.z0
    have z1 := hZ.z1
    have zf0 := hZ.zf 0
    have zf1 := hZ.zf 1
    cases hrd : rd
    · subst hrd
      simp only [Bool.false_and, Bool.false_eq_true, if_false] at hq
      injection hq with e1 e2
      subst e1 e2
      go_upto_region 5 with (go_at_call 133; go_fit (sReadyOk_c p s _ A A' b o c b' o' c' _ _ hn hn' (Nat.le_refl _) hD.p.rd hD.s.rd); rintro e wx ⟨rfl, hbx⟩; rw [Hrd.out]; replace hD := hD.below hbx; clear p0 p1 s0 s1; have p0 := hD.p.c0; have p1 := hD.p.c1; have s0 := hD.s.c0; have s1 := hD.s.c1; replace hZ := hZ.below hbx; clear z0 z1 zf0 zf1; have z0 := hZ.z0; have z1 := hZ.z1; have zf0 := hZ.zf 0; have zf1 := hZ.zf 1)
      have hYx := hZ.ex
      have hXx := hD.s.ex
      have hWx := hD.bel.size
      clear p0 p1
      go_region_held3 (fun w' => w'.cell? ⟨w.heap.size + 1, 0, none⟩ = some (.int .i64 s.now) ∧ w'.cell? ⟨w.heap.size + 1, 1, none⟩ = some (.slice A' s.done.length c'))
        (first
          | (go_split_ands; (repeat' apply And.intro) <;> first | assumption | exact (set_other (by dsimp only; omega)).trans ((set_other (by dsimp only; omega)).trans (by assumption)) | exact (World.cell?_alloc_past _ _ _ (by first | omega | (simp only [World.size_alloc, World.size_drew]; done) | (simp only [World.size_alloc, World.size_drew]; omega))).trans (by assumption))
          | (go_keep; done))
        ((refine app_step _ rfl (.tmp 52) (.tmp 54) _ rfl wx.heap.size 3 i0 _ 1 8 Try.underlying44 hi0 hz0 hz1 hz2 rfl (by omega) (.slice (some ⟨wx.heap.size, 0, none⟩) 0 0) 0 [] (Eq.refl _) ?_ A' s.done.length c' (s.done.map (Value.int .i64)) (Eq.refl _) (by simp) ?_ (ints_one s.done) (by omega) (by omega) ?_ ?_
          · exact own_empty (at_new (w := wx) rfl) (by omega)
          · exact (hD.s.rd.below (show Below wx.heap.size wx _ by go_grown)).news
          · exact (by first | omega | (simp only [World.size_alloc, World.size_drew]; done) | (simp only [World.size_alloc, World.size_drew]; omega))
          intro A4 c4 w4 hown4 hg4 hat4
          simp only [Nat.zero_add, List.nil_append] at hown4 hat4 ⊢
          have hb4 : Below wx.heap.size wx w4 := (show Below wx.heap.size wx _ by go_grown).grown hg4 (by first | omega | (simp only [World.size_alloc, World.size_drew]; done) | (simp only [World.size_alloc, World.size_drew]; omega)) (fun q hq => by have e := Option.some.inj hq; subst e; dsimp only; omega)
          have hZ4 := hZ.below hb4
          have hD4 := hD.below hb4
          have k0 := hD4.s.c0
          have k1 := hD4.s.c1
          have y0 := hZ4.z0
          have y1 := hZ4.z1
          have yf0 := hZ4.zf 0
          have yf1 := hZ4.zf 1))
      all_goals (
        obtain ⟨r0, r1, ho, hb9⟩ := hZ4.finI (n := s.now) (A := A4) (c := c4) (xs := s.done) hD4.bel (own_less hown4 hWx) (fun e => by have := (hown4.lt _ e).1; omega)
        go_wp2_with fail
        refine bodyPost_ret (v := .tuple #[.agg #[.int .i64 s.now, .slice A4 s.done.length c4], .bool false]) (by simp [results, Try.results62, go_sem, r0, r1]) rfl ?_
        obtain ⟨g9, hr9⟩ := own_IntsR ho
        exact ⟨_, _, g9, rfl, hr9, ho, hb9⟩)
    · subst hrd
      cases hiw : iw
      · subst hiw
        simp only [Bool.and_false, Bool.false_and, Bool.false_eq_true, if_false] at hq
        injection hq with e1 e2
        subst e1 e2
        go_upto_region 5 with (first
          | (go_at_call 133; go_fit (sReadyOk_c p s _ A A' b o c b' o' c' _ _ hn hn' (Nat.le_refl _) hD.p.rd hD.s.rd); rintro e wx ⟨rfl, hbx⟩; rw [Hrd.out]; replace hD := hD.below hbx; clear p0 p1 s0 s1; have p0 := hD.p.c0; have p1 := hD.p.c1; have s0 := hD.s.c0; have s1 := hD.s.c1; replace hZ := hZ.below hbx; clear z0 z1 zf0 zf1; have z0 := hZ.z0; have z1 := hZ.z1; have zf0 := hZ.zf 0; have zf1 := hZ.zf 1)
          | (go_at_call 112; go_fit (l1In_c t lo hi _); rintro e w0 ⟨rfl, rfl⟩; rw [Hiw.out]))
        have hYx := hZ.ex
        have hXx := hD.s.ex
        have hWx := hD.bel.size
        clear p0 p1
        go_region_held3 (fun w' => w'.cell? ⟨w.heap.size + 1, 0, none⟩ = some (.int .i64 s.now) ∧ w'.cell? ⟨w.heap.size + 1, 1, none⟩ = some (.slice A' s.done.length c'))
          (first
            | (go_split_ands; (repeat' apply And.intro) <;> first | assumption | exact (set_other (by dsimp only; omega)).trans ((set_other (by dsimp only; omega)).trans (by assumption)) | exact (World.cell?_alloc_past _ _ _ (by first | omega | (simp only [World.size_alloc, World.size_drew]; done) | (simp only [World.size_alloc, World.size_drew]; omega))).trans (by assumption))
            | (go_keep; done))
          ((refine app_step _ rfl (.tmp 52) (.tmp 54) _ rfl wx.heap.size 3 i0 _ 1 8 Try.underlying44 hi0 hz0 hz1 hz2 rfl (by omega) (.slice (some ⟨wx.heap.size, 0, none⟩) 0 0) 0 [] (Eq.refl _) ?_ A' s.done.length c' (s.done.map (Value.int .i64)) (Eq.refl _) (by simp) ?_ (ints_one s.done) (by omega) (by omega) ?_ ?_
            · exact own_empty (at_new (w := wx) rfl) (by omega)
            · exact (hD.s.rd.below (show Below wx.heap.size wx _ by go_grown)).news
            · exact (by first | omega | (simp only [World.size_alloc, World.size_drew]; done) | (simp only [World.size_alloc, World.size_drew]; omega))
            intro A4 c4 w4 hown4 hg4 hat4
            simp only [Nat.zero_add, List.nil_append] at hown4 hat4 ⊢
            have hb4 : Below wx.heap.size wx w4 := (show Below wx.heap.size wx _ by go_grown).grown hg4 (by first | omega | (simp only [World.size_alloc, World.size_drew]; done) | (simp only [World.size_alloc, World.size_drew]; omega)) (fun q hq => by have e := Option.some.inj hq; subst e; dsimp only; omega)
            have hZ4 := hZ.below hb4
            have hD4 := hD.below hb4
            have k0 := hD4.s.c0
            have k1 := hD4.s.c1
            have y0 := hZ4.z0
            have y1 := hZ4.z1
            have yf0 := hZ4.zf 0
            have yf1 := hZ4.zf 1))
        all_goals (
          obtain ⟨r0, r1, ho, hb9⟩ := hZ4.finI (n := s.now) (A := A4) (c := c4) (xs := s.done) hD4.bel (own_less hown4 hWx) (fun e => by have := (hown4.lt _ e).1; omega)
          go_wp2_with fail
          refine bodyPost_ret (v := .tuple #[.agg #[.int .i64 s.now, .slice A4 s.done.length c4], .bool false]) (by simp [results, Try.results62, go_sem, r0, r1]) rfl ?_
          obtain ⟨g9, hr9⟩ := own_IntsR ho
          exact ⟨_, _, g9, rfl, hr9, ho, hb9⟩)
      · subst hiw
        by_cases hd : t ≤ dl
        · by_cases h2 : t ≤ 2000
          · obtain ⟨q1, q2⟩ := hop rfl
            obtain ⟨k, rfl⟩ : ∃ k : Nat, pt = (k : Int) := ⟨pt.toNat, by omega⟩
            have hk : k < s.done.length := by omega
            rw [decide_eq_true hd, decide_eq_true h2, Int.toNat_natCast] at hq
            simp only [Bool.and_self, if_true] at hq
            obtain ⟨ys, hys⟩ : ∃ ys, s.done.set k t = ys := ⟨_, rfl⟩
            have Hlen : Hid (ys.length = s.done.length) := by rw [← hys]; exact List.length_set
            have Hys := hide hys
            rw [hys] at hq
            clear hys
            injection hq with e1 e2
            subst e1 e2
            go_upto_region 6 with (first
              | (go_at_call 133; go_fit (sReadyOk_c p s _ A A' b o c b' o' c' _ _ hn hn' (Nat.le_refl _) hD.p.rd hD.s.rd); rintro e wx ⟨rfl, hbx⟩; rw [Hrd.out]; replace hD := hD.below hbx; clear p0 p1 s0 s1; have p0 := hD.p.c0; have p1 := hD.p.c1; have s0 := hD.s.c0; have s1 := hD.s.c1; replace hZ := hZ.below hbx; clear z0 z1 zf0 zf1; have z0 := hZ.z0; have z1 := hZ.z1; have zf0 := hZ.zf 0; have zf1 := hZ.zf 1)
              | (go_at_call 112; go_fit (l1In_c t lo hi _); rintro e w0 ⟨rfl, rfl⟩; rw [Hiw.out])
              | (go_at_call 134; go_fit (sDeadlineOf_c p s A A' b o c b' o' c' _ _ hn hn' (Nat.le_refl _) hD.p.rd hD.s.rd); rintro e wx ⟨rfl, hbx⟩; rw [Hdl.out]; replace hD := hD.below hbx; clear p0 p1 s0 s1; have p0 := hD.p.c0; have p1 := hD.p.c1; have s0 := hD.s.c0; have s1 := hD.s.c1; replace hZ := hZ.below hbx; clear z0 z1 zf0 zf1; have z0 := hZ.z0; have z1 := hZ.z1; have zf0 := hZ.zf 0; have zf1 := hZ.zf 1))
            have hYx := hZ.ex
            have hXx := hD.s.ex
            have hWx := hD.bel.size
            clear p0 p1
            go_upto_region 7 with (at_builtin
                                   refine app_list _ rfl (.tmp 58) (.tmp 60) _ rfl wx.heap.size 3 i0 _ 1 8 Try.underlying44 hi0 hz0 hz1 hz2 rfl (by omega) (.slice (some ⟨wx.heap.size, 0, none⟩) 0 0) 0 [] (Eq.refl _) (own_empty (at_new (w := wx) rfl) (by omega)) A' s.done.length c' (s.done.map (Value.int .i64)) (Eq.refl _) (by simp) ((hD.s.rd.below (show Below wx.heap.size wx _ by go_grown)).news) (ints_one s.done) (by omega) (by omega) (by first | omega | (simp only [World.size_alloc, World.size_drew]; done) | (simp only [World.size_alloc, World.size_drew]; omega)) ?_
                                   intro A4 c4 w4 hown4 hg4 hat4
                                   simp only [Nat.zero_add, List.nil_append] at hown4 hat4 ⊢
                                   have hb4 : Below wx.heap.size wx w4 := (show Below wx.heap.size wx _ by go_grown).grown hg4 (by first | omega | (simp only [World.size_alloc, World.size_drew]; done) | (simp only [World.size_alloc, World.size_drew]; omega)) (fun q hq => by have e := Option.some.inj hq; subst e; dsimp only; omega)
                                   replace hZ := hZ.below hb4
                                   replace hD := hD.below hb4)
            obtain ⟨g, hr4⟩ := own_IntsR hown4
            obtain ⟨hO, hbO⟩ := os_new (t := 70) (now := t) hb4.size hr4 hown4
            replace hD := hD.below hbO
            replace hZ := hZ.below hbO
            have hneY : (Value.slice A4 s.done.length c4).ownBlock ≠ some Y := fun e => by have := (hown4.lt _ e).1; omega
            clear hown4 hg4 hat4 hbO hr4 z0 z1 zf0 zf1 s0 s1
            have hZ4 := hb4.size
            generalize w4.alloc (.cells #[.int .i64 t, .slice A4 s.done.length c4] 70) = W5 at hD hZ hO ⊢
            generalize w4.heap.size = Z at hO hZ4 ⊢
            have hA := hO.rs.rd.addr (by omega)
            have hown := hO.own
            subst hA
            obtain ⟨ho2, c2, f2⟩ := own_setI (k := k) t hown hk
            have hBg : wx.heap.size ≤ g := (hown.lt g rfl).1
            have hgZ : Z ≠ g := fun e => hO.ne (by rw [e]; rfl)
            have o0 := hO.rs.c0
            have o1 := hO.rs.c1
            have e0 : (W5.setCell ⟨g, k, none⟩ (.int .i64 t)).cell? ⟨Z, 0, none⟩ = some (.int .i64 t) := (set_other (by dsimp only; omega)).trans o0
            have e1 : (W5.setCell ⟨g, k, none⟩ (.int .i64 t)).cell? ⟨Z, 1, none⟩ = some (.slice (some ⟨g, 0, none⟩) s.done.length c4) := (set_other (by dsimp only; omega)).trans o1
            have hb9 : Below w.heap.size w (W5.setCell ⟨g, k, none⟩ (.int .i64 t)) := hD.bel.setCell (p := ⟨g, k, none⟩) (Nat.le_trans hWx hBg) _
            have hZ9 : ZB w (W5.setCell ⟨g, k, none⟩ (.int .i64 t)) Y := hZ.grown (grown_set _ ⟨g, k, none⟩ _) (fun q hq => by cases hq; dsimp only; omega)
            have y0 := hZ9.z0
            have y1 := hZ9.z1
            have yf0 := hZ9.zf 0
            have yf1 := hZ9.zf 1
            rw [Hys.out, Hlen.out] at ho2
            obtain ⟨r0, r1, ho, hb7⟩ := hZ9.finI (n := t) (A := some ⟨g, 0, none⟩) (c := c4) (xs := ys) hb9 (by rw [Hlen.out]; exact own_less ho2 hWx) (by rw [Hlen.out]; exact hneY)
            rw [Hlen.out] at r0 r1 ho hb7
            have Hho := hide ho
            clear ho ho2 hown
            go_wp2_with fail
            refine bodyPost_ret (v := .tuple #[.agg #[.int .i64 t, .slice (some ⟨g, 0, none⟩) s.done.length c4], .bool true]) (by simp [results, Try.results62, go_sem, r0, r1]) rfl ?_
            have ho := Hho.out
            rw [← Hlen.out] at ho hb7 ⊢
            obtain ⟨g9, hr9⟩ := own_IntsR ho
            first | exact ⟨some ⟨g, 0, none⟩, c4, g9, rfl, hr9, ho, hb7⟩ | exact ⟨some ⟨g, 0, none⟩, c4, rfl, ⟨g9, hr9⟩, ho, hb7⟩
          · rw [decide_eq_false h2] at hq
            simp only [Bool.and_false, Bool.false_eq_true, if_false] at hq
            injection hq with e1 e2
            subst e1 e2
            go_upto_region 5 with (first
              | (go_at_call 133; go_fit (sReadyOk_c p s _ A A' b o c b' o' c' _ _ hn hn' (Nat.le_refl _) hD.p.rd hD.s.rd); rintro e wx ⟨rfl, hbx⟩; rw [Hrd.out]; replace hD := hD.below hbx; clear p0 p1 s0 s1; have p0 := hD.p.c0; have p1 := hD.p.c1; have s0 := hD.s.c0; have s1 := hD.s.c1; replace hZ := hZ.below hbx; clear z0 z1 zf0 zf1; have z0 := hZ.z0; have z1 := hZ.z1; have zf0 := hZ.zf 0; have zf1 := hZ.zf 1)
              | (go_at_call 112; go_fit (l1In_c t lo hi _); rintro e w0 ⟨rfl, rfl⟩; rw [Hiw.out])
              | (go_at_call 134; go_fit (sDeadlineOf_c p s A A' b o c b' o' c' _ _ hn hn' (Nat.le_refl _) hD.p.rd hD.s.rd); rintro e wx ⟨rfl, hbx⟩; rw [Hdl.out]; replace hD := hD.below hbx; clear p0 p1 s0 s1; have p0 := hD.p.c0; have p1 := hD.p.c1; have s0 := hD.s.c0; have s1 := hD.s.c1; replace hZ := hZ.below hbx; clear z0 z1 zf0 zf1; have z0 := hZ.z0; have z1 := hZ.z1; have zf0 := hZ.zf 0; have zf1 := hZ.zf 1))
            have hYx := hZ.ex
            have hXx := hD.s.ex
            have hWx := hD.bel.size
            clear p0 p1
            go_region_held3 (fun w' => w'.cell? ⟨w.heap.size + 1, 0, none⟩ = some (.int .i64 s.now) ∧ w'.cell? ⟨w.heap.size + 1, 1, none⟩ = some (.slice A' s.done.length c'))
              (first
                | (go_split_ands; (repeat' apply And.intro) <;> first | assumption | exact (set_other (by dsimp only; omega)).trans ((set_other (by dsimp only; omega)).trans (by assumption)) | exact (World.cell?_alloc_past _ _ _ (by first | omega | (simp only [World.size_alloc, World.size_drew]; done) | (simp only [World.size_alloc, World.size_drew]; omega))).trans (by assumption))
                | (go_keep; done))
              ((refine app_step _ rfl (.tmp 52) (.tmp 54) _ rfl wx.heap.size 3 i0 _ 1 8 Try.underlying44 hi0 hz0 hz1 hz2 rfl (by omega) (.slice (some ⟨wx.heap.size, 0, none⟩) 0 0) 0 [] (Eq.refl _) ?_ A' s.done.length c' (s.done.map (Value.int .i64)) (Eq.refl _) (by simp) ?_ (ints_one s.done) (by omega) (by omega) ?_ ?_
                · exact own_empty (at_new (w := wx) rfl) (by omega)
                · exact (hD.s.rd.below (show Below wx.heap.size wx _ by go_grown)).news
                · exact (by first | omega | (simp only [World.size_alloc, World.size_drew]; done) | (simp only [World.size_alloc, World.size_drew]; omega))
                intro A4 c4 w4 hown4 hg4 hat4
                simp only [Nat.zero_add, List.nil_append] at hown4 hat4 ⊢
                have hb4 : Below wx.heap.size wx w4 := (show Below wx.heap.size wx _ by go_grown).grown hg4 (by first | omega | (simp only [World.size_alloc, World.size_drew]; done) | (simp only [World.size_alloc, World.size_drew]; omega)) (fun q hq => by have e := Option.some.inj hq; subst e; dsimp only; omega)
                have hZ4 := hZ.below hb4
                have hD4 := hD.below hb4
                have k0 := hD4.s.c0
                have k1 := hD4.s.c1
                have y0 := hZ4.z0
                have y1 := hZ4.z1
                have yf0 := hZ4.zf 0
                have yf1 := hZ4.zf 1))
            all_goals (
              obtain ⟨r0, r1, ho, hb9⟩ := hZ4.finI (n := s.now) (A := A4) (c := c4) (xs := s.done) hD4.bel (own_less hown4 hWx) (fun e => by have := (hown4.lt _ e).1; omega)
              go_wp2_with fail
              refine bodyPost_ret (v := .tuple #[.agg #[.int .i64 s.now, .slice A4 s.done.length c4], .bool false]) (by simp [results, Try.results62, go_sem, r0, r1]) rfl ?_
              obtain ⟨g9, hr9⟩ := own_IntsR ho
              exact ⟨_, _, g9, rfl, hr9, ho, hb9⟩)
        · rw [decide_eq_false hd] at hq
          simp only [Bool.and_false, Bool.false_and, Bool.false_eq_true, if_false] at hq
          injection hq with e1 e2
          subst e1 e2
          go_upto_region 5 with (first
            | (go_at_call 133; go_fit (sReadyOk_c p s _ A A' b o c b' o' c' _ _ hn hn' (Nat.le_refl _) hD.p.rd hD.s.rd); rintro e wx ⟨rfl, hbx⟩; rw [Hrd.out]; replace hD := hD.below hbx; clear p0 p1 s0 s1; have p0 := hD.p.c0; have p1 := hD.p.c1; have s0 := hD.s.c0; have s1 := hD.s.c1; replace hZ := hZ.below hbx; clear z0 z1 zf0 zf1; have z0 := hZ.z0; have z1 := hZ.z1; have zf0 := hZ.zf 0; have zf1 := hZ.zf 1)
            | (go_at_call 112; go_fit (l1In_c t lo hi _); rintro e w0 ⟨rfl, rfl⟩; rw [Hiw.out])
            | (go_at_call 134; go_fit (sDeadlineOf_c p s A A' b o c b' o' c' _ _ hn hn' (Nat.le_refl _) hD.p.rd hD.s.rd); rintro e wx ⟨rfl, hbx⟩; rw [Hdl.out]; replace hD := hD.below hbx; clear p0 p1 s0 s1; have p0 := hD.p.c0; have p1 := hD.p.c1; have s0 := hD.s.c0; have s1 := hD.s.c1; replace hZ := hZ.below hbx; clear z0 z1 zf0 zf1; have z0 := hZ.z0; have z1 := hZ.z1; have zf0 := hZ.zf 0; have zf1 := hZ.zf 1))
          have hYx := hZ.ex
          have hXx := hD.s.ex
          have hWx := hD.bel.size
          clear p0 p1
          go_region_held3 (fun w' => w'.cell? ⟨w.heap.size + 1, 0, none⟩ = some (.int .i64 s.now) ∧ w'.cell? ⟨w.heap.size + 1, 1, none⟩ = some (.slice A' s.done.length c'))
            (first
              | (go_split_ands; (repeat' apply And.intro) <;> first | assumption | exact (set_other (by dsimp only; omega)).trans ((set_other (by dsimp only; omega)).trans (by assumption)) | exact (World.cell?_alloc_past _ _ _ (by first | omega | (simp only [World.size_alloc, World.size_drew]; done) | (simp only [World.size_alloc, World.size_drew]; omega))).trans (by assumption))
              | (go_keep; done))
            ((refine app_step _ rfl (.tmp 52) (.tmp 54) _ rfl wx.heap.size 3 i0 _ 1 8 Try.underlying44 hi0 hz0 hz1 hz2 rfl (by omega) (.slice (some ⟨wx.heap.size, 0, none⟩) 0 0) 0 [] (Eq.refl _) ?_ A' s.done.length c' (s.done.map (Value.int .i64)) (Eq.refl _) (by simp) ?_ (ints_one s.done) (by omega) (by omega) ?_ ?_
              · exact own_empty (at_new (w := wx) rfl) (by omega)
              · exact (hD.s.rd.below (show Below wx.heap.size wx _ by go_grown)).news
              · exact (by first | omega | (simp only [World.size_alloc, World.size_drew]; done) | (simp only [World.size_alloc, World.size_drew]; omega))
              intro A4 c4 w4 hown4 hg4 hat4
              simp only [Nat.zero_add, List.nil_append] at hown4 hat4 ⊢
              have hb4 : Below wx.heap.size wx w4 := (show Below wx.heap.size wx _ by go_grown).grown hg4 (by first | omega | (simp only [World.size_alloc, World.size_drew]; done) | (simp only [World.size_alloc, World.size_drew]; omega)) (fun q hq => by have e := Option.some.inj hq; subst e; dsimp only; omega)
              have hZ4 := hZ.below hb4
              have hD4 := hD.below hb4
              have k0 := hD4.s.c0
              have k1 := hD4.s.c1
              have y0 := hZ4.z0
              have y1 := hZ4.z1
              have yf0 := hZ4.zf 0
              have yf1 := hZ4.zf 1))
          all_goals (
            obtain ⟨r0, r1, ho, hb9⟩ := hZ4.finI (n := s.now) (A := A4) (c := c4) (xs := s.done) hD4.bel (own_less hown4 hWx) (fun e => by have := (hown4.lt _ e).1; omega)
            go_wp2_with fail
            refine bodyPost_ret (v := .tuple #[.agg #[.int .i64 s.now, .slice A4 s.done.length c4], .bool false]) (by simp [results, Try.results62, go_sem, r0, r1]) rfl ?_
            obtain ⟨g9, hr9⟩ := own_IntsR ho
            exact ⟨_, _, g9, rfl, hr9, ho, hb9⟩)
end Go.Proofs.Ytjlaljnffmncpaa
