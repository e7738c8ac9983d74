/-
  The draws of the reference: DrawWayOf.
-/
import Derived.Test.YtledgblepdjjlaaD53
namespace Go.Proofs.Ytledgblepdjjlaa
set_option linter.unusedVariables false
set_option linter.unusedSimpArgs false
open Go.RowKit Pp

set_option maxHeartbeats 4000000 in
set_option maxRecDepth 100000 in
theorem drawWay_c (A0 : Option Addr) (n0 c0 : Nat) (zs : List Int) (w : World) (hn0 : n0 ≤ 1048576) (hc0 : n0 ≤ c0) (hA0 : n0 = 0 ∨ A0.isSome = true) (hb0 : BytesAt w w.heap.size A0 n0 zs) :
    Calls Try.prog 35 #[.slice A0 n0 c0] w fun e w' =>
      ∃ n A c bs A2 c2 cs A3 c3 ks b b2 b3, e = .returned (.tuple #[.agg #[.int .i64 n, .slice A bs.length c, .slice A2 cs.length c2], .slice A3 ks.length c3]) ∧ (0 ≤ n ∧ n ≤ 7) ∧ bs.length ≤ 8 ∧ cs.length ≤ 4 ∧ Hid (∀ l ∈ cs, l.length ≤ 3) ∧ cs.length ≤ c2 ∧ ks.length ≤ 5 ∧ BdsR w' w'.heap.size b 0 A bs ∧ ChR w' w'.heap.size b2 0 A2 cs ∧ IntsR w' w'.heap.size b3 0 A3 ks ∧ Below w.heap.size w w' := by
  obtain ⟨i0, hi0, hz0, hz1, hz2⟩ := info_parts infoI
  go_enter Try.func35, Try.ntmps35
  go_upto_block 0 with (first
    | (go_at_call 79; go_fit (open_c A0 n0 c0 zs _ hn0 hc0 hA0 (hb0.below (show Below w.heap.size w _ by go_grown) (by simp))); rintro e w1 ⟨rfl, hR1, hb1, hs1⟩; simp only [World.size_alloc] at hR1 hs1)
    | (go_at_call 87; go_fit (case_c _ 0 14 _ (by omega) (by omega) hR1); rintro e w2 ⟨n, A, c, bs, A2, c2, cs, rfl, hn, hlb, hsm, hlc, HL, hoB, hoC, hcp, hR2, G2⟩))
  have hRD := hR2.alloc (.cells #[.int .i64 n, .slice A bs.length c, .slice A2 cs.length c2] 37)
  have hGD := gr_alloc G2 (.cells #[.int .i64 n, .slice A bs.length c, .slice A2 cs.length c2] 37)
  have hoBD := hoB.alloc (.cells #[.int .i64 n, .slice A bs.length c, .slice A2 cs.length c2] 37)
  have hoCD := hoC.below (show Below w2.heap.size w2 (w2.alloc (.cells #[.int .i64 n, .slice A bs.length c, .slice A2 cs.length c2] 37)) by go_grown)
  have d0 : (w2.alloc (.cells #[.int .i64 n, .slice A bs.length c, .slice A2 cs.length c2] 37)).cell? ⟨w2.heap.size, 0, none⟩ = some (.int .i64 n) := by simp [go_sem]
  have d1 : (w2.alloc (.cells #[.int .i64 n, .slice A bs.length c, .slice A2 cs.length c2] 37)).cell? ⟨w2.heap.size, 1, none⟩ = some (.slice A bs.length c) := by simp [go_sem]
  have d2 : (w2.alloc (.cells #[.int .i64 n, .slice A bs.length c, .slice A2 cs.length c2] 37)).cell? ⟨w2.heap.size, 2, none⟩ = some (.slice A2 cs.length c2) := by simp [go_sem]
  have dx : w2.heap.size < (w2.alloc (.cells #[.int .i64 n, .slice A bs.length c, .slice A2 cs.length c2] 37)).heap.size := by simp
  have hs2 : w1.heap.size ≤ w2.heap.size := G2.size
  have hnx : (w2.alloc (.cells #[.int .i64 n, .slice A bs.length c, .slice A2 cs.length c2] 37)).heap.size = w2.heap.size + 1 := by simp
  try rw [← hnx]
  generalize w2.alloc (.cells #[.int .i64 n, .slice A bs.length c, .slice A2 cs.length c2] 37) = wD at hRD hGD hoBD hoCD d0 d1 d2 dx hnx ⊢
  generalize w2.heap.size = D at d0 d1 d2 hs2 dx hnx ⊢
  clear hR2 G2 hoB hoC hR1 hb0 hnx
  have hL : LQ wD (wD.alloc (.cells #[] 3)) (w.heap.size + 1) (0 + 300) (.slice (some ⟨wD.heap.size, 0, none⟩) 0 0) [] := ⟨hRD.alloc _, gr_new wD _ _, by omega, own_empty (at_new rfl) (Nat.le_refl _)⟩
  generalize wD.alloc (.cells #[] 3) = W at hL ⊢
  go_cut [6] (fun s wx => ∃ A3 c3 xs, xs.length ≤ 4 ∧ s = .slice A3 xs.length c3 ∧ LQ wD wx (w.heap.size + 1) 400 s xs)
  case first =>
    go_wp2_with fail
    go_loopg [6, 7] cs.length (fun gh s i wr => ∃ (k : Nat) (A3 : Option Addr) (c3 : Nat) (xs : List Int), k ≤ cs.length ∧ gh = cs.length - k ∧ i = .int .i64 k ∧ xs.length ≤ k ∧ s = .slice A3 xs.length c3 ∧ LQ wD wr (w.heap.size + 1) (300 + 2 * k) s xs)
    case atStart => exact ⟨0, _, _, [], Nat.zero_le _, rfl, rfl, Nat.le_refl _, rfl, hL.more (by omega)⟩
    case round =>
      clear hL
      obtain ⟨k, A3, c3, xs, hk, rfl, rfl, hxk, rfl, hL⟩ := hrel
      have e2 := far_cell hL.gr (x := .slice A2 cs.length c2) d2 (by omega)
      obtain ⟨b2, hrc⟩ := (hoCD.far hL.gr (by omega)).reads
      by_cases hlk : k < cs.length
      · have hlk' : (k : Int) < (cs.length : Int) := by omega
        have hk0 : (0 : Int) ≤ (k : Int) := by omega
        obtain rfl := hrc.addr (by omega)
        have hx := List.getElem?_eq_getElem hlk
        obtain ⟨A4, b4, o4, c4, hcell, -⟩ := hrc.row k _ hx
        rw [Nat.zero_add] at hcell
        have hl3 := HL.out _ (List.getElem_mem hlk)
        generalize cs[k] = l at hcell hl3
        clear hx hrc
        obtain ⟨mx, hmx, hmx0, hmx1⟩ : ∃ mx, (if (l.length : Int) < 1 then (1 : Int) else (l.length : Int)) = mx ∧ 1 ≤ mx ∧ mx ≤ 3 := ⟨_, rfl, by split <;> omega, by split <;> omega⟩
        have hDg : D ≠ w.heap.size + 1 := by omega
        go_upto_region 6 with (first
          | (go_at_call 88; go_fit (pick_c (w.heap.size + 1) _ mx _ (by omega) (by omega) hL.rd); rintro e w3 ⟨x1, rfl, b1, b2, -, hR3, G3, -⟩; replace b2 := b2 (by omega); have hL3 := hL.pick hR3 G3)
          | (go_at_call 88; go_fit (pick_c (w.heap.size + 1) _ 40 _ (by omega) (by omega) hL3.rd); rintro e w4 ⟨x3, rfl, b5, b6, -, hR4, G4, -⟩; replace b6 := b6 (by omega); have hL4 := hL3.pick hR4 G4; obtain ⟨yy, hyy⟩ : ∃ yy, x1 + x3 / 39 * 3 = yy := ⟨_, rfl⟩)
          | (at_builtin; refine app_list _ rfl (.tmp 20) (.tmp 35) _ rfl wD.heap.size 3 i0 _ 1 8 Try.underlying28 hi0 hz0 hz1 hz2 rfl (by omega) (.slice A3 xs.length c3) xs.length (xs.map (Value.int .i64)) rfl (hL4.own.alloc _) _ 1 _ [.int .i64 yy] rfl rfl (NewsAt.block (cs := #[.int .i64 yy]) (at_new rfl)) (by simp [Value.oneCell']) (by omega) (by omega) (by have := hL4.gr.size; simp only [World.size_alloc]; omega) ?_; intro A5 c5 w5 hown5 hg5 hat5))
        have hlx : (xs ++ [yy]).length = xs.length + 1 := by simp
        have hL5 := (hL4.below (show Below w4.heap.size w4 (w4.alloc (.cells #[.int .i64 yy] 3)) by go_grown)).app hg5 (v' := .slice A5 (xs.length + 1) c5) (xs' := xs ++ [yy]) (by unfold OwnI; rw [hlx, List.map_append]; exact hown5)
        have Hlx := hide hlx
        clear hlx hyy
        go_wp2_with fail
        go_roundg (cs.length - (k + 1))
        case measure => go_light; omega
        case rel => go_light; exact ⟨k + 1, A5, c5, xs ++ [yy], by omega, rfl, by go_num, by rw [Hlx.out]; omega, by rw [Hlx.out], hL5.more (by omega)⟩
      · obtain rfl : k = cs.length := by omega
        go_wp2_with fail
        go_meet
        case rel => exact ⟨A3, c3, xs, by omega, rfl, hL.more (by omega)⟩
  case rest =>
    clear hL
    obtain ⟨A3, c3, xs, hl3, rfl, hL⟩ := hcut
    go_upto_if 38 with (go_at_call 89; go_fit (odd_c (w.heap.size + 1) _ 20 _ (by omega) (by omega) hL.rd); rintro e w4 ⟨ob, rfl, hR4, G4, -⟩; replace hL := hL.pick hR4 G4; clear hR4 G4)
    have hl5 : xs.length ≤ 5 := by omega
    cases ob
    · skip
      obtain ⟨⟨_, a0⟩, ⟨_, a1⟩, ⟨_, a2⟩, af, r0, r1, r2, hW, hS⟩ := box3 (x := .int .i64 n) (y := .slice A bs.length c) (z := .slice A2 cs.length c2) hb1 rfl hs1 (gr_pick hGD hL.gr) _ rfl
      have af0 := af 0
      have af1 := af 1
      have af2 := af 2
      have e0 := far_cell hL.gr (x := .int .i64 n) d0 (by omega)
      have e1 := far_cell hL.gr (x := .slice A bs.length c) d1 (by omega)
      have e2 := far_cell hL.gr (x := .slice A2 cs.length c2) d2 (by omega)
      have hoB5 := own_far hoBD hL.gr (by omega)
      have hoC5 := hoCD.far hL.gr (by omega)
      have hoI := own_less hL.own (show w1.heap.size ≤ wD.heap.size by omega)
      clear d0 d1 d2
      go_wp2_with fail
      refine bodyPost_ret (v := .tuple #[.agg #[.int .i64 n, .slice A bs.length c, .slice A2 cs.length c2], .slice A3 xs.length c3]) (by simp [results, Try.results35, go_sem, r0, r1, r2]) rfl ?_
      obtain ⟨b, hb⟩ := OwnB.readsA (own_set_low (own_set_low (own_set_low hoB5 (p := ⟨w.heap.size, 0, none⟩) (by dsimp only; omega) (.int .i64 n)) (p := ⟨w.heap.size, 1, none⟩) (by dsimp only; omega) (.slice A bs.length c)) (p := ⟨w.heap.size, 2, none⟩) (by dsimp only; omega) (.slice A2 cs.length c2))
      obtain ⟨b2', hb2⟩ := (((hoC5.set_low (p := ⟨w.heap.size, 0, none⟩) (by dsimp only; omega) (.int .i64 n)).set_low (p := ⟨w.heap.size, 1, none⟩) (by dsimp only; omega) (.slice A bs.length c)).set_low (p := ⟨w.heap.size, 2, none⟩) (by dsimp only; omega) (.slice A2 cs.length c2)).reads
      obtain ⟨b3, hb3⟩ := own_IntsR (own_set_low (own_set_low (own_set_low hoI (p := ⟨w.heap.size, 0, none⟩) (by dsimp only; omega) (.int .i64 n)) (p := ⟨w.heap.size, 1, none⟩) (by dsimp only; omega) (.slice A bs.length c)) (p := ⟨w.heap.size, 2, none⟩) (by dsimp only; omega) (.slice A2 cs.length c2))
      exact ⟨n, A, c, bs, A2, c2, cs, A3, c3, xs, b, b2', b3, rfl, hn, hlb, hlc, HL, hcp, by first | assumption | (simp; omega), hb, hb2, hb3, hW⟩
    · go_upto_region 10 with (at_builtin; refine app_list _ rfl (.tmp 39) (.tmp 40) _ rfl wD.heap.size 3 i0 _ 1 8 Try.underlying28 hi0 hz0 hz1 hz2 rfl (by omega) (.slice A3 xs.length c3) xs.length (xs.map (Value.int .i64)) rfl (hL.own.alloc _) _ 1 _ [.int .i64 0] rfl rfl (NewsAt.block (cs := #[.int .i64 0]) (at_new rfl)) (by simp [Value.oneCell']) (by omega) (by omega) (by have := hL.gr.size; simp only [World.size_alloc]; omega) ?_; intro A5 c5 w5 hown5 hg5 hat5)
      have hlx : (xs ++ [(0 : Int)]).length = xs.length + 1 := by simp
      have hL2 := (hL.below (show Below w4.heap.size w4 (w4.alloc (.cells #[.int .i64 0] 3)) by go_grown)).app hg5 (v' := .slice A5 (xs.length + 1) c5) (xs' := xs ++ [(0 : Int)]) (by unfold OwnI; rw [hlx, List.map_append]; exact hown5)
      clear hL hown5 hg5 hat5
      have hL := hL2
      clear hL2
      obtain ⟨ys, hys⟩ : ∃ ys, xs ++ [(0 : Int)] = ys := ⟨_, rfl⟩
      rw [hys] at hlx hL
      rw [← hlx] at hL ⊢
      have hl6 : ys.length ≤ 5 := by omega
      clear hys hlx
      obtain ⟨⟨_, a0⟩, ⟨_, a1⟩, ⟨_, a2⟩, af, r0, r1, r2, hW, hS⟩ := box3 (x := .int .i64 n) (y := .slice A bs.length c) (z := .slice A2 cs.length c2) hb1 rfl hs1 (gr_pick hGD hL.gr) _ rfl
      have af0 := af 0
      have af1 := af 1
      have af2 := af 2
      have e0 := far_cell hL.gr (x := .int .i64 n) d0 (by omega)
      have e1 := far_cell hL.gr (x := .slice A bs.length c) d1 (by omega)
      have e2 := far_cell hL.gr (x := .slice A2 cs.length c2) d2 (by omega)
      have hoB5 := own_far hoBD hL.gr (by omega)
      have hoC5 := hoCD.far hL.gr (by omega)
      have hoI := own_less hL.own (show w1.heap.size ≤ wD.heap.size by omega)
      clear d0 d1 d2
      go_wp2_with fail
      refine bodyPost_ret (v := .tuple #[.agg #[.int .i64 n, .slice A bs.length c, .slice A2 cs.length c2], .slice A5 ys.length c5]) (by simp [results, Try.results35, go_sem, r0, r1, r2]) rfl ?_
      obtain ⟨b, hb⟩ := OwnB.readsA (own_set_low (own_set_low (own_set_low hoB5 (p := ⟨w.heap.size, 0, none⟩) (by dsimp only; omega) (.int .i64 n)) (p := ⟨w.heap.size, 1, none⟩) (by dsimp only; omega) (.slice A bs.length c)) (p := ⟨w.heap.size, 2, none⟩) (by dsimp only; omega) (.slice A2 cs.length c2))
      obtain ⟨b2', hb2⟩ := (((hoC5.set_low (p := ⟨w.heap.size, 0, none⟩) (by dsimp only; omega) (.int .i64 n)).set_low (p := ⟨w.heap.size, 1, none⟩) (by dsimp only; omega) (.slice A bs.length c)).set_low (p := ⟨w.heap.size, 2, none⟩) (by dsimp only; omega) (.slice A2 cs.length c2)).reads
      obtain ⟨b3, hb3⟩ := own_IntsR (own_set_low (own_set_low (own_set_low hoI (p := ⟨w.heap.size, 0, none⟩) (by dsimp only; omega) (.int .i64 n)) (p := ⟨w.heap.size, 1, none⟩) (by dsimp only; omega) (.slice A bs.length c)) (p := ⟨w.heap.size, 2, none⟩) (by dsimp only; omega) (.slice A2 cs.length c2))
      exact ⟨n, A, c, bs, A2, c2, cs, A5, c5, ys, b, b2', b3, rfl, hn, hlb, hlc, HL, hcp, by first | assumption | (simp; omega), hb, hb2, hb3, hW⟩
end Go.Proofs.Ytledgblepdjjlaa
