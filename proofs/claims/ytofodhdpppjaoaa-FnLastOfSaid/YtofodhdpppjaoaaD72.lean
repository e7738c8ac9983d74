/-
  The draws of the law of LastOf: DrawLastOf.
-/
import Derived.Test.YtofodhdpppjaoaaS86
import Derived.Test.YtofodhdpppjaoaaD71
import Derived.Test.YtofodhdpppjaoaaR63
import Derived.Test.YtofodhdpppjaoaaP56
namespace Go.Proofs.Ytofodhdpppjaoaa
set_option linter.unusedVariables false
set_option linter.unusedSimpArgs false
open Go Go.RowKit Pp

theorem steps_of (t : List Mk) : -1 ≤ stepsOf t ∧ stepsOf t ≤ 20 := by
  cases ht : termOf t with
  | none =>
    have h0 : stepsOf t = -1 := by unfold stepsOf termOk; rw [ht]; rfl
    omega
  | some a =>
    have h0 := stepsOf_tm ht
    obtain ⟨hf, hm, h11⟩ := term_back ht
    have hsz : a.size ≤ 20 := by rw [← Tm.marks_len, hm]; omega
    have := steps_size a
    omega
theorem getD_in {xs : List Int} (h : ∀ y ∈ xs, -100000 ≤ y ∧ y ≤ 100000) (j : Nat) : -100000 ≤ xs.getD j 0 ∧ xs.getD j 0 ≤ 100000 := by
  rw [List.getD_eq_getElem?_getD]
  cases hx : xs[j]? with
  | none => simp
  | some y => exact h y (List.mem_of_getElem? hx)
theorem ends_in {xs : List Int} (h : ∀ y ∈ xs, -100000 ≤ y ∧ y ≤ 100000) {x : Int} (hx : -100000 ≤ x ∧ x ≤ 100000) : ∀ y ∈ xs ++ [x], -100000 ≤ y ∧ y ≤ 100000 := fun y hy => by
  rcases List.mem_append.1 hy with h1 | h1
  · exact h y h1
  · rw [List.mem_singleton.1 h1]; exact hx
namespace Pp
/-- What DrawLastOf draws. -/
def LastD (w w' : World) (v : Value) : Prop := ∃ A1 c1, ∃ t : List Mk, ∃ A2 c2, ∃ xs : List Int, v = .tuple #[.slice A1 t.length c1, .slice A2 xs.length c2] ∧ t.length ≤ 200000 ∧ t.length ≤ c1 ∧ xs.length ≤ 1000 ∧ xs.length ≤ c2 ∧ (∀ j : Nat, -100000 ≤ xs.getD j 0 ∧ xs.getD j 0 ≤ 100000) ∧ (∃ g, MkR w' w'.heap.size g 0 A1 t) ∧ (∃ g, IntsR w' w'.heap.size g 0 A2 xs)
end Pp
set_option maxHeartbeats 4000000 in
set_option maxRecDepth 100000 in
theorem drawLast_c (A : Option Addr) (n c : Nat) (zs : List Int) (w : World) (hn : n ≤ 1048576) (hc : n ≤ c) (hA : n = 0 ∨ A.isSome = true) (hb : BytesAt w w.heap.size A n zs) :
    Calls Try.prog 33 #[.slice A n c] w fun e w' => ∃ v, e = .returned v ∧ LastD w w' v ∧ Below w.heap.size w w' := by
  obtain ⟨i0, hi0, hz0, hz1, hz2⟩ := info_parts infoI
  go_enter Try.func33, Try.ntmps33
  go_upto_region 3 with (first
    | (go_at_call 38; go_fit (open_c A n c zs _ hn hc hA hb); rintro e w1 ⟨rfl, hR, hb1, hsz⟩)
    | (go_at_call 37; go_fit (term_c w.heap.size 0 9 w1 (by omega) (by omega) hR); rintro e w2 ⟨A1, c1, t, rfl, hl, hown, hR2, hG⟩))
  have hcap := own_cap hown
  have htl2 : t.length ≤ 2000000 := by omega
  obtain ⟨g1, hr2⟩ := hown.reads
  have hgs := hG.size
  have hsb := steps_of t
  obtain ⟨st, hst⟩ : ∃ st, stepsOf t = st := ⟨_, rfl⟩
  rw [hst] at hsb
  have Hst := hide hst
  clear hst hb hA hc
  have hW2 := hb1.grown hG hb1.size (fun k hk => by injection hk with hk; omega)
  have hcl := sLengthsOf_c t A1 g1 0 c1 _ w2 hcap (Nat.le_refl _) hr2 htl2
  cases hls : lensOf t with
  | none =>
    rw [hls] at hcl
    dsimp only [Option.getD, Option.isSome] at hcl
    clear hls
    go_upto_region 4 with (go_at_call 29; refine hcl.mono ?_; clear hcl; rintro e wD ⟨rfl, hb3⟩)
    have hRD := (hR2.below hb3).more (K' := 200) (by omega)
    have hownD := hown.below hb3
    have hWD := bthen hW2 hb3
    have hszD := hb3.size
    clear hR2 hown hW2 hb3 hr2 hG hb1 hR
    have hgD : w.heap.size < wD.heap.size := by omega
    go_upto_block 0 with fail
    have hL : LQ wD (wD.alloc (.cells #[] 3)) w.heap.size 200 (.slice (some ⟨wD.heap.size, 0, none⟩) 0 0) [] := ⟨hRD.alloc _, gr_new wD _ _, hgD, own_empty (at_new rfl) (Nat.le_refl _)⟩
    clear hRD
    generalize wD.alloc (.cells #[] 3) = W at hL ⊢
    go_cut [11] (fun s wx => ∃ A3 c3 xs, xs.length ≤ 20 ∧ s = .slice A3 xs.length c3 ∧ Hid (∀ y ∈ xs, -100000 ≤ y ∧ y ≤ 100000) ∧ LQ wD wx w.heap.size 400 s xs)
    case first =>
      go_wp2_with fail
      go_loopg [11, 12] 21 (fun gh s i wr => ∃ (k : Nat) (A3 : Option Addr) (c3 : Nat) (xs : List Int), k ≤ 20 ∧ gh = 21 - k ∧ i = .int .i64 k ∧ Hid (xs.length = k) ∧ s = .slice A3 k c3 ∧ Hid (∀ y ∈ xs, -100000 ≤ y ∧ y ≤ 100000) ∧ LQ wD wr w.heap.size (200 + k) s xs)
      case atStart => exact ⟨0, _, _, [], Nat.zero_le _, rfl, rfl, rfl, rfl, (fun y hy => by simp at hy), LQ.more (K := 200) hL (by omega)⟩
      case round =>
        clear hL
        obtain ⟨k, A3, c3, xs, hk, rfl, rfl, Hxl, rfl, Hxb, hL⟩ := hrel
        have hownT := own_far hownD hL.gr (show w.heap.size < w1.heap.size by omega)
        obtain ⟨g4, hr4⟩ := OwnM.reads hownT
        have hcall := sStepsOf_c t A1 g4 0 c1 _ wr (Nat.le_refl _) hr4 htl2
        rw [Hst.out] at hcall
        by_cases hlk : (k : Int) < st
        · have hlk20 : k < 20 := by omega
          clear hownT
          go_upto_region 11 with (go_at_call 65; refine hcall.mono ?_; rintro e w3 ⟨rfl, hb3⟩)
          replace hL := hL.below hb3
          clear hcall hr4 hb3
          go_upto_region 10 with (first
            | (go_at_call 63; go_fit (pick_c w.heap.size _ 12 _ (by omega) (by omega) hL.rd); rintro e w4 ⟨x1, rfl, b1, b2, -, hR3, G3, -⟩; replace b2 := b2 (by omega); have hL4 := hL.pick hR3 G3)
            | (at_builtin; refine app_list _ rfl (.tmp 51) (.tmp 54) _ rfl wD.heap.size 3 i0 _ 1 8 Try.underlying52 hi0 hz0 hz1 hz2 rfl (by omega) (.slice A3 k c3) k (xs.map (Value.int .i64)) rfl (by have := hL4.own; unfold OwnI at this; rw [Hxl.out] at this; exact this.alloc _) _ 1 _ [.int .i64 x1] rfl rfl (NewsAt.block (cs := #[.int .i64 x1]) (at_new rfl)) (by simp [Value.oneCell']) (by omega) (by omega) (by have := hL4.gr.size; simp only [World.size_alloc]; omega) ?_; intro A5 c5 w5 hown5 hg5 hat5))
          have hlx : (xs ++ [x1]).length = k + 1 := by rw [List.length_append, Hxl.out]; rfl
          have hL5 := (hL4.below (show Below w4.heap.size w4 (w4.alloc (.cells #[.int .i64 x1] 3)) by go_grown)).app hg5 (v' := .slice A5 (k + 1) c5) (xs' := xs ++ [x1]) (by unfold OwnI; rw [hlx, List.map_append]; exact hown5)
          have Hlx := hide hlx
          have Hxb2 := hide (ends_in Hxb.out (x := x1) (by omega))
          clear hlx hL hL4 hown5 hg5 hat5
          go_wp2_with fail
          go_roundg (21 - (k + 1))
          case measure => go_light; omega
          case rel => go_light; exact ⟨k + 1, A5, c5, xs ++ [x1], by omega, rfl, by go_num, Hlx, rfl, Hxb2, hL5.more (by omega)⟩
        · clear hownT
          go_wp2_with (go_at_call 65; refine hcall.mono ?_; rintro e w3 ⟨rfl, hb3⟩)
          replace hL := hL.below hb3
          go_meet
          case rel => exact ⟨A3, c3, xs, by rw [Hxl.out]; exact hk, by rw [Hxl.out], Hxb, hL.more (by omega)⟩
    case rest =>
      clear hL
      obtain ⟨A3, c3, xs, hl3, rfl, Hxb, hL⟩ := hcut
      go_upto_if 57 with (go_at_call 66; go_fit (odd_c w.heap.size _ 20 _ (by omega) (by omega) hL.rd); rintro e w4 ⟨ob, rfl, hR4, G4, -⟩; replace hL := hL.pick hR4 G4; clear hR4 G4)
      cases ob
      · skip
        have hownT := own_far hownD hL.gr (show w.heap.size < w1.heap.size by omega)
        obtain ⟨g4, hr4⟩ := OwnM.reads hownT
        obtain ⟨g5, hr5⟩ := own_IntsR hL.own
        have hcx := own_cap hL.own
        have hWX := hWD.grown hL.gr (by omega) (fun k hk => by injection hk with hk; omega)
        go_wp2_with fail
        go_ret2
        exact ⟨_, rfl, ⟨A1, c1, t, A3, c3, xs, rfl, hl, hcap, by omega, hcx, getD_in Hxb.out, ⟨g4, hr4⟩, ⟨g5, hr5⟩⟩, hWX⟩
      · go_upto_region 14 with (at_builtin; refine app_list _ rfl (.tmp 58) (.tmp 59) _ rfl wD.heap.size 3 i0 _ 1 8 Try.underlying52 hi0 hz0 hz1 hz2 rfl (by omega) (.slice A3 xs.length c3) xs.length (xs.map (Value.int .i64)) rfl (hL.own.alloc _) _ 1 _ [.int .i64 0] rfl rfl (NewsAt.block (cs := #[.int .i64 0]) (at_new rfl)) (by simp [Value.oneCell']) (by omega) (by omega) (by have := hL.gr.size; simp only [World.size_alloc]; omega) ?_; intro A5 c5 w5 hown5 hg5 hat5)
        have hlx : (xs ++ [(0 : Int)]).length = xs.length + 1 := by simp
        have hL2 := (hL.below (show Below w4.heap.size w4 (w4.alloc (.cells #[.int .i64 0] 3)) by go_grown)).app hg5 (v' := .slice A5 (xs.length + 1) c5) (xs' := xs ++ [(0 : Int)]) (by unfold OwnI; rw [hlx, List.map_append]; exact hown5)
        replace Hxb := hide (ends_in Hxb.out (x := 0) (by omega))
        clear hL hown5 hg5 hat5
        have hL := hL2
        clear hL2
        obtain ⟨ys, hys⟩ : ∃ ys, xs ++ [(0 : Int)] = ys := ⟨_, rfl⟩
        rw [hys] at hlx hL Hxb
        rw [← hlx] at hL ⊢
        have hl6 : ys.length ≤ 21 := by omega
        clear hys hlx
        have hownT := own_far hownD hL.gr (show w.heap.size < w1.heap.size by omega)
        obtain ⟨g4, hr4⟩ := OwnM.reads hownT
        obtain ⟨g5, hr5⟩ := own_IntsR hL.own
        have hcx := own_cap hL.own
        have hWX := hWD.grown hL.gr (by omega) (fun k hk => by injection hk with hk; omega)
        go_wp2_with fail
        go_ret2
        exact ⟨_, rfl, ⟨A1, c1, t, A5, c5, ys, rfl, hl, hcap, by omega, hcx, getD_in Hxb.out, ⟨g4, hr4⟩, ⟨g5, hr5⟩⟩, hWX⟩
  | some uv =>
    obtain ⟨u, v⟩ := uv
    have huv := lensOf_le hls
    rw [hls] at hcl
    dsimp only [Option.getD, Option.isSome] at hcl
    obtain ⟨huv1, huv2, huv3⟩ := huv
    have Hls := hide hls
    clear hls
    go_upto_region 4 with (go_at_call 29; refine hcl.mono ?_; clear hcl; rintro e w3 ⟨rfl, hb3⟩)
    have hR3 := hR2.below hb3
    have hown3 := hown.below hb3
    have hW3 := bthen hW2 hb3
    have hsz3 := hb3.size
    clear hR2 hown hW2 hb3 hr2 hG hb1 hR
    go_upto_if 28 with (go_at_call 63; go_fit (pick_c w.heap.size (0 + 100) 2 _ (by omega) (by omega) hR3); rintro e w4 ⟨x0, rfl, b1, b2, -, hR4, G4, hs4⟩)
    have hown4 := own_far hown3 G4 (show w.heap.size < w1.heap.size by omega)
    have hW4 := hW3.grown G4 (by omega) (fun k hk => by injection hk with hk; omega)
    have hs4' : w3.heap.size ≤ w4.heap.size := by omega
    clear hR3 hown3 hW3 G4 hs4
    by_cases hx0 : x0 = 0
    · have hx0' : (x0 == 0) = true := by simpa using hx0
      simp only [hx0']
      have hq1 : IntKind.i64.wrap (v - u) = v - u := IntWalk.i64_in _ (by omega)
      have hq2 : IntKind.i64.wrap (v - u + 1) = v - u + 1 := IntWalk.i64_in _ (by omega)
      go_upto_region 6 with (first
        | (go_at_call 63; go_fit (pick_c w.heap.size (0 + 100 + 1) (v - u + 1) _ (by omega) (by omega) hR4); rintro e w5 ⟨x1, rfl, y1, y2, -, hR5, G5, hs5⟩; have hs5' : w4.heap.size ≤ w5.heap.size := (by omega); clear hs5; replace y2 := y2 (by omega); have hq3 : IntKind.i64.wrap (u + x1) = u + x1 := (IntWalk.i64_in _ (by omega)); have hown5 := own_far hown4 G5 (show w.heap.size < w1.heap.size by omega); obtain ⟨g5, hr5⟩ := OwnM.reads hown5; have hW5 := hW4.grown G5 (by omega) (fun k hk => by injection hk with hk; omega))
        | (go_at_call 64; go_fit (sLastsFor_q t Hls.out (u + x1) (by omega) A1 g5 0 c1 _ _ hcap (Nat.le_refl _) hr5 htl2); rintro e w6 ⟨A2, c2, ys, rfl, own2, hyl, hyb, hb6⟩))
      obtain ⟨g6, hr6⟩ := own_IntsR own2
      have hr7 := MkR.next hr5 hb6
      have hcy := own_cap own2
      go_wp2_with fail
      go_ret2
      exact ⟨_, rfl, ⟨A1, c1, t, A2, c2, ys, rfl, hl, hcap, by omega, hcy, getD_in hyb, ⟨g5, hr7⟩, ⟨g6, hr6⟩⟩, bthen hW5 hb6⟩
    · have hx0' : (x0 == 0) = false := by simpa using hx0
      simp only [hx0']
      have hRD := hR4.more (K' := 200) (by omega)
      have hownD := hown4
      have hWD := hW4
      generalize w4 = wD at hRD hownD hWD hs4' ⊢
      have hszD : w2.heap.size ≤ wD.heap.size := by omega
      clear hR4 hown4 hW4
      have hgD : w.heap.size < wD.heap.size := by omega
      go_upto_block 0 with fail
      have hL : LQ wD (wD.alloc (.cells #[] 3)) w.heap.size 200 (.slice (some ⟨wD.heap.size, 0, none⟩) 0 0) [] := ⟨hRD.alloc _, gr_new wD _ _, hgD, own_empty (at_new rfl) (Nat.le_refl _)⟩
      clear hRD
      generalize wD.alloc (.cells #[] 3) = W at hL ⊢
      go_cut [11] (fun s wx => ∃ A3 c3 xs, xs.length ≤ 20 ∧ s = .slice A3 xs.length c3 ∧ Hid (∀ y ∈ xs, -100000 ≤ y ∧ y ≤ 100000) ∧ LQ wD wx w.heap.size 400 s xs)
      case first =>
        go_wp2_with fail
        go_loopg [11, 12] 21 (fun gh s i wr => ∃ (k : Nat) (A3 : Option Addr) (c3 : Nat) (xs : List Int), k ≤ 20 ∧ gh = 21 - k ∧ i = .int .i64 k ∧ Hid (xs.length = k) ∧ s = .slice A3 k c3 ∧ Hid (∀ y ∈ xs, -100000 ≤ y ∧ y ≤ 100000) ∧ LQ wD wr w.heap.size (200 + k) s xs)
        case atStart => exact ⟨0, _, _, [], Nat.zero_le _, rfl, rfl, rfl, rfl, (fun y hy => by simp at hy), LQ.more (K := 200) hL (by omega)⟩
        case round =>
          clear hL
          obtain ⟨k, A3, c3, xs, hk, rfl, rfl, Hxl, rfl, Hxb, hL⟩ := hrel
          have hownT := own_far hownD hL.gr (show w.heap.size < w1.heap.size by omega)
          obtain ⟨g4, hr4⟩ := OwnM.reads hownT
          have hcall := sStepsOf_c t A1 g4 0 c1 _ wr (Nat.le_refl _) hr4 htl2
          rw [Hst.out] at hcall
          by_cases hlk : (k : Int) < st
          · have hlk20 : k < 20 := by omega
            clear hownT
            go_upto_region 11 with (go_at_call 65; refine hcall.mono ?_; rintro e w3 ⟨rfl, hb3⟩)
            replace hL := hL.below hb3
            clear hcall hr4 hb3
            go_upto_region 10 with (first
              | (go_at_call 63; go_fit (pick_c w.heap.size _ 12 _ (by omega) (by omega) hL.rd); rintro e w4 ⟨x1, rfl, b1, b2, -, hR3, G3, -⟩; replace b2 := b2 (by omega); have hL4 := hL.pick hR3 G3)
              | (at_builtin; refine app_list _ rfl (.tmp 51) (.tmp 54) _ rfl wD.heap.size 3 i0 _ 1 8 Try.underlying52 hi0 hz0 hz1 hz2 rfl (by omega) (.slice A3 k c3) k (xs.map (Value.int .i64)) rfl (by have := hL4.own; unfold OwnI at this; rw [Hxl.out] at this; exact this.alloc _) _ 1 _ [.int .i64 x1] rfl rfl (NewsAt.block (cs := #[.int .i64 x1]) (at_new rfl)) (by simp [Value.oneCell']) (by omega) (by omega) (by have := hL4.gr.size; simp only [World.size_alloc]; omega) ?_; intro A5 c5 w5 hown5 hg5 hat5))
            have hlx : (xs ++ [x1]).length = k + 1 := by rw [List.length_append, Hxl.out]; rfl
            have hL5 := (hL4.below (show Below w4.heap.size w4 (w4.alloc (.cells #[.int .i64 x1] 3)) by go_grown)).app hg5 (v' := .slice A5 (k + 1) c5) (xs' := xs ++ [x1]) (by unfold OwnI; rw [hlx, List.map_append]; exact hown5)
            have Hlx := hide hlx
            have Hxb2 := hide (ends_in Hxb.out (x := x1) (by omega))
            clear hlx hL hL4 hown5 hg5 hat5
            go_wp2_with fail
            go_roundg (21 - (k + 1))
            case measure => go_light; omega
            case rel => go_light; exact ⟨k + 1, A5, c5, xs ++ [x1], by omega, rfl, by go_num, Hlx, rfl, Hxb2, hL5.more (by omega)⟩
          · clear hownT
            go_wp2_with (go_at_call 65; refine hcall.mono ?_; rintro e w3 ⟨rfl, hb3⟩)
            replace hL := hL.below hb3
            go_meet
            case rel => exact ⟨A3, c3, xs, by rw [Hxl.out]; exact hk, by rw [Hxl.out], Hxb, hL.more (by omega)⟩
      case rest =>
        clear hL
        obtain ⟨A3, c3, xs, hl3, rfl, Hxb, hL⟩ := hcut
        go_upto_if 57 with (go_at_call 66; go_fit (odd_c w.heap.size _ 20 _ (by omega) (by omega) hL.rd); rintro e w4 ⟨ob, rfl, hR4, G4, -⟩; replace hL := hL.pick hR4 G4; clear hR4 G4)
        cases ob
        · skip
          have hownT := own_far hownD hL.gr (show w.heap.size < w1.heap.size by omega)
          obtain ⟨g4, hr4⟩ := OwnM.reads hownT
          obtain ⟨g5, hr5⟩ := own_IntsR hL.own
          have hcx := own_cap hL.own
          have hWX := hWD.grown hL.gr (by omega) (fun k hk => by injection hk with hk; omega)
          go_wp2_with fail
          go_ret2
          exact ⟨_, rfl, ⟨A1, c1, t, A3, c3, xs, rfl, hl, hcap, by omega, hcx, getD_in Hxb.out, ⟨g4, hr4⟩, ⟨g5, hr5⟩⟩, hWX⟩
        · go_upto_region 14 with (at_builtin; refine app_list _ rfl (.tmp 58) (.tmp 59) _ rfl wD.heap.size 3 i0 _ 1 8 Try.underlying52 hi0 hz0 hz1 hz2 rfl (by omega) (.slice A3 xs.length c3) xs.length (xs.map (Value.int .i64)) rfl (hL.own.alloc _) _ 1 _ [.int .i64 0] rfl rfl (NewsAt.block (cs := #[.int .i64 0]) (at_new rfl)) (by simp [Value.oneCell']) (by omega) (by omega) (by have := hL.gr.size; simp only [World.size_alloc]; omega) ?_; intro A5 c5 w5 hown5 hg5 hat5)
          have hlx : (xs ++ [(0 : Int)]).length = xs.length + 1 := by simp
          have hL2 := (hL.below (show Below w4.heap.size w4 (w4.alloc (.cells #[.int .i64 0] 3)) by go_grown)).app hg5 (v' := .slice A5 (xs.length + 1) c5) (xs' := xs ++ [(0 : Int)]) (by unfold OwnI; rw [hlx, List.map_append]; exact hown5)
          replace Hxb := hide (ends_in Hxb.out (x := 0) (by omega))
          clear hL hown5 hg5 hat5
          have hL := hL2
          clear hL2
          obtain ⟨ys, hys⟩ : ∃ ys, xs ++ [(0 : Int)] = ys := ⟨_, rfl⟩
          rw [hys] at hlx hL Hxb
          rw [← hlx] at hL ⊢
          have hl6 : ys.length ≤ 21 := by omega
          clear hys hlx
          have hownT := own_far hownD hL.gr (show w.heap.size < w1.heap.size by omega)
          obtain ⟨g4, hr4⟩ := OwnM.reads hownT
          obtain ⟨g5, hr5⟩ := own_IntsR hL.own
          have hcx := own_cap hL.own
          have hWX := hWD.grown hL.gr (by omega) (fun k hk => by injection hk with hk; omega)
          go_wp2_with fail
          go_ret2
          exact ⟨_, rfl, ⟨A1, c1, t, A5, c5, ys, rfl, hl, hcap, by omega, hcx, getD_in Hxb.out, ⟨g4, hr4⟩, ⟨g5, hr5⟩⟩, hWX⟩
end Go.Proofs.Ytofodhdpppjaoaa
