/-
  impl.fromTable over CommonOf's number: the walk.
-/
import Derived.Test.YtjlaljnffmncpaaL8
namespace Go.Proofs.Ytjlaljnffmncpaa
set_option linter.unusedVariables false
set_option linter.unusedSimpArgs false
open Go.RowKit Pp

set_option maxHeartbeats 8000000 in
set_option maxRecDepth 100000 in
theorem fromT_c (T U : Tb) (n X Y ob ob' c c' : Nat) (rb rc rb' rc' : Nat → Nat) (w : World) (hn : n ≤ 6) (hT : TabR w w.heap.size ob rb rc n T) (hU : TabR w w.heap.size ob' rb' rc' n U) (x0 : w.cell? ⟨X, 0, none⟩ = some (.slice (some ⟨ob, 0, none⟩) n c)) (y0 : w.cell? ⟨Y, 0, none⟩ = some (.slice (some ⟨ob', 0, none⟩) n c')) (hX : X < w.heap.size) (hY : Y < w.heap.size)
    (hM : ∀ i j, i < n → j < n → maxT T U i j ≤ Far) (q : Pl) (r : Bool) (hq : toldP ⟨(n : Int), tabBs (maxT T U) n n⟩ = q) (hr : planOk ⟨(n : Int), tabBs (maxT T U) n n⟩ = r) :
    Calls Try.prog 82 #[.int .i64 n, .func (.func 83) #[] #[.pointer (some ⟨X, 0, none⟩), .pointer (some ⟨Y, 0, none⟩)]] w fun e w' => ∃ A1 c1 g1, e = .returned (.tuple #[.agg #[.int .i64 q.n, .slice A1 q.bs.length c1], .bool r]) ∧ BdsR w' w'.heap.size g1 0 A1 q.bs ∧ OwnB w.heap.size w' (.slice A1 q.bs.length c1) q.bs ∧ Below w.heap.size w w' := by
  obtain ⟨j0, hj0, hy0, hy1, hy2⟩ := info_parts infoB
  have Hq := hide hq
  have Hr := hide hr
  have HM := hide hM
  clear hq hr hM
  have hF : FT w ((w.alloc (.cells #[.int .i64 0, .slice none 0 0] 25)).alloc (.cells #[.int .i64 (n : Int), .slice none 0 0] 25)) (n : Int) none 0 [] :=
    ⟨by go_grown, by simp, by simp [go_sem], by simp [go_sem], fun i => by simp [go_sem], by simp [go_sem], by simp [go_sem], fun i => by simp [go_sem], World.ownsRow_nil _ _ _ _⟩
  go_enter Try.func82, Try.ntmps82
  go_wp2_with fail
  generalize (w.alloc (.cells #[.int .i64 0, .slice none 0 0] 25)).alloc (.cells #[.int .i64 (n : Int), .slice none 0 0] 25) = W at hF ⊢
  go_loopg [13] n (fun gh s wr => ∃ i : Nat, i ≤ n ∧ gh = n - i ∧ s = .int .i64 i ∧ ∃ A1 c1, ∃ bs : List Bd, Hid (bs = tabBs (maxT T U) n i) ∧ bs.length ≤ 6 * i ∧ FT w wr (n : Int) A1 c1 bs)
  case atStart => exact ⟨0, Nat.zero_le _, rfl, rfl, none, 0, [], rfl, by simp, hF⟩
  case round =>
    clear hF
    obtain ⟨i, hi, rfl, rfl, A1, c1, bs, Hb, hbl, hF⟩ := hrel
    by_cases hlt : i < n
    · have hlt' : (i : Int) < (n : Int) := by omega
      go_wp2_with fail
      go_loopg [17] n (fun gh s wr2 => ∃ k : Nat, k ≤ n ∧ gh = n - k ∧ s = .int .i64 k ∧ ∃ A1 c1, ∃ bs : List Bd, Hid (bs = tabBs (maxT T U) n i ++ rowBs (maxT T U) i k) ∧ bs.length ≤ 6 * i + k ∧ FT w wr2 (n : Int) A1 c1 bs)
      case atStart => exact ⟨0, Nat.zero_le _, rfl, rfl, A1, c1, bs, by unfold Hid; rw [Hb.out]; simp [rowBs], by omega, hF⟩
      case round =>
        clear hF Hb hbl
        obtain ⟨k, hk, rfl, rfl, A1, c1, bs, Hb, hbl, hF⟩ := hrel
        by_cases hlk : k < n
        · have hlk' : (k : Int) < (n : Int) := by omega
          have hW := hF.bel
          have x1 := (hW.cell (p := ⟨X, 0, none⟩) hX).trans x0
          have y1 := (hW.cell (p := ⟨Y, 0, none⟩) hY).trans y0
          have hTw := hT.below hW
          have hUw := hU.below hW
          have hMk := HM.out i k hlt hlk
          have hrow : rowBs (maxT T U) i (k + 1) = rowBs (maxT T U) i k ++ (if i ≠ k ∧ maxT T U i k < Far then [⟨i, k, maxT T U i k⟩] else []) := rfl
          obtain ⟨m, hm⟩ : ∃ m, maxT T U i k = m := ⟨_, rfl⟩
          rw [hm] at hMk hrow
          have Hm := hide hm
          have Hrow := hide hrow
          clear hm hrow
          by_cases hyes : i ≠ k ∧ m < Far
          · have hik : ¬ (i : Int) = (k : Int) := by omega
            have hmf : ¬ m = 100000 := by have := hyes.2; unfold Far at this; omega
            have hbe1 : ((i : Int) != (k : Int)) = true := by simp; omega
            have hbe2 : (m != (100000 : Int)) = true := by simp; omega
            have q1 := hF.c1
            go_wp2_with (first
              | (go_at_call 83; go_fit (common1_c T U n i k X Y ob ob' w.heap.size c c' rb rc rb' rc' _ hTw hUw hlt hlk x1 y1); rintro e w2 ⟨rfl, hb2⟩; rw [Hm.out]; have hF2 := hF.below hb2; have p1 := hF2.c1; have ps := hF2.sz)
              | (at_builtin; refine app_list _ rfl (.tmp 32) (.tmp 37) _ rfl (w.heap.size + 2) 41 j0 _ 3 24 Try.underlying23 hj0 hy0 hy1 hy2 rfl (by omega) (.slice A1 bs.length c1) bs.length (bdCs bs) rfl ?_ _ 1 _ [.int .i64 (i : Int), .int .i64 (k : Int), .int .i64 m] rfl rfl (NewsAt.block (cs := #[.int .i64 (i : Int), .int .i64 (k : Int), .int .i64 m]) (at_new rfl)) (by simp [Value.oneCell']) (by omega) (by omega) ?_ ?_
                 · exact hF2.own.alloc _
                 · simp only [World.size_alloc]; omega
                 intro A3 c3 w3 hown3 hg3 hat3
                 have hown4 : OwnB (w.heap.size + 2) w3 (.slice A3 (bs.length + 1) c3) (bs ++ [(⟨(i : Int), (k : Int), m⟩ : Bd)]) := (by unfold OwnB; rw [bdCs_append]; simpa [bdCs] using hown3)
                 obtain ⟨v1, v2, v3⟩ := FT.app (hF2.alloc _) hg3 (bs.length + 1) (by simp) hown4))
            go_roundg (n - (k + 1))
            case measure => go_light; omega
            case rel =>
              go_light
              exact ⟨k + 1, by omega, rfl, by go_num, A3, c3, bs ++ [⟨(i : Int), (k : Int), m⟩], by unfold Hid; rw [Hrow.out, if_pos hyes, Hb.out]; simp, by simp; omega, v3⟩
          · have hor : (i : Int) = (k : Int) ∨ (¬ (i : Int) = (k : Int) ∧ m = 100000) := by
              by_cases e : i = k
              · exact .inl (by omega)
              · exact .inr ⟨by omega, by
                  have : ¬ m < Far := fun h => hyes ⟨e, h⟩
                  unfold Far at this hMk; omega⟩
            rcases hor with hik | ⟨hik, rfl⟩
            · have e : k = i := by omega
              clear hik
              subst e
              go_wp2_with (go_at_call 83; go_fit (common1_c T U n k k X Y ob ob' w.heap.size c c' rb rc rb' rc' _ hTw hUw hlt hlk x1 y1); rintro e w2 ⟨rfl, hb2⟩; rw [Hm.out]; have hF2 := hF.below hb2)
              go_roundg (n - (k + 1))
              case measure => go_light; omega
              case rel =>
                go_light
                exact ⟨k + 1, by omega, rfl, by go_num, A1, c1, bs, by unfold Hid; rw [Hrow.out, if_neg hyes, Hb.out]; simp, by omega, hF2⟩
            · skip
              go_wp2_with (go_at_call 83; go_fit (common1_c T U n i k X Y ob ob' w.heap.size c c' rb rc rb' rc' _ hTw hUw hlt hlk x1 y1); rintro e w2 ⟨rfl, hb2⟩; rw [Hm.out]; have hF2 := hF.below hb2)
              go_roundg (n - (k + 1))
              case measure => go_light; omega
              case rel =>
                go_light
                exact ⟨k + 1, by omega, rfl, by go_num, A1, c1, bs, by unfold Hid; rw [Hrow.out, if_neg hyes, Hb.out]; simp, by omega, hF2⟩
        · obtain rfl : k = n := by omega
          go_wp2_with fail
          go_roundg (k - (i + 1))
          case measure => go_light; omega
          case rel => go_light; exact ⟨i + 1, by omega, rfl, by go_num, A1, c1, bs, Hb, by omega, hF⟩
    · obtain rfl : i = n := by omega
      have hbq := Hb.out
      subst hbq
      have p0 := hF.c0
      have p1 := hF.c1
      have z0 := hF.z0
      have z1 := hF.z1
      have zf0 := hF.zf 0
      have zf1 := hF.zf 1
      obtain ⟨b, hrd⟩ := OwnB.readsA hF.own
      go_wp2_with (go_at_call 95; go_fit (told_q ⟨(i : Int), tabBs (maxT T U) i i⟩ q r Hq.out Hr.out A1 b 0 c1 _ _ (by dsimp only; omega) (Nat.le_refl _) hrd); rintro e w3 ⟨A2, c2, g2, rfl, hx, hown, hb3⟩; have hF3 := hF.below hb3; have v0 := hF3.z0; have v1 := hF3.z1; have vf0 := hF3.zf 0; have vf1 := hF3.zf 1)
      obtain ⟨r0, r1⟩ := two_cells (a := .int .i64 q.n) (b := .slice A2 q.bs.length c2) v0 v1
      refine bodyPost_ret (v := .tuple #[.agg #[.int .i64 q.n, .slice A2 q.bs.length c2], .bool r]) (by simp [results, Try.results82, go_sem, r0, r1]) rfl ?_
      have hsz := hF.sz
      have ho := own_less (own_set_low (p := ⟨w.heap.size, 1, none⟩) (own_set_low (p := ⟨w.heap.size, 0, none⟩) hown (by dsimp only; omega) (.int .i64 q.n)) (by dsimp only; omega) (.slice A2 q.bs.length c2)) (show w.heap.size ≤ _ by omega)
      obtain ⟨g, hrd2⟩ := OwnB.readsA ho
      exact ⟨_, _, g, rfl, hrd2, ho, (hF3.bel.setCell (Nat.le_refl _) _).setCell (Nat.le_refl _) _⟩
end Go.Proofs.Ytjlaljnffmncpaa
