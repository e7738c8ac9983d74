/-
  The draws of the reference: two plans.
-/
import Derived.Test.YtjlaljnffmncpaaD12
import Derived.Test.YtjlaljnffmncpaaL10
namespace Go.Proofs.Ytjlaljnffmncpaa
set_option linter.unusedVariables false
set_option linter.unusedSimpArgs false
open Go.RowKit Pp

set_option maxHeartbeats 4000000 in
set_option maxRecDepth 100000 in
theorem drawCommon_c (A0 : Option Addr) (n0 c0 : Nat) (zs : List Int) (w : World) (hn0 : n0 ≤ 1048576) (hc0 : n0 ≤ c0) (hA0 : n0 = 0 ∨ A0.isSome = true) (hb0 : BytesAt w w.heap.size A0 n0 zs) :
    Calls Try.prog 15 #[.slice A0 n0 c0] w fun e w' =>
      ∃ n A c bs n' A' c' bs' b b', e = .returned (.tuple #[.agg #[.int .i64 n, .slice A bs.length c], .agg #[.int .i64 n', .slice A' bs'.length c']]) ∧ (0 ≤ n ∧ n ≤ 7) ∧ bs.length ≤ 9 ∧ (0 ≤ n' ∧ n' ≤ 7) ∧ bs'.length ≤ 9 ∧ BdsR w' w'.heap.size b 0 A bs ∧ BdsR w' w'.heap.size b' 0 A' bs' ∧ Below w.heap.size w w' := by
  have hW0 : Below w.heap.size w ((w.alloc (.cells #[.int .i64 0, .slice none 0 0] 25)).alloc (.cells #[.int .i64 0, .slice none 0 0] 25)) := by go_grown
  go_enter Try.func15, Try.ntmps15
  go_wp2_with (first
    | (go_at_call 80; go_fit (open_c A0 n0 c0 zs _ hn0 hc0 hA0 (hb0.below hW0 (by simp; omega))); rintro e w1 ⟨rfl, hR1, hb1, hs1⟩; simp only [World.size_alloc] at hR1 hs1)
    | (go_at_call 79; go_fit (plans_c _ 0 _ (by omega) hR1); rintro e w2 ⟨n, A, c, bs, n', A', c', bs', rfl, hn, hlb, hsm, hn', hlb', hsm', ho, ho', hR2, G2⟩
       have hsz2 := G2.size
       have s0 := far_cell G2 (((bcell hb1).1 w.heap.size 0 (by simp; omega)).trans (show _ = some (Value.int .i64 0) by simp [go_sem])) (by omega)
       have s1 := far_cell G2 (((bcell hb1).1 w.heap.size 1 (by simp; omega)).trans (show _ = some (Value.slice none 0 0) by simp [go_sem])) (by omega)
       have t0 := far_cell G2 (((bcell hb1).1 (w.heap.size + 1) 0 (by simp)).trans (show _ = some (Value.int .i64 0) by simp [go_sem])) (by omega)
       have t1 := far_cell G2 (((bcell hb1).1 (w.heap.size + 1) 1 (by simp)).trans (show _ = some (Value.slice none 0 0) by simp [go_sem])) (by omega)
       have sf := fun i => far_frozen G2 (((bcell hb1).2 w.heap.size i (by simp; omega)).trans (show _ = false by simp [go_sem])) (by omega) (by omega)
       have tf := fun i => far_frozen G2 (((bcell hb1).2 (w.heap.size + 1) i (by simp)).trans (show _ = false by simp [go_sem])) (by omega) (by omega)
       have sf0 := sf 0; have sf1 := sf 1; have tf0 := tf 0; have tf1 := tf 1))
  obtain ⟨u0, u1⟩ := two_cells (a := .int .i64 n) (b := .slice A bs.length c) s0 s1
  obtain ⟨v0, v1⟩ := two_cells (w := (w2.setCell ⟨w.heap.size, 0, none⟩ (.int .i64 n)).setCell ⟨w.heap.size, 1, none⟩ (.slice A bs.length c)) (g := w.heap.size + 1) (a := .int .i64 n') (b := .slice A' bs'.length c') ((set_other (b := ⟨w.heap.size + 1, 0, none⟩) (by dsimp only; omega)).trans ((set_other (by dsimp only; omega)).trans t0)) ((set_other (b := ⟨w.heap.size + 1, 1, none⟩) (by dsimp only; omega)).trans ((set_other (by dsimp only; omega)).trans t1))
  have x0 := (set_other (w := ((w2.setCell ⟨w.heap.size, 0, none⟩ (.int .i64 n)).setCell ⟨w.heap.size, 1, none⟩ (.slice A bs.length c)).setCell ⟨w.heap.size + 1, 0, none⟩ (.int .i64 n')) (a := ⟨w.heap.size + 1, 1, none⟩) (b := ⟨w.heap.size, 0, none⟩) (v := .slice A' bs'.length c') (by dsimp only; omega)).trans ((set_other (by dsimp only; omega)).trans u0)
  have x1 := (set_other (w := ((w2.setCell ⟨w.heap.size, 0, none⟩ (.int .i64 n)).setCell ⟨w.heap.size, 1, none⟩ (.slice A bs.length c)).setCell ⟨w.heap.size + 1, 0, none⟩ (.int .i64 n')) (a := ⟨w.heap.size + 1, 1, none⟩) (b := ⟨w.heap.size, 1, none⟩) (v := .slice A' bs'.length c') (by dsimp only; omega)).trans ((set_other (by dsimp only; omega)).trans u1)
  refine bodyPost_ret (v := .tuple #[.agg #[.int .i64 n, .slice A bs.length c], .agg #[.int .i64 n', .slice A' bs'.length c']]) (by simp [results, Try.results15, go_sem, v0, v1, x0, x1]) rfl ?_
  have up := fun {A3 c3 bs3} (h : OwnB w1.heap.size w2 (.slice A3 (List.length bs3) c3) bs3) => own_set_low (p := ⟨w.heap.size + 1, 1, none⟩) (own_set_low (p := ⟨w.heap.size + 1, 0, none⟩) (own_set_low (p := ⟨w.heap.size, 1, none⟩) (own_set_low (p := ⟨w.heap.size, 0, none⟩) h (by dsimp only; omega) (.int .i64 n)) (by dsimp only; omega) (.slice A bs.length c)) (by dsimp only; omega) (.int .i64 n')) (by dsimp only; omega) (.slice A' bs'.length c')
  obtain ⟨b, hrd⟩ := OwnB.readsA (up ho)
  obtain ⟨b', hrd'⟩ := OwnB.readsA (up ho')
  have hW2 : Below w.heap.size w w2 := (bthen hW0 hb1).grown G2 (by omega) (fun q hq => by cases hq; omega)
  exact ⟨n, A, c, bs, n', A', c', bs', b, b', rfl, hn, hlb, hn', hlb', hrd, hrd', (((hW2.setCell (Nat.le_refl _) _).setCell (Nat.le_refl _) _).setCell (by dsimp only; omega) _).setCell (by dsimp only; omega) _⟩
set_option maxHeartbeats 4000000 in
set_option maxRecDepth 100000 in
theorem drawImplies_c (A0 : Option Addr) (n0 c0 : Nat) (zs : List Int) (w : World) (hn0 : n0 ≤ 1048576) (hc0 : n0 ≤ c0) (hA0 : n0 = 0 ∨ A0.isSome = true) (hb0 : BytesAt w w.heap.size A0 n0 zs) :
    Calls Try.prog 56 #[.slice A0 n0 c0] w fun e w' =>
      ∃ n A c bs n' A' c' bs' b b', e = .returned (.tuple #[.agg #[.int .i64 n, .slice A bs.length c], .agg #[.int .i64 n', .slice A' bs'.length c']]) ∧ (0 ≤ n ∧ n ≤ 7) ∧ bs.length ≤ 9 ∧ (0 ≤ n' ∧ n' ≤ 7) ∧ bs'.length ≤ 9 ∧ BdsR w' w'.heap.size b 0 A bs ∧ BdsR w' w'.heap.size b' 0 A' bs' ∧ Below w.heap.size w w' := by
  have hW0 : Below w.heap.size w ((w.alloc (.cells #[.int .i64 0, .slice none 0 0] 25)).alloc (.cells #[.int .i64 0, .slice none 0 0] 25)) := by go_grown
  go_enter Try.func56, Try.ntmps56
  go_wp2_with (first
    | (go_at_call 80; go_fit (open_c A0 n0 c0 zs _ hn0 hc0 hA0 (hb0.below hW0 (by simp; omega))); rintro e w1 ⟨rfl, hR1, hb1, hs1⟩; simp only [World.size_alloc] at hR1 hs1)
    | (go_at_call 79; go_fit (plans_c _ 0 _ (by omega) hR1); rintro e w2 ⟨n, A, c, bs, n', A', c', bs', rfl, hn, hlb, hsm, hn', hlb', hsm', ho, ho', hR2, G2⟩
       have hsz2 := G2.size
       have s0 := far_cell G2 (((bcell hb1).1 w.heap.size 0 (by simp; omega)).trans (show _ = some (Value.int .i64 0) by simp [go_sem])) (by omega)
       have s1 := far_cell G2 (((bcell hb1).1 w.heap.size 1 (by simp; omega)).trans (show _ = some (Value.slice none 0 0) by simp [go_sem])) (by omega)
       have t0 := far_cell G2 (((bcell hb1).1 (w.heap.size + 1) 0 (by simp)).trans (show _ = some (Value.int .i64 0) by simp [go_sem])) (by omega)
       have t1 := far_cell G2 (((bcell hb1).1 (w.heap.size + 1) 1 (by simp)).trans (show _ = some (Value.slice none 0 0) by simp [go_sem])) (by omega)
       have sf := fun i => far_frozen G2 (((bcell hb1).2 w.heap.size i (by simp; omega)).trans (show _ = false by simp [go_sem])) (by omega) (by omega)
       have tf := fun i => far_frozen G2 (((bcell hb1).2 (w.heap.size + 1) i (by simp)).trans (show _ = false by simp [go_sem])) (by omega) (by omega)
       have sf0 := sf 0; have sf1 := sf 1; have tf0 := tf 0; have tf1 := tf 1))
  obtain ⟨u0, u1⟩ := two_cells (a := .int .i64 n) (b := .slice A bs.length c) s0 s1
  obtain ⟨v0, v1⟩ := two_cells (w := (w2.setCell ⟨w.heap.size, 0, none⟩ (.int .i64 n)).setCell ⟨w.heap.size, 1, none⟩ (.slice A bs.length c)) (g := w.heap.size + 1) (a := .int .i64 n') (b := .slice A' bs'.length c') ((set_other (b := ⟨w.heap.size + 1, 0, none⟩) (by dsimp only; omega)).trans ((set_other (by dsimp only; omega)).trans t0)) ((set_other (b := ⟨w.heap.size + 1, 1, none⟩) (by dsimp only; omega)).trans ((set_other (by dsimp only; omega)).trans t1))
  have x0 := (set_other (w := ((w2.setCell ⟨w.heap.size, 0, none⟩ (.int .i64 n)).setCell ⟨w.heap.size, 1, none⟩ (.slice A bs.length c)).setCell ⟨w.heap.size + 1, 0, none⟩ (.int .i64 n')) (a := ⟨w.heap.size + 1, 1, none⟩) (b := ⟨w.heap.size, 0, none⟩) (v := .slice A' bs'.length c') (by dsimp only; omega)).trans ((set_other (by dsimp only; omega)).trans u0)
  have x1 := (set_other (w := ((w2.setCell ⟨w.heap.size, 0, none⟩ (.int .i64 n)).setCell ⟨w.heap.size, 1, none⟩ (.slice A bs.length c)).setCell ⟨w.heap.size + 1, 0, none⟩ (.int .i64 n')) (a := ⟨w.heap.size + 1, 1, none⟩) (b := ⟨w.heap.size, 1, none⟩) (v := .slice A' bs'.length c') (by dsimp only; omega)).trans ((set_other (by dsimp only; omega)).trans u1)
  refine bodyPost_ret (v := .tuple #[.agg #[.int .i64 n, .slice A bs.length c], .agg #[.int .i64 n', .slice A' bs'.length c']]) (by simp [results, Try.results56, go_sem, v0, v1, x0, x1]) rfl ?_
  have up := fun {A3 c3 bs3} (h : OwnB w1.heap.size w2 (.slice A3 (List.length bs3) c3) bs3) => own_set_low (p := ⟨w.heap.size + 1, 1, none⟩) (own_set_low (p := ⟨w.heap.size + 1, 0, none⟩) (own_set_low (p := ⟨w.heap.size, 1, none⟩) (own_set_low (p := ⟨w.heap.size, 0, none⟩) h (by dsimp only; omega) (.int .i64 n)) (by dsimp only; omega) (.slice A bs.length c)) (by dsimp only; omega) (.int .i64 n')) (by dsimp only; omega) (.slice A' bs'.length c')
  obtain ⟨b, hrd⟩ := OwnB.readsA (up ho)
  obtain ⟨b', hrd'⟩ := OwnB.readsA (up ho')
  have hW2 : Below w.heap.size w w2 := (bthen hW0 hb1).grown G2 (by omega) (fun q hq => by cases hq; omega)
  exact ⟨n, A, c, bs, n', A', c', bs', b, b', rfl, hn, hlb, hn', hlb', hrd, hrd', (((hW2.setCell (Nat.le_refl _) _).setCell (Nat.le_refl _) _).setCell (by dsimp only; omega) _).setCell (by dsimp only; omega) _⟩
end Go.Proofs.Ytjlaljnffmncpaa
