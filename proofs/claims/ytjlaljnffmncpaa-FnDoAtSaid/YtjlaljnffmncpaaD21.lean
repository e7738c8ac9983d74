/-
  The draws of the reference: a plan, a state and a point (l20Point), DrawDoAt.
-/
import Derived.Test.YtjlaljnffmncpaaD16
import Derived.Test.YtjlaljnffmncpaaZ1
namespace Go.Proofs.Ytjlaljnffmncpaa
set_option linter.unusedVariables false
set_option linter.unusedSimpArgs false
open Go.RowKit Pp

/-- A drawn plan and a drawn state in two boxes, and the two boxes of the results. -/
structure PT (w0 wr : World) (g : Nat) (K : Int) (X : Nat) (n : Int) (A : Option Addr) (c : Nat) (bs : List Bd) (now : Int) (At : Option Addr) (ct : Nat) (xs : List Int) : Prop where
  gr : w0.grownBy wr (some g)
  rd : RdO wr g K
  x0 : wr.cell? ⟨X, 0, none⟩ = some (.int .i64 n)
  x1 : wr.cell? ⟨X, 1, none⟩ = some (.slice A bs.length c)
  s0 : wr.cell? ⟨X + 1, 0, none⟩ = some (.int .i64 now)
  s1 : wr.cell? ⟨X + 1, 1, none⟩ = some (.slice At xs.length ct)
  ex : X + 1 < wr.heap.size
  y1 : ZB w0 wr w0.heap.size
  y2 : ZB w0 wr (w0.heap.size + 1)
  own : OwnB (w0.heap.size + 2) wr (.slice A bs.length c) bs
  own2 : OwnI (w0.heap.size + 2) wr (.slice At xs.length ct) xs
section
variable {w0 wr w' : World} {g X : Nat} {K K' : Int} {n now : Int} {A At : Option Addr} {c ct : Nat} {bs : List Bd} {xs : List Int}
theorem PT.below (h : PT w0 wr g K X n A c bs now At ct xs) (hb : Below wr.heap.size wr w') : PT w0 w' g K X n A c bs now At ct xs := by
  have hx := h.ex
  exact ⟨gr_below h.gr hb, h.rd.below hb, ((bcell hb).1 _ _ (by omega)).trans h.x0, ((bcell hb).1 _ _ (by omega)).trans h.x1, ((bcell hb).1 _ _ hx).trans h.s0, ((bcell hb).1 _ _ hx).trans h.s1, Nat.lt_of_lt_of_le hx hb.size, h.y1.below hb, h.y2.below hb, own_below h.own hb, own_below h.own2 hb⟩
theorem PT.pick (h : PT w0 wr g K X n A c bs now At ct xs) (hgw : g < w0.heap.size) (hgX : g < X) (hR : RdO w' g K') (G : wr.grownBy w' (some g)) : PT w0 w' g K' X n A c bs now At ct xs := by
  have hx := h.ex
  exact ⟨gr_pick h.gr G, hR, far_cell G h.x0 (by omega), far_cell G h.x1 (by omega), far_cell G h.s0 (by omega), far_cell G h.s1 (by omega), Nat.lt_of_lt_of_le hx G.size, h.y1.grown G (fun k e => by injection e with e; omega), h.y2.grown G (fun k e => by injection e with e; omega), own_far h.own G (by omega), own_far h.own2 G (by omega)⟩
/-- The cells that a region loads. -/
def PC (wr : World) (X : Nat) (n : Int) (A : Option Addr) (c : Nat) (len : Nat) (now : Int) (At : Option Addr) (ct lent : Nat) : Prop :=
  wr.cell? ⟨X, 0, none⟩ = some (.int .i64 n) ∧ wr.cell? ⟨X, 1, none⟩ = some (.slice A len c) ∧ wr.cell? ⟨X + 1, 0, none⟩ = some (.int .i64 now) ∧ wr.cell? ⟨X + 1, 1, none⟩ = some (.slice At lent ct)
theorem PT.cells (h : PT w0 wr g K X n A c bs now At ct xs) : wr.cell? ⟨X, 0, none⟩ = some (.int .i64 n) ∧ wr.cell? ⟨X, 1, none⟩ = some (.slice A bs.length c) ∧ wr.cell? ⟨X + 1, 0, none⟩ = some (.int .i64 now) ∧ wr.cell? ⟨X + 1, 1, none⟩ = some (.slice At xs.length ct) := ⟨h.x0, h.x1, h.s0, h.s1⟩
theorem cells_set {Y i : Nat} {v : Value} {a b d e : Value} (h : wr.cell? ⟨X, 0, none⟩ = some a ∧ wr.cell? ⟨X, 1, none⟩ = some b ∧ wr.cell? ⟨X + 1, 0, none⟩ = some d ∧ wr.cell? ⟨X + 1, 1, none⟩ = some e) (hY : Y < X) :
    (wr.setCell ⟨Y, i, none⟩ v).cell? ⟨X, 0, none⟩ = some a ∧ (wr.setCell ⟨Y, i, none⟩ v).cell? ⟨X, 1, none⟩ = some b ∧ (wr.setCell ⟨Y, i, none⟩ v).cell? ⟨X + 1, 0, none⟩ = some d ∧ (wr.setCell ⟨Y, i, none⟩ v).cell? ⟨X + 1, 1, none⟩ = some e :=
  ⟨(set_other (by dsimp only; omega)).trans h.1, (set_other (by dsimp only; omega)).trans h.2.1, (set_other (by dsimp only; omega)).trans h.2.2.1, (set_other (by dsimp only; omega)).trans h.2.2.2⟩
theorem pt_new {w2 : World} {t t2 : TypeId} (gr : w0.grownBy w2 (some g)) (rd : RdO w2 g K) (y1 : ZB w0 w2 w0.heap.size) (y2 : ZB w0 w2 (w0.heap.size + 1)) (own : OwnB (w0.heap.size + 2) w2 (.slice A bs.length c) bs) (own2 : OwnI (w0.heap.size + 2) w2 (.slice At xs.length ct) xs) :
    PT w0 ((w2.alloc (.cells #[.int .i64 n, .slice A bs.length c] t)).alloc (.cells #[.int .i64 now, .slice At xs.length ct] t2)) g K w2.heap.size n A c bs now At ct xs := by
  have hb : Below w2.heap.size w2 ((w2.alloc (.cells #[.int .i64 n, .slice A bs.length c] t)).alloc (.cells #[.int .i64 now, .slice At xs.length ct] t2)) := by go_grown
  have hs : w2.heap.size + 1 = (w2.alloc (.cells #[.int .i64 n, .slice A bs.length c] t)).heap.size := by simp
  refine ⟨gr_below gr hb, rd.below hb, by simp [go_sem], by simp [go_sem], ?_, ?_, by simp, y1.below hb, y2.below hb, own_below own hb, own_below own2 hb⟩
  · rw [hs]; simp [go_sem]
  · rw [hs]; simp [go_sem]
end

set_option maxHeartbeats 4000000 in
set_option maxRecDepth 100000 in
theorem point_c (g : Nat) (N : Int) (w : World) (hN : 0 ≤ N ∧ N ≤ 1000000) (hR : RdO w g N) :
    Calls Try.prog 126 #[.pointer (some ⟨g, 0, none⟩)] w fun e w' =>
      ∃ n A c bs now At ct xs pt, e = .returned (.tuple #[.agg #[.int .i64 n, .slice A bs.length c], .agg #[.int .i64 now, .slice At xs.length ct], .int .i64 pt]) ∧ (0 ≤ n ∧ n ≤ 7) ∧ bs.length ≤ 16 ∧ (0 ≤ now ∧ now ≤ 3000) ∧ xs.length ≤ 8 ∧ (0 ≤ pt ∧ pt ≤ 8) ∧
        OwnB w.heap.size w' (.slice A bs.length c) bs ∧ OwnI w.heap.size w' (.slice At xs.length ct) xs ∧ RdO w' g (N + 402) ∧ w.grownBy w' (some g) := by
  obtain ⟨hN0, hN1⟩ := hN
  have hgw := hR.lt
  have hY1 : ZB w ((w.alloc (.cells #[.int .i64 0, .slice none 0 0] 25)).alloc (.cells #[.int .i64 0, .slice none 0 0] 70)) w.heap.size := (zb_new (w0 := w) (W := w) (t := 25) (Nat.le_refl _)).below (by go_grown)
  have hY2 : ZB w ((w.alloc (.cells #[.int .i64 0, .slice none 0 0] 25)).alloc (.cells #[.int .i64 0, .slice none 0 0] 70)) (w.heap.size + 1) := by
    have h := zb_new (w0 := w) (W := w.alloc (.cells #[.int .i64 0, .slice none 0 0] 25)) (t := 70) (by simp)
    simpa using h
  have hb0 : Below w.heap.size w ((w.alloc (.cells #[.int .i64 0, .slice none 0 0] 25)).alloc (.cells #[.int .i64 0, .slice none 0 0] 70)) := by go_grown
  have hs0 : ((w.alloc (.cells #[.int .i64 0, .slice none 0 0] 25)).alloc (.cells #[.int .i64 0, .slice none 0 0] 70)).heap.size = w.heap.size + 2 := by simp
  go_enter Try.func126, Try.ntmps126
  go_upto_region 1 with fail
  generalize (w.alloc (.cells #[.int .i64 0, .slice none 0 0] 25)).alloc (.cells #[.int .i64 0, .slice none 0 0] 70) = W at hY1 hY2 hb0 hs0 ⊢
  have hRW := hR.below hb0
  have hs0' : w.heap.size + 2 ≤ W.heap.size := by omega
  have Hs0 := hide hs0
  clear hs0
  go_upto_region 2 with (go_at_call 154; go_fit (doing_c g N 6 _ (by omega) (by omega) hRW); rintro e w2 ⟨n, A, c, bs, now, At, ct, xs, rfl, hn, hlb, hnow, hlx, ho, ho2, hR2, G2⟩)
  have hG := gr_trans (show w.grownBy W (some g) from ⟨hb0.os, hb0.tape, hb0.output, hb0.size, fun k hk _ => hb0.block k hk⟩) G2
  have hP := pt_new (t := 25) (t2 := 70) (n := n) (now := now) hG hR2 (hY1.grown G2 (fun k e => by injection e with e; omega)) (hY2.grown G2 (fun k e => by injection e with e; omega)) (own_less ho (by omega)) (own_less ho2 (by omega))
  have hX : w.heap.size + 2 ≤ w2.heap.size := Nat.le_trans hs0' G2.size
  clear hY1 hY2 hb0 hs0' Hs0 hRW hR2 G2 hG ho ho2 hR
  generalize (w2.alloc (.cells #[.int .i64 n, .slice A bs.length c] 25)).alloc (.cells #[.int .i64 now, .slice At xs.length ct] 70) = W2 at hP ⊢
  generalize w2.heap.size = X at hP hX ⊢
  have hgX : g < X := by omega
  obtain ⟨mx, hmax, hm0, hm1⟩ : ∃ mx : Int, (if n < 1 then (1 : Int) else n) = mx ∧ 1 ≤ mx ∧ mx ≤ 7 := ⟨_, rfl, by split <;> omega, by split <;> omega⟩
  have hS0 : W2.drew.cell? ⟨X, 0, none⟩ = some (.int .i64 n) ∧ W2.drew.cell? ⟨X, 1, none⟩ = some (.slice A bs.length c) ∧ W2.drew.cell? ⟨X + 1, 0, none⟩ = some (.int .i64 now) ∧ W2.drew.cell? ⟨X + 1, 1, none⟩ = some (.slice At xs.length ct) := hP.cells
  refine wp_regionE (fun w' => w'.cell? ⟨X, 0, none⟩ = some (.int .i64 n) ∧ w'.cell? ⟨X, 1, none⟩ = some (.slice A bs.length c) ∧ w'.cell? ⟨X + 1, 0, none⟩ = some (.int .i64 now) ∧ w'.cell? ⟨X + 1, 1, none⟩ = some (.slice At xs.length ct)) 13 (by kernel_rfl) ?_
  change wpE _ _ _ _ _ _ 14 #[false, false, false, false, false, false, false, false, false, false, false, false, false, false] _ _
  refine wpE_take' (v := ?_) 0 [13] (of_decide_eq_true (by kernel_rfl)) (by kernel_rfl) (by kernel_rfl) (by kernel_rfl) (by kernel_rfl) (fun _ _ _ h => h) (by kernel_rfl) ?_ hS0 ?_
  rotate_left
  · intro w' hSw
    simp only [List.getElem_toArray, List.getElem_cons_succ, List.getElem_cons_zero]
    go_simp
    all_goals with_reducible rfl
  simp only [List.getElem_toArray, List.getElem_cons_succ, List.getElem_cons_zero, Act.put, List.setIfInBounds_toArray, List.set_cons_zero, List.set_cons_succ]
  refine wpE_take' (v := ?_) 1 [13] (of_decide_eq_true (by kernel_rfl)) (by kernel_rfl) (by kernel_rfl) (by kernel_rfl) (by kernel_rfl) (fun _ _ _ h => h) (by kernel_rfl) ?_ hS0 ?_
  rotate_left
  · intro w' hSw
    simp only [List.getElem_toArray, List.getElem_cons_succ, List.getElem_cons_zero]
    go_simp
    all_goals with_reducible rfl
  simp only [List.getElem_toArray, List.getElem_cons_succ, List.getElem_cons_zero, Act.put, List.setIfInBounds_toArray, List.set_cons_zero, List.set_cons_succ]
  refine wpE_take' (v := ?_) 2 [13] (of_decide_eq_true (by kernel_rfl)) (by kernel_rfl) (by kernel_rfl) (by kernel_rfl) (by kernel_rfl) (fun _ _ _ h => h) (by kernel_rfl) ?_ hS0 ?_
  rotate_left
  · intro w' hSw
    simp only [List.getElem_toArray, List.getElem_cons_succ, List.getElem_cons_zero]
    go_simp
    all_goals with_reducible rfl
  simp only [List.getElem_toArray, List.getElem_cons_succ, List.getElem_cons_zero, Act.put, List.setIfInBounds_toArray, List.set_cons_zero, List.set_cons_succ]
  refine wpE_take' (v := ?_) 3 [13] (of_decide_eq_true (by kernel_rfl)) (by kernel_rfl) (by kernel_rfl) (by kernel_rfl) (by kernel_rfl) (fun _ _ _ h => h) (by kernel_rfl) ?_ hS0 ?_
  rotate_left
  · intro w' hSw
    simp only [List.getElem_toArray, List.getElem_cons_succ, List.getElem_cons_zero]
    go_simp
    all_goals with_reducible rfl
  simp only [List.getElem_toArray, List.getElem_cons_succ, List.getElem_cons_zero, Act.put, List.setIfInBounds_toArray, List.set_cons_zero, List.set_cons_succ]
  refine wpE_take' (v := ?_) 4 [13] (of_decide_eq_true (by kernel_rfl)) (by kernel_rfl) (by kernel_rfl) (by kernel_rfl) (by kernel_rfl) (fun _ _ _ h => h) (by kernel_rfl) ?_ hS0 ?_
  rotate_left
  · intro w' hSw
    simp only [List.getElem_toArray, List.getElem_cons_succ, List.getElem_cons_zero]
    go_simp
    all_goals with_reducible rfl
  simp only [List.getElem_toArray, List.getElem_cons_succ, List.getElem_cons_zero, Act.put, List.setIfInBounds_toArray, List.set_cons_zero, List.set_cons_succ]
  refine wpE_take' (v := ?_) 5 [13] (of_decide_eq_true (by kernel_rfl)) (by kernel_rfl) (by kernel_rfl) (by kernel_rfl) (by kernel_rfl) (fun _ _ _ h => h) (by kernel_rfl) ?_ hS0 ?_
  rotate_left
  · intro w' hSw
    simp only [List.getElem_toArray, List.getElem_cons_succ, List.getElem_cons_zero]
    go_simp
    all_goals with_reducible rfl
  simp only [List.getElem_toArray, List.getElem_cons_succ, List.getElem_cons_zero, Act.put, List.setIfInBounds_toArray, List.set_cons_zero, List.set_cons_succ]
  refine wpE_take' (v := ?_) 7 [13] (of_decide_eq_true (by kernel_rfl)) (by kernel_rfl) (by kernel_rfl) (by kernel_rfl) (by kernel_rfl) (fun _ _ _ h => h) (by kernel_rfl) ?_ hS0 ?_
  rotate_left
  · intro w' hSw
    simp only [List.getElem_toArray, List.getElem_cons_succ, List.getElem_cons_zero]
    go_simp
    all_goals with_reducible rfl
  simp only [List.getElem_toArray, List.getElem_cons_succ, List.getElem_cons_zero, Act.put, List.setIfInBounds_toArray, List.set_cons_zero, List.set_cons_succ]
  refine wpE_step' 6 (of_decide_eq_true (by kernel_rfl)) (by kernel_rfl) (by kernel_rfl) (fun K hK => ?_)
  simp only [List.getElem_toArray, List.getElem_cons_succ, List.getElem_cons_zero]
  go_simp
  go_at_call 89
  refine (pick_c g (N + 400) mx _ (by omega) (by omega) hP.rd.drew).mono ?_
  rintro e w3 ⟨v1, rfl, a1, a2, -, hR3, G3, -⟩
  have a3 := a2 (by omega)
  replace hP := hP.pick hgw hgX hR3 (undrew G3)
  refine hK.out _ _ (.inr hP.cells) ?_
  clear hK K hS0 hR3 G3
  have hS0 := hP.cells
  simp only [Act.put, List.setIfInBounds_toArray, List.set_cons_zero, List.set_cons_succ]
  refine wpE_step' 8 (of_decide_eq_true (by kernel_rfl)) (by kernel_rfl) (by kernel_rfl) (fun K hK => ?_)
  simp only [List.getElem_toArray, List.getElem_cons_succ, List.getElem_cons_zero]
  go_simp
  go_at_call 89
  refine (pick_c g (N + 400 + 1) 40 _ (by omega) (by omega) hP.rd).mono ?_
  rintro e w4 ⟨v2, rfl, b1, b2, -, hR4, G4, -⟩
  have b3 := b2 (by omega)
  replace hP := hP.pick hgw hgX hR4 G4
  refine hK.out _ _ (.inr hP.cells) ?_
  clear hK K hS0 hR4 G4
  have hS0 := hP.cells
  simp only [Act.put, List.setIfInBounds_toArray, List.set_cons_zero, List.set_cons_succ]
  refine wpE_take' (v := ?_) 9 [13] (of_decide_eq_true (by kernel_rfl)) (by kernel_rfl) (by kernel_rfl) (by kernel_rfl) (by kernel_rfl) (fun _ _ _ h => h) (by kernel_rfl) ?_ hS0 ?_
  rotate_left
  · intro w' hSw
    simp only [List.getElem_toArray, List.getElem_cons_succ, List.getElem_cons_zero]
    go_simp
    all_goals with_reducible rfl
  simp only [List.getElem_toArray, List.getElem_cons_succ, List.getElem_cons_zero, Act.put, List.setIfInBounds_toArray, List.set_cons_zero, List.set_cons_succ]
  obtain ⟨q, hq, hq0, hq1⟩ : ∃ q : Int, IntKind.i64.wrap (v2.tdiv 39) = q ∧ 0 ≤ q ∧ q ≤ 1 := by
    have e : v2.tdiv 39 = v2 / 39 := Int.tdiv_eq_ediv_of_nonneg b1
    refine ⟨v2 / 39, by rw [e]; exact IntWalk.i64_in _ (by omega), by omega, by omega⟩
  rw [hq]
  refine wpE_take' (v := ?_) 10 [13] (of_decide_eq_true (by kernel_rfl)) (by kernel_rfl) (by kernel_rfl) (by kernel_rfl) (by kernel_rfl) (fun _ _ _ h => h) (by kernel_rfl) ?_ hS0 ?_
  rotate_left
  · intro w' hSw
    simp only [List.getElem_toArray, List.getElem_cons_succ, List.getElem_cons_zero]
    go_simp
    all_goals with_reducible rfl
  simp only [List.getElem_toArray, List.getElem_cons_succ, List.getElem_cons_zero, Act.put, List.setIfInBounds_toArray, List.set_cons_zero, List.set_cons_succ]
  rw [show IntKind.i64.wrap (v1 + q) = v1 + q from IntWalk.i64_in _ (by omega)]
  obtain ⟨pt, hpt, hpt0, hpt1⟩ : ∃ pt : Int, v1 + q = pt ∧ 0 ≤ pt ∧ pt ≤ 8 := ⟨_, rfl, by omega, by omega⟩
  rw [hpt]
  clear hq hpt hq0 hq1 a1 a2 a3 b1 b2 b3 hmax hm0 hm1
  have y10 := hP.y1.z0
  have y11 := hP.y1.z1
  have y1f0 := hP.y1.zf 0
  have y1f1 := hP.y1.zf 1
  have y20 := hP.y2.z0
  have y21 := hP.y2.z1
  have y2f0 := hP.y2.zf 0
  have y2f1 := hP.y2.zf 1
  have hYX : w.heap.size < X := by omega
  have hYX2 : w.heap.size + 1 < X := by omega
  have n3 : ¬ X = w.heap.size := by omega
  have n4 : ¬ X = w.heap.size + 1 := by omega
  have n7 : ¬ w.heap.size = X := by omega
  have n8 : ¬ w.heap.size + 1 = X := by omega
  refine wpE_step' 11 (of_decide_eq_true (by kernel_rfl)) (by kernel_rfl) (by kernel_rfl) (fun K hK => ?_)
  simp only [List.getElem_toArray, List.getElem_cons_succ, List.getElem_cons_zero]
  go_simp
  refine hK.out _ _ (.inr (cells_set (cells_set hS0 hYX) hYX)) ?_
  clear hK K
  replace hS0 := cells_set (i := 1) (v := .slice A bs.length c) (cells_set (i := 0) (v := .int .i64 n) hS0 hYX) hYX
  simp only [Act.put, List.setIfInBounds_toArray, List.set_cons_zero, List.set_cons_succ]
  refine wpE_step' 12 (of_decide_eq_true (by kernel_rfl)) (by kernel_rfl) (by kernel_rfl) (fun K hK => ?_)
  simp only [List.getElem_toArray, List.getElem_cons_succ, List.getElem_cons_zero]
  go_simp
  refine hK.out _ _ (.inr (cells_set (cells_set hS0 hYX2) hYX2)) ?_
  clear hK K
  replace hS0 := cells_set (i := 1) (v := .slice At xs.length ct) (cells_set (i := 0) (v := .int .i64 now) hS0 hYX2) hYX2
  simp only [Act.put, List.setIfInBounds_toArray, List.set_cons_zero, List.set_cons_succ]
  refine wpE_step' 13 (of_decide_eq_true (by kernel_rfl)) (by kernel_rfl) (by kernel_rfl) (fun K hK => ?_)
  simp only [List.getElem_toArray, List.getElem_cons_succ, List.getElem_cons_zero]
  go_simp
  refine hK.out _ _ (.inl rfl) ?_
  clear hK K hS0
  simp only [Act.put, List.setIfInBounds_toArray, List.set_cons_zero, List.set_cons_succ]
  refine wpE_done (by kernel_rfl) ?_ _
  obtain ⟨r0, r1, u0, u1, q1, q2, q3, q4⟩ := DS.fin (q := now) (xs := xs) (A2 := At) (c2 := ct) (n := n) hP.gr hP.rd hP.y1 hP.y2 hP.own hgw hP.own2
  go_wp2_with fail
  refine bodyPost_ret (v := .tuple #[.agg #[.int .i64 n, .slice A bs.length c], .agg #[.int .i64 now, .slice At xs.length ct], .int .i64 pt]) (by simp [results, Try.results126, go_sem, r0, r1, u0, u1]) rfl ?_
  exact ⟨n, A, c, bs, now, At, ct, xs, pt, rfl, hn, hlb, hnow, hlx, ⟨hpt0, hpt1⟩, q1, q2, q3.more (by omega), q4⟩

/-- The same, the results' boxes ahead of the reader. -/
structure PU (w0 wr : World) (T g : Nat) (K : Int) (X : Nat) (n : Int) (A : Option Addr) (c : Nat) (bs : List Bd) (now : Int) (At : Option Addr) (ct : Nat) (xs : List Int) : Prop where
  bel : Below w0.heap.size w0 wr
  rd : RdO wr g K
  x0 : wr.cell? ⟨X, 0, none⟩ = some (.int .i64 n)
  x1 : wr.cell? ⟨X, 1, none⟩ = some (.slice A bs.length c)
  s0 : wr.cell? ⟨X + 1, 0, none⟩ = some (.int .i64 now)
  s1 : wr.cell? ⟨X + 1, 1, none⟩ = some (.slice At xs.length ct)
  ex : X + 1 < wr.heap.size
  y1 : ZB w0 wr w0.heap.size
  y2 : ZB w0 wr (w0.heap.size + 1)
  own : OwnB T wr (.slice A bs.length c) bs
  own2 : OwnI T wr (.slice At xs.length ct) xs
section
variable {w0 wr w' : World} {T g X : Nat} {K K' : Int} {n now : Int} {A At : Option Addr} {c ct : Nat} {bs : List Bd} {xs : List Int}
theorem PU.below (h : PU w0 wr T g K X n A c bs now At ct xs) (hb : Below wr.heap.size wr w') : PU w0 w' T g K X n A c bs now At ct xs := by
  have hx := h.ex
  exact ⟨bthen h.bel hb, h.rd.below hb, ((bcell hb).1 _ _ (by omega)).trans h.x0, ((bcell hb).1 _ _ (by omega)).trans h.x1, ((bcell hb).1 _ _ hx).trans h.s0, ((bcell hb).1 _ _ hx).trans h.s1, Nat.lt_of_lt_of_le hx hb.size, h.y1.below hb, h.y2.below hb, own_below h.own hb, own_below h.own2 hb⟩
theorem PU.pick (h : PU w0 wr T g K X n A c bs now At ct xs) (hgw : w0.heap.size + 1 < g) (hgT : g < T) (hgX : g < X) (hR : RdO w' g K') (G : wr.grownBy w' (some g)) : PU w0 w' T g K' X n A c bs now At ct xs := by
  have hx := h.ex
  have hs := h.bel.size
  exact ⟨h.bel.grown G hs (fun k e => by injection e with e; omega), hR, far_cell G h.x0 (by omega), far_cell G h.x1 (by omega), far_cell G h.s0 (by omega), far_cell G h.s1 (by omega), Nat.lt_of_lt_of_le hx G.size, h.y1.grown G (fun k e => by injection e with e; omega), h.y2.grown G (fun k e => by injection e with e; omega), own_far h.own G hgT, own_far h.own2 G hgT⟩
theorem PU.cells (h : PU w0 wr T g K X n A c bs now At ct xs) : wr.cell? ⟨X, 0, none⟩ = some (.int .i64 n) ∧ wr.cell? ⟨X, 1, none⟩ = some (.slice A bs.length c) ∧ wr.cell? ⟨X + 1, 0, none⟩ = some (.int .i64 now) ∧ wr.cell? ⟨X + 1, 1, none⟩ = some (.slice At xs.length ct) := ⟨h.x0, h.x1, h.s0, h.s1⟩
theorem pu_new {w2 : World} {t t2 : TypeId} (bel : Below w0.heap.size w0 w2) (rd : RdO w2 g K) (y1 : ZB w0 w2 w0.heap.size) (y2 : ZB w0 w2 (w0.heap.size + 1)) (own : OwnB T w2 (.slice A bs.length c) bs) (own2 : OwnI T w2 (.slice At xs.length ct) xs) :
    PU w0 ((w2.alloc (.cells #[.int .i64 n, .slice A bs.length c] t)).alloc (.cells #[.int .i64 now, .slice At xs.length ct] t2)) T g K w2.heap.size n A c bs now At ct xs := by
  have hb : Below w2.heap.size w2 ((w2.alloc (.cells #[.int .i64 n, .slice A bs.length c] t)).alloc (.cells #[.int .i64 now, .slice At xs.length ct] t2)) := by go_grown
  have hs : w2.heap.size + 1 = (w2.alloc (.cells #[.int .i64 n, .slice A bs.length c] t)).heap.size := by simp
  refine ⟨bthen bel hb, rd.below hb, by simp [go_sem], by simp [go_sem], ?_, ?_, by simp, y1.below hb, y2.below hb, own_below own hb, own_below own2 hb⟩
  · rw [hs]; simp [go_sem]
  · rw [hs]; simp [go_sem]
/-- The two results are put into their boxes. -/
theorem PU.fin (h : PU w0 wr T g K X n A c bs now At ct xs) (hT : w0.heap.size + 2 ≤ T) :
    let w1 := (wr.setCell ⟨w0.heap.size, 0, none⟩ (.int .i64 n)).setCell ⟨w0.heap.size, 1, none⟩ (.slice A bs.length c)
    let w2 := (w1.setCell ⟨w0.heap.size + 1, 0, none⟩ (.int .i64 now)).setCell ⟨w0.heap.size + 1, 1, none⟩ (.slice At xs.length ct)
    w2.cell? ⟨w0.heap.size, 0, none⟩ = some (.int .i64 n) ∧ w2.cell? ⟨w0.heap.size, 1, none⟩ = some (.slice A bs.length c) ∧ w2.cell? ⟨w0.heap.size + 1, 0, none⟩ = some (.int .i64 now) ∧ w2.cell? ⟨w0.heap.size + 1, 1, none⟩ = some (.slice At xs.length ct) ∧
    (∃ b, BdsR w2 w2.heap.size b 0 A bs) ∧ (∃ b, IntsR w2 w2.heap.size b 0 At xs) ∧ Below w0.heap.size w0 w2 := by
  intro w1 w2
  obtain ⟨r0, r1⟩ := two_cells (a := .int .i64 n) (b := .slice A bs.length c) h.y1.z0 h.y1.z1
  have hne : w0.heap.size ≠ w0.heap.size + 1 := by omega
  have y2' : ZB w0 w1 (w0.heap.size + 1) := (h.y2.set hne).set hne
  obtain ⟨u0, u1⟩ := two_cells (a := .int .i64 now) (b := .slice At xs.length ct) y2'.z0 y2'.z1
  have f : ∀ a : Addr, a.block = w0.heap.size → w2.cell? a = w1.cell? a := fun a ha => (set_other (by rw [ha]; dsimp only; omega)).trans (set_other (by rw [ha]; dsimp only; omega))
  have lowB : ∀ {W : World} (p : Addr) (v : Value), p.block < w0.heap.size + 2 → OwnB T W (.slice A bs.length c) bs → OwnB T (W.setCell p v) (.slice A bs.length c) bs := fun p v hp h => own_set_low h (by omega) v
  have lowI : ∀ {W : World} (p : Addr) (v : Value), p.block < w0.heap.size + 2 → OwnI T W (.slice At xs.length ct) xs → OwnI T (W.setCell p v) (.slice At xs.length ct) xs := fun p v hp h => own_set_low h (by omega) v
  refine ⟨(f _ rfl).trans r0, (f _ rfl).trans r1, u0, u1, ?_, ?_, ?_⟩
  · exact OwnB.readsA (lowB _ _ (by dsimp only; omega) (lowB _ _ (by dsimp only; omega) (lowB _ _ (by dsimp only; omega) (lowB _ _ (by dsimp only; omega) h.own))))
  · exact own_IntsR (lowI _ _ (by dsimp only; omega) (lowI _ _ (by dsimp only; omega) (lowI _ _ (by dsimp only; omega) (lowI _ _ (by dsimp only; omega) h.own2))))
  · exact (((h.bel.setCell (by dsimp only; omega) _).setCell (by dsimp only; omega) _).setCell (by dsimp only; omega) _).setCell (by dsimp only; omega) _
end

set_option maxHeartbeats 4000000 in
set_option maxRecDepth 100000 in
theorem drawDoAt_c (A0 : Option Addr) (n0 c0 : Nat) (zs : List Int) (w : World) (hn0 : n0 ≤ 1048576) (hc0 : n0 ≤ c0) (hA0 : n0 = 0 ∨ A0.isSome = true) (hb0 : BytesAt w w.heap.size A0 n0 zs) :
    Calls Try.prog 60 #[.slice A0 n0 c0] w fun e w' =>
      ∃ n A c bs b now At ct xs bt pt tm, e = .returned (.tuple #[.agg #[.int .i64 n, .slice A bs.length c], .agg #[.int .i64 now, .slice At xs.length ct], .int .i64 pt, .int .i64 tm]) ∧ (0 ≤ n ∧ n ≤ 7) ∧ bs.length ≤ 16 ∧ (0 ≤ now ∧ now ≤ 3000) ∧ xs.length ≤ 8 ∧ (0 ≤ pt ∧ pt ≤ 8) ∧
        BdsR w' w'.heap.size b 0 A bs ∧ IntsR w' w'.heap.size bt 0 At xs ∧ Below w.heap.size w w' := by
  have hY1 : ZB w ((w.alloc (.cells #[.int .i64 0, .slice none 0 0] 25)).alloc (.cells #[.int .i64 0, .slice none 0 0] 70)) w.heap.size := (zb_new (w0 := w) (W := w) (t := 25) (Nat.le_refl _)).below (by go_grown)
  have hY2 : ZB w ((w.alloc (.cells #[.int .i64 0, .slice none 0 0] 25)).alloc (.cells #[.int .i64 0, .slice none 0 0] 70)) (w.heap.size + 1) := by
    have h := zb_new (w0 := w) (W := w.alloc (.cells #[.int .i64 0, .slice none 0 0] 25)) (t := 70) (by simp)
    simpa using h
  have hb0' : Below w.heap.size w ((w.alloc (.cells #[.int .i64 0, .slice none 0 0] 25)).alloc (.cells #[.int .i64 0, .slice none 0 0] 70)) := by go_grown
  have hs0 : w.heap.size + 2 ≤ ((w.alloc (.cells #[.int .i64 0, .slice none 0 0] 25)).alloc (.cells #[.int .i64 0, .slice none 0 0] 70)).heap.size := by simp
  go_enter Try.func60, Try.ntmps60
  go_upto_region 1 with fail
  have hbz := hb0.below hb0' hb0'.size
  generalize (w.alloc (.cells #[.int .i64 0, .slice none 0 0] 25)).alloc (.cells #[.int .i64 0, .slice none 0 0] 70) = W at hY1 hY2 hb0' hs0 hbz ⊢
  go_upto_region 3 with (first
    | (go_at_call 80; go_fit (open_c A0 n0 c0 zs _ hn0 hc0 hA0 hbz); rintro e w1 ⟨rfl, hR1, hb1, hs1⟩; replace hY1 := hY1.below hb1; replace hY2 := hY2.below hb1; replace hb0' := bthen hb0' hb1)
    | (go_at_call 126; go_fit (point_c _ 0 _ (by omega) hR1); rintro e w2 ⟨n, A, c, bs, now, At, ct, xs, pt, rfl, hn, hlb, hnow, hlx, hpt, ho, ho2, hR2, G2⟩))
  have hgs : w.heap.size + 1 < W.heap.size := by omega
  have hgT : W.heap.size < w1.heap.size := by omega
  have hTX := G2.size
  have hP := pu_new (t := 25) (t2 := 70) (n := n) (now := now) (hb0'.grown G2 hb0'.size (fun k e => by injection e with e; omega)) hR2 (hY1.grown G2 (fun k e => by injection e with e; omega)) (hY2.grown G2 (fun k e => by injection e with e; omega)) ho ho2
  have hgw := hgs
  have hT2 : w.heap.size + 2 ≤ w1.heap.size := by omega
  have hgX : W.heap.size < w2.heap.size := by omega
  clear hY1 hY2 hb0' hs0 hbz hR1 hb1 hs1 hR2 G2 ho ho2 hgs
  generalize (w2.alloc (.cells #[.int .i64 n, .slice A bs.length c] 25)).alloc (.cells #[.int .i64 now, .slice At xs.length ct] 70) = W2 at hP ⊢
  generalize W.heap.size = g at hP hgw hgT hgX ⊢
  have hYX : w.heap.size < w2.heap.size := by omega
  have hYX2 : w.heap.size + 1 < w2.heap.size := by omega
  generalize w2.heap.size = X at hP hgX hTX hYX hYX2 ⊢
  generalize w1.heap.size = T at hP hgT hTX hT2 ⊢
  have p0 := hP.x0
  have p1 := hP.x1
  have s0 := hP.s0
  have s1 := hP.s1
  obtain ⟨g1, hrd⟩ := OwnB.readsA hP.own
  obtain ⟨g2, hrs⟩ := own_IntsR hP.own2
  go_upto_region 4 with (go_at_call 127; go_fit (sWindowOf_c ⟨n, bs⟩ ⟨now, xs⟩ pt A At g1 0 c g2 0 ct _ _ (by dsimp only; omega) (by dsimp only; omega) (Nat.le_refl _) hrd hrs); rintro e w7 ⟨rfl, hb7⟩; replace hP := hP.below hb7)
  have hwa := window_abs (p := ⟨n, bs⟩) (s := ⟨now, xs⟩) (pt := pt)
  generalize (window ⟨n, bs⟩ ⟨now, xs⟩ pt).1 = lo at hwa ⊢
  generalize (window ⟨n, bs⟩ ⟨now, xs⟩ pt).2.1 = hi at hwa ⊢
  generalize (window ⟨n, bs⟩ ⟨now, xs⟩ pt).2.2 = ok at hwa ⊢
  obtain ⟨⟨lo1, lo2⟩, hi1, hi2⟩ := hwa
  clear hb7 hrd hrs p0 p1 s0 s1
  have hd : IntKind.i64.wrap (hi - lo) = hi - lo := IntWalk.i64_in _ (by omega)
  have n3 : ¬ X = w.heap.size := by omega
  have n4 : ¬ X = w.heap.size + 1 := by omega
  have n7 : ¬ w.heap.size = X := by omega
  have n8 : ¬ w.heap.size + 1 = X := by omega
  by_cases hc : hi - lo < 100 ∧ lo ≤ hi
  · obtain ⟨hc1, hc2⟩ := hc
    have hd2 : IntKind.i64.wrap (hi - lo + 2) = hi - lo + 2 := IntWalk.i64_in _ (by omega)
    go_upto_region 5 with fail
    have hS0 : w7.drew.cell? ⟨X, 0, none⟩ = some (.int .i64 n) ∧ w7.drew.cell? ⟨X, 1, none⟩ = some (.slice A bs.length c) ∧ w7.drew.cell? ⟨X + 1, 0, none⟩ = some (.int .i64 now) ∧ w7.drew.cell? ⟨X + 1, 1, none⟩ = some (.slice At xs.length ct) := hP.cells
    replace hP := hP.below (show Below w7.heap.size w7 w7.drew by go_grown)
    refine wp_regionE (fun w' => w'.cell? ⟨X, 0, none⟩ = some (.int .i64 n) ∧ w'.cell? ⟨X, 1, none⟩ = some (.slice A bs.length c) ∧ w'.cell? ⟨X + 1, 0, none⟩ = some (.int .i64 now) ∧ w'.cell? ⟨X + 1, 1, none⟩ = some (.slice At xs.length ct)) 14 (by kernel_rfl) ?_
    change wpE _ _ _ _ _ _ 15 #[false, false, false, false, false, false, false, false, false, false, false, false, false, false, false] _ _
    refine wpE_take' (v := ?_) 0 [14] (of_decide_eq_true (by kernel_rfl)) (by kernel_rfl) (by kernel_rfl) (by kernel_rfl) (by kernel_rfl) (fun _ _ _ h => h) (by kernel_rfl) ?_ hS0 ?_
    rotate_left
    · intro w' hSw
      simp only [List.getElem_toArray, List.getElem_cons_succ, List.getElem_cons_zero]
      go_simp
      all_goals with_reducible rfl
    simp only [List.getElem_toArray, List.getElem_cons_succ, List.getElem_cons_zero, Act.put, List.setIfInBounds_toArray, List.set_cons_zero, List.set_cons_succ]
    refine wpE_take' (v := ?_) 1 [14] (of_decide_eq_true (by kernel_rfl)) (by kernel_rfl) (by kernel_rfl) (by kernel_rfl) (by kernel_rfl) (fun _ _ _ h => h) (by kernel_rfl) ?_ hS0 ?_
    rotate_left
    · intro w' hSw
      simp only [List.getElem_toArray, List.getElem_cons_succ, List.getElem_cons_zero]
      go_simp
      all_goals with_reducible rfl
    simp only [List.getElem_toArray, List.getElem_cons_succ, List.getElem_cons_zero, Act.put, List.setIfInBounds_toArray, List.set_cons_zero, List.set_cons_succ]
    refine wpE_take' (v := ?_) 2 [14] (of_decide_eq_true (by kernel_rfl)) (by kernel_rfl) (by kernel_rfl) (by kernel_rfl) (by kernel_rfl) (fun _ _ _ h => h) (by kernel_rfl) ?_ hS0 ?_
    rotate_left
    · intro w' hSw
      simp only [List.getElem_toArray, List.getElem_cons_succ, List.getElem_cons_zero]
      go_simp
      all_goals with_reducible rfl
    simp only [List.getElem_toArray, List.getElem_cons_succ, List.getElem_cons_zero, Act.put, List.setIfInBounds_toArray, List.set_cons_zero, List.set_cons_succ]
    refine wpE_take' (v := ?_) 3 [14] (of_decide_eq_true (by kernel_rfl)) (by kernel_rfl) (by kernel_rfl) (by kernel_rfl) (by kernel_rfl) (fun _ _ _ h => h) (by kernel_rfl) ?_ hS0 ?_
    rotate_left
    · intro w' hSw
      simp only [List.getElem_toArray, List.getElem_cons_succ, List.getElem_cons_zero]
      go_simp
      all_goals with_reducible rfl
    simp only [List.getElem_toArray, List.getElem_cons_succ, List.getElem_cons_zero, Act.put, List.setIfInBounds_toArray, List.set_cons_zero, List.set_cons_succ]
    refine wpE_take' (v := ?_) 4 [14] (of_decide_eq_true (by kernel_rfl)) (by kernel_rfl) (by kernel_rfl) (by kernel_rfl) (by kernel_rfl) (fun _ _ _ h => h) (by kernel_rfl) ?_ hS0 ?_
    rotate_left
    · intro w' hSw
      simp only [List.getElem_toArray, List.getElem_cons_succ, List.getElem_cons_zero]
      go_simp
      all_goals with_reducible rfl
    simp only [List.getElem_toArray, List.getElem_cons_succ, List.getElem_cons_zero, Act.put, List.setIfInBounds_toArray, List.set_cons_zero, List.set_cons_succ]
    refine wpE_take' (v := ?_) 5 [14] (of_decide_eq_true (by kernel_rfl)) (by kernel_rfl) (by kernel_rfl) (by kernel_rfl) (by kernel_rfl) (fun _ _ _ h => h) (by kernel_rfl) ?_ hS0 ?_
    rotate_left
    · intro w' hSw
      simp only [List.getElem_toArray, List.getElem_cons_succ, List.getElem_cons_zero]
      go_simp
      all_goals with_reducible rfl
    simp only [List.getElem_toArray, List.getElem_cons_succ, List.getElem_cons_zero, Act.put, List.setIfInBounds_toArray, List.set_cons_zero, List.set_cons_succ]
    refine wpE_take' (v := ?_) 6 [14] (of_decide_eq_true (by kernel_rfl)) (by kernel_rfl) (by kernel_rfl) (by kernel_rfl) (by kernel_rfl) (fun _ _ _ h => h) (by kernel_rfl) ?_ hS0 ?_
    rotate_left
    · intro w' hSw
      simp only [List.getElem_toArray, List.getElem_cons_succ, List.getElem_cons_zero]
      go_simp
      all_goals with_reducible rfl
    simp only [List.getElem_toArray, List.getElem_cons_succ, List.getElem_cons_zero, Act.put, List.setIfInBounds_toArray, List.set_cons_zero, List.set_cons_succ]
    refine wpE_take' (v := ?_) 7 [14] (of_decide_eq_true (by kernel_rfl)) (by kernel_rfl) (by kernel_rfl) (by kernel_rfl) (by kernel_rfl) (fun _ _ _ h => h) (by kernel_rfl) ?_ hS0 ?_
    rotate_left
    · intro w' hSw
      simp only [List.getElem_toArray, List.getElem_cons_succ, List.getElem_cons_zero]
      go_simp
      all_goals with_reducible rfl
    simp only [List.getElem_toArray, List.getElem_cons_succ, List.getElem_cons_zero, Act.put, List.setIfInBounds_toArray, List.set_cons_zero, List.set_cons_succ]
    refine wpE_take' (v := ?_) 8 [14] (of_decide_eq_true (by kernel_rfl)) (by kernel_rfl) (by kernel_rfl) (by kernel_rfl) (by kernel_rfl) (fun _ _ _ h => h) (by kernel_rfl) ?_ hS0 ?_
    rotate_left
    · intro w' hSw
      simp only [List.getElem_toArray, List.getElem_cons_succ, List.getElem_cons_zero]
      go_simp
      all_goals with_reducible rfl
    simp only [List.getElem_toArray, List.getElem_cons_succ, List.getElem_cons_zero, Act.put, List.setIfInBounds_toArray, List.set_cons_zero, List.set_cons_succ]
    refine wpE_step' 9 (of_decide_eq_true (by kernel_rfl)) (by kernel_rfl) (by kernel_rfl) (fun K hK => ?_)
    simp only [List.getElem_toArray, List.getElem_cons_succ, List.getElem_cons_zero]
    go_simp
    go_at_call 89
    refine (pick_c g _ (hi - lo + 2) _ (by omega) (by omega) hP.rd).mono ?_
    rintro e w8 ⟨v1, rfl, a1, a2, -, hR3, G3, -⟩
    have a3 := a2 (by omega)
    replace hP := hP.pick hgw hgT hgX hR3 G3
    refine hK.out _ _ (.inr hP.cells) ?_
    clear hK K hS0 hR3 G3
    have hS0 := hP.cells
    simp only [Act.put, List.setIfInBounds_toArray, List.set_cons_zero, List.set_cons_succ]
    refine wpE_take' (v := ?_) 10 [14] (of_decide_eq_true (by kernel_rfl)) (by kernel_rfl) (by kernel_rfl) (by kernel_rfl) (by kernel_rfl) (fun _ _ _ h => h) (by kernel_rfl) ?_ hS0 ?_
    rotate_left
    · intro w' hSw
      simp only [List.getElem_toArray, List.getElem_cons_succ, List.getElem_cons_zero]
      go_simp
      all_goals with_reducible rfl
    simp only [List.getElem_toArray, List.getElem_cons_succ, List.getElem_cons_zero, Act.put, List.setIfInBounds_toArray, List.set_cons_zero, List.set_cons_succ]
    obtain ⟨tm, htm⟩ : ∃ tm, IntKind.i64.wrap (lo + v1) = tm := ⟨_, rfl⟩
    try rw [htm]
    have y10 := hP.y1.z0
    have y11 := hP.y1.z1
    have y1f0 := hP.y1.zf 0
    have y1f1 := hP.y1.zf 1
    have y20 := hP.y2.z0
    have y21 := hP.y2.z1
    have y2f0 := hP.y2.zf 0
    have y2f1 := hP.y2.zf 1
    refine wpE_step' 11 (of_decide_eq_true (by kernel_rfl)) (by kernel_rfl) (by kernel_rfl) (fun K hK => ?_)
    simp only [List.getElem_toArray, List.getElem_cons_succ, List.getElem_cons_zero]
    go_simp
    refine hK.out _ _ (.inr (cells_set (cells_set hS0 hYX) hYX)) ?_
    clear hK K
    replace hS0 := cells_set (i := 1) (v := .slice A bs.length c) (cells_set (i := 0) (v := .int .i64 n) hS0 hYX) hYX
    simp only [Act.put, List.setIfInBounds_toArray, List.set_cons_zero, List.set_cons_succ]
    refine wpE_step' 12 (of_decide_eq_true (by kernel_rfl)) (by kernel_rfl) (by kernel_rfl) (fun K hK => ?_)
    simp only [List.getElem_toArray, List.getElem_cons_succ, List.getElem_cons_zero]
    go_simp
    refine hK.out _ _ (.inr (cells_set (cells_set hS0 hYX2) hYX2)) ?_
    clear hK K
    replace hS0 := cells_set (i := 1) (v := .slice At xs.length ct) (cells_set (i := 0) (v := .int .i64 now) hS0 hYX2) hYX2
    simp only [Act.put, List.setIfInBounds_toArray, List.set_cons_zero, List.set_cons_succ]
    refine wpE_step' 13 (of_decide_eq_true (by kernel_rfl)) (by kernel_rfl) (by kernel_rfl) (fun K hK => ?_)
    simp only [List.getElem_toArray, List.getElem_cons_succ, List.getElem_cons_zero]
    go_simp
    refine hK.out _ _ (.inr hS0) ?_
    clear hK K
    simp only [Act.put, List.setIfInBounds_toArray, List.set_cons_zero, List.set_cons_succ]
    refine wpE_step' 14 (of_decide_eq_true (by kernel_rfl)) (by kernel_rfl) (by kernel_rfl) (fun K hK => ?_)
    simp only [List.getElem_toArray, List.getElem_cons_succ, List.getElem_cons_zero]
    go_simp
    refine hK.out _ _ (.inl rfl) ?_
    clear hK K hS0
    simp only [Act.put, List.setIfInBounds_toArray, List.set_cons_zero, List.set_cons_succ]
    refine wpE_done (by kernel_rfl) ?_ _
    obtain ⟨r0, r1, u0, u1, ⟨b, q1⟩, ⟨bt, q2⟩, q3⟩ := hP.fin hT2
    go_wp2_with fail
    refine bodyPost_ret (v := .tuple #[.agg #[.int .i64 n, .slice A bs.length c], .agg #[.int .i64 now, .slice At xs.length ct], .int .i64 pt, .int .i64 tm]) (by simp [results, Try.results60, go_sem, r0, r1, u0, u1]) rfl ?_
    first | exact ⟨n, A, c, bs, b, now, At, ct, xs, bt, pt, ⟨tm, rfl⟩, hn, hlb, hnow, hlx, hpt, q1, q2, q3⟩ | exact ⟨n, A, c, bs, b, now, At, ct, xs, bt, pt, tm, rfl, hn, hlb, hnow, hlx, hpt, q1, q2, q3⟩
  · have hor : (¬ hi - lo < 100) ∨ (hi - lo < 100 ∧ ¬ lo ≤ hi) := by omega
    clear hc
    rcases hor with hc1 | ⟨hc1, hc2⟩
    · skip
      go_upto_region 6 with fail
      have hS0 : w7.drew.cell? ⟨X, 0, none⟩ = some (.int .i64 n) ∧ w7.drew.cell? ⟨X, 1, none⟩ = some (.slice A bs.length c) ∧ w7.drew.cell? ⟨X + 1, 0, none⟩ = some (.int .i64 now) ∧ w7.drew.cell? ⟨X + 1, 1, none⟩ = some (.slice At xs.length ct) := hP.cells
      replace hP := hP.below (show Below w7.heap.size w7 w7.drew by go_grown)
      refine wp_regionE (fun w' => w'.cell? ⟨X, 0, none⟩ = some (.int .i64 n) ∧ w'.cell? ⟨X, 1, none⟩ = some (.slice A bs.length c) ∧ w'.cell? ⟨X + 1, 0, none⟩ = some (.int .i64 now) ∧ w'.cell? ⟨X + 1, 1, none⟩ = some (.slice At xs.length ct)) 13 (by kernel_rfl) ?_
      change wpE _ _ _ _ _ _ 14 #[false, false, false, false, false, false, false, false, false, false, false, false, false, false] _ _
      refine wpE_take' (v := ?_) 0 [13] (of_decide_eq_true (by kernel_rfl)) (by kernel_rfl) (by kernel_rfl) (by kernel_rfl) (by kernel_rfl) (fun _ _ _ h => h) (by kernel_rfl) ?_ hS0 ?_
      rotate_left
      · intro w' hSw
        simp only [List.getElem_toArray, List.getElem_cons_succ, List.getElem_cons_zero]
        go_simp
        all_goals with_reducible rfl
      simp only [List.getElem_toArray, List.getElem_cons_succ, List.getElem_cons_zero, Act.put, List.setIfInBounds_toArray, List.set_cons_zero, List.set_cons_succ]
      refine wpE_take' (v := ?_) 1 [13] (of_decide_eq_true (by kernel_rfl)) (by kernel_rfl) (by kernel_rfl) (by kernel_rfl) (by kernel_rfl) (fun _ _ _ h => h) (by kernel_rfl) ?_ hS0 ?_
      rotate_left
      · intro w' hSw
        simp only [List.getElem_toArray, List.getElem_cons_succ, List.getElem_cons_zero]
        go_simp
        all_goals with_reducible rfl
      simp only [List.getElem_toArray, List.getElem_cons_succ, List.getElem_cons_zero, Act.put, List.setIfInBounds_toArray, List.set_cons_zero, List.set_cons_succ]
      refine wpE_take' (v := ?_) 2 [13] (of_decide_eq_true (by kernel_rfl)) (by kernel_rfl) (by kernel_rfl) (by kernel_rfl) (by kernel_rfl) (fun _ _ _ h => h) (by kernel_rfl) ?_ hS0 ?_
      rotate_left
      · intro w' hSw
        simp only [List.getElem_toArray, List.getElem_cons_succ, List.getElem_cons_zero]
        go_simp
        all_goals with_reducible rfl
      simp only [List.getElem_toArray, List.getElem_cons_succ, List.getElem_cons_zero, Act.put, List.setIfInBounds_toArray, List.set_cons_zero, List.set_cons_succ]
      refine wpE_take' (v := ?_) 3 [13] (of_decide_eq_true (by kernel_rfl)) (by kernel_rfl) (by kernel_rfl) (by kernel_rfl) (by kernel_rfl) (fun _ _ _ h => h) (by kernel_rfl) ?_ hS0 ?_
      rotate_left
      · intro w' hSw
        simp only [List.getElem_toArray, List.getElem_cons_succ, List.getElem_cons_zero]
        go_simp
        all_goals with_reducible rfl
      simp only [List.getElem_toArray, List.getElem_cons_succ, List.getElem_cons_zero, Act.put, List.setIfInBounds_toArray, List.set_cons_zero, List.set_cons_succ]
      refine wpE_take' (v := ?_) 4 [13] (of_decide_eq_true (by kernel_rfl)) (by kernel_rfl) (by kernel_rfl) (by kernel_rfl) (by kernel_rfl) (fun _ _ _ h => h) (by kernel_rfl) ?_ hS0 ?_
      rotate_left
      · intro w' hSw
        simp only [List.getElem_toArray, List.getElem_cons_succ, List.getElem_cons_zero]
        go_simp
        all_goals with_reducible rfl
      simp only [List.getElem_toArray, List.getElem_cons_succ, List.getElem_cons_zero, Act.put, List.setIfInBounds_toArray, List.set_cons_zero, List.set_cons_succ]
      refine wpE_take' (v := ?_) 7 [13] (of_decide_eq_true (by kernel_rfl)) (by kernel_rfl) (by kernel_rfl) (by kernel_rfl) (by kernel_rfl) (fun _ _ _ h => h) (by kernel_rfl) ?_ hS0 ?_
      rotate_left
      · intro w' hSw
        simp only [List.getElem_toArray, List.getElem_cons_succ, List.getElem_cons_zero]
        go_simp
        all_goals with_reducible rfl
      simp only [List.getElem_toArray, List.getElem_cons_succ, List.getElem_cons_zero, Act.put, List.setIfInBounds_toArray, List.set_cons_zero, List.set_cons_succ]
      refine wpE_step' 5 (of_decide_eq_true (by kernel_rfl)) (by kernel_rfl) (by kernel_rfl) (fun K hK => ?_)
      simp only [List.getElem_toArray, List.getElem_cons_succ, List.getElem_cons_zero]
      go_simp
      go_at_call 89
      refine (pick_c g _ 9 _ (by omega) (by omega) hP.rd).mono ?_
      rintro e w8 ⟨v1, rfl, a1, a2, -, hR3, G3, -⟩
      have a3 := a2 (by omega)
      replace hP := hP.pick hgw hgT hgX hR3 G3
      refine hK.out _ _ (.inr hP.cells) ?_
      clear hK K hS0 hR3 G3
      have hS0 := hP.cells
      simp only [Act.put, List.setIfInBounds_toArray, List.set_cons_zero, List.set_cons_succ]
      refine wpE_take' (v := ?_) 6 [13] (of_decide_eq_true (by kernel_rfl)) (by kernel_rfl) (by kernel_rfl) (by kernel_rfl) (by kernel_rfl) (fun _ _ _ h => h) (by kernel_rfl) ?_ hS0 ?_
      rotate_left
      · intro w' hSw
        simp only [List.getElem_toArray, List.getElem_cons_succ, List.getElem_cons_zero]
        go_simp
        all_goals with_reducible rfl
      simp only [List.getElem_toArray, List.getElem_cons_succ, List.getElem_cons_zero, Act.put, List.setIfInBounds_toArray, List.set_cons_zero, List.set_cons_succ]
      refine wpE_step' 8 (of_decide_eq_true (by kernel_rfl)) (by kernel_rfl) (by kernel_rfl) (fun K hK => ?_)
      simp only [List.getElem_toArray, List.getElem_cons_succ, List.getElem_cons_zero]
      go_simp
      go_at_call 89
      refine (pick_c g _ 2 _ (by omega) (by omega) hP.rd).mono ?_
      rintro e w9 ⟨v2, rfl, a1, a2, -, hR3, G3, -⟩
      have a3 := a2 (by omega)
      replace hP := hP.pick hgw hgT hgX hR3 G3
      refine hK.out _ _ (.inr hP.cells) ?_
      clear hK K hS0 hR3 G3
      have hS0 := hP.cells
      simp only [Act.put, List.setIfInBounds_toArray, List.set_cons_zero, List.set_cons_succ]
      refine wpE_take' (v := ?_) 9 [13] (of_decide_eq_true (by kernel_rfl)) (by kernel_rfl) (by kernel_rfl) (by kernel_rfl) (by kernel_rfl) (fun _ _ _ h => h) (by kernel_rfl) ?_ hS0 ?_
      rotate_left
      · intro w' hSw
        simp only [List.getElem_toArray, List.getElem_cons_succ, List.getElem_cons_zero]
        go_simp
        all_goals with_reducible rfl
      simp only [List.getElem_toArray, List.getElem_cons_succ, List.getElem_cons_zero, Act.put, List.setIfInBounds_toArray, List.set_cons_zero, List.set_cons_succ]
      obtain ⟨tm, htm⟩ : ∃ tm, IntKind.i64.wrap (IntKind.i64.wrap (lo + v1) - v2) = tm := ⟨_, rfl⟩
      try rw [htm]
      have y10 := hP.y1.z0
      have y11 := hP.y1.z1
      have y1f0 := hP.y1.zf 0
      have y1f1 := hP.y1.zf 1
      have y20 := hP.y2.z0
      have y21 := hP.y2.z1
      have y2f0 := hP.y2.zf 0
      have y2f1 := hP.y2.zf 1
      refine wpE_step' 10 (of_decide_eq_true (by kernel_rfl)) (by kernel_rfl) (by kernel_rfl) (fun K hK => ?_)
      simp only [List.getElem_toArray, List.getElem_cons_succ, List.getElem_cons_zero]
      go_simp
      refine hK.out _ _ (.inr (cells_set (cells_set hS0 hYX) hYX)) ?_
      clear hK K
      replace hS0 := cells_set (i := 1) (v := .slice A bs.length c) (cells_set (i := 0) (v := .int .i64 n) hS0 hYX) hYX
      simp only [Act.put, List.setIfInBounds_toArray, List.set_cons_zero, List.set_cons_succ]
      refine wpE_step' 11 (of_decide_eq_true (by kernel_rfl)) (by kernel_rfl) (by kernel_rfl) (fun K hK => ?_)
      simp only [List.getElem_toArray, List.getElem_cons_succ, List.getElem_cons_zero]
      go_simp
      refine hK.out _ _ (.inr (cells_set (cells_set hS0 hYX2) hYX2)) ?_
      clear hK K
      replace hS0 := cells_set (i := 1) (v := .slice At xs.length ct) (cells_set (i := 0) (v := .int .i64 now) hS0 hYX2) hYX2
      simp only [Act.put, List.setIfInBounds_toArray, List.set_cons_zero, List.set_cons_succ]
      refine wpE_step' 12 (of_decide_eq_true (by kernel_rfl)) (by kernel_rfl) (by kernel_rfl) (fun K hK => ?_)
      simp only [List.getElem_toArray, List.getElem_cons_succ, List.getElem_cons_zero]
      go_simp
      refine hK.out _ _ (.inr hS0) ?_
      clear hK K
      simp only [Act.put, List.setIfInBounds_toArray, List.set_cons_zero, List.set_cons_succ]
      refine wpE_step' 13 (of_decide_eq_true (by kernel_rfl)) (by kernel_rfl) (by kernel_rfl) (fun K hK => ?_)
      simp only [List.getElem_toArray, List.getElem_cons_succ, List.getElem_cons_zero]
      go_simp
      refine hK.out _ _ (.inl rfl) ?_
      clear hK K hS0
      simp only [Act.put, List.setIfInBounds_toArray, List.set_cons_zero, List.set_cons_succ]
      refine wpE_done (by kernel_rfl) ?_ _
      obtain ⟨r0, r1, u0, u1, ⟨b, q1⟩, ⟨bt, q2⟩, q3⟩ := hP.fin hT2
      go_wp2_with fail
      refine bodyPost_ret (v := .tuple #[.agg #[.int .i64 n, .slice A bs.length c], .agg #[.int .i64 now, .slice At xs.length ct], .int .i64 pt, .int .i64 tm]) (by simp [results, Try.results60, go_sem, r0, r1, u0, u1]) rfl ?_
      first | exact ⟨n, A, c, bs, b, now, At, ct, xs, bt, pt, ⟨tm, rfl⟩, hn, hlb, hnow, hlx, hpt, q1, q2, q3⟩ | exact ⟨n, A, c, bs, b, now, At, ct, xs, bt, pt, tm, rfl, hn, hlb, hnow, hlx, hpt, q1, q2, q3⟩
    · skip
      go_upto_region 6 with fail
      have hS0 : w7.drew.cell? ⟨X, 0, none⟩ = some (.int .i64 n) ∧ w7.drew.cell? ⟨X, 1, none⟩ = some (.slice A bs.length c) ∧ w7.drew.cell? ⟨X + 1, 0, none⟩ = some (.int .i64 now) ∧ w7.drew.cell? ⟨X + 1, 1, none⟩ = some (.slice At xs.length ct) := hP.cells
      replace hP := hP.below (show Below w7.heap.size w7 w7.drew by go_grown)
      refine wp_regionE (fun w' => w'.cell? ⟨X, 0, none⟩ = some (.int .i64 n) ∧ w'.cell? ⟨X, 1, none⟩ = some (.slice A bs.length c) ∧ w'.cell? ⟨X + 1, 0, none⟩ = some (.int .i64 now) ∧ w'.cell? ⟨X + 1, 1, none⟩ = some (.slice At xs.length ct)) 13 (by kernel_rfl) ?_
      change wpE _ _ _ _ _ _ 14 #[false, false, false, false, false, false, false, false, false, false, false, false, false, false] _ _
      refine wpE_take' (v := ?_) 0 [13] (of_decide_eq_true (by kernel_rfl)) (by kernel_rfl) (by kernel_rfl) (by kernel_rfl) (by kernel_rfl) (fun _ _ _ h => h) (by kernel_rfl) ?_ hS0 ?_
      rotate_left
      · intro w' hSw
        simp only [List.getElem_toArray, List.getElem_cons_succ, List.getElem_cons_zero]
        go_simp
        all_goals with_reducible rfl
      simp only [List.getElem_toArray, List.getElem_cons_succ, List.getElem_cons_zero, Act.put, List.setIfInBounds_toArray, List.set_cons_zero, List.set_cons_succ]
      refine wpE_take' (v := ?_) 1 [13] (of_decide_eq_true (by kernel_rfl)) (by kernel_rfl) (by kernel_rfl) (by kernel_rfl) (by kernel_rfl) (fun _ _ _ h => h) (by kernel_rfl) ?_ hS0 ?_
      rotate_left
      · intro w' hSw
        simp only [List.getElem_toArray, List.getElem_cons_succ, List.getElem_cons_zero]
        go_simp
        all_goals with_reducible rfl
      simp only [List.getElem_toArray, List.getElem_cons_succ, List.getElem_cons_zero, Act.put, List.setIfInBounds_toArray, List.set_cons_zero, List.set_cons_succ]
      refine wpE_take' (v := ?_) 2 [13] (of_decide_eq_true (by kernel_rfl)) (by kernel_rfl) (by kernel_rfl) (by kernel_rfl) (by kernel_rfl) (fun _ _ _ h => h) (by kernel_rfl) ?_ hS0 ?_
      rotate_left
      · intro w' hSw
        simp only [List.getElem_toArray, List.getElem_cons_succ, List.getElem_cons_zero]
        go_simp
        all_goals with_reducible rfl
      simp only [List.getElem_toArray, List.getElem_cons_succ, List.getElem_cons_zero, Act.put, List.setIfInBounds_toArray, List.set_cons_zero, List.set_cons_succ]
      refine wpE_take' (v := ?_) 3 [13] (of_decide_eq_true (by kernel_rfl)) (by kernel_rfl) (by kernel_rfl) (by kernel_rfl) (by kernel_rfl) (fun _ _ _ h => h) (by kernel_rfl) ?_ hS0 ?_
      rotate_left
      · intro w' hSw
        simp only [List.getElem_toArray, List.getElem_cons_succ, List.getElem_cons_zero]
        go_simp
        all_goals with_reducible rfl
      simp only [List.getElem_toArray, List.getElem_cons_succ, List.getElem_cons_zero, Act.put, List.setIfInBounds_toArray, List.set_cons_zero, List.set_cons_succ]
      refine wpE_take' (v := ?_) 4 [13] (of_decide_eq_true (by kernel_rfl)) (by kernel_rfl) (by kernel_rfl) (by kernel_rfl) (by kernel_rfl) (fun _ _ _ h => h) (by kernel_rfl) ?_ hS0 ?_
      rotate_left
      · intro w' hSw
        simp only [List.getElem_toArray, List.getElem_cons_succ, List.getElem_cons_zero]
        go_simp
        all_goals with_reducible rfl
      simp only [List.getElem_toArray, List.getElem_cons_succ, List.getElem_cons_zero, Act.put, List.setIfInBounds_toArray, List.set_cons_zero, List.set_cons_succ]
      refine wpE_take' (v := ?_) 7 [13] (of_decide_eq_true (by kernel_rfl)) (by kernel_rfl) (by kernel_rfl) (by kernel_rfl) (by kernel_rfl) (fun _ _ _ h => h) (by kernel_rfl) ?_ hS0 ?_
      rotate_left
      · intro w' hSw
        simp only [List.getElem_toArray, List.getElem_cons_succ, List.getElem_cons_zero]
        go_simp
        all_goals with_reducible rfl
      simp only [List.getElem_toArray, List.getElem_cons_succ, List.getElem_cons_zero, Act.put, List.setIfInBounds_toArray, List.set_cons_zero, List.set_cons_succ]
      refine wpE_step' 5 (of_decide_eq_true (by kernel_rfl)) (by kernel_rfl) (by kernel_rfl) (fun K hK => ?_)
      simp only [List.getElem_toArray, List.getElem_cons_succ, List.getElem_cons_zero]
      go_simp
      go_at_call 89
      refine (pick_c g _ 9 _ (by omega) (by omega) hP.rd).mono ?_
      rintro e w8 ⟨v1, rfl, a1, a2, -, hR3, G3, -⟩
      have a3 := a2 (by omega)
      replace hP := hP.pick hgw hgT hgX hR3 G3
      refine hK.out _ _ (.inr hP.cells) ?_
      clear hK K hS0 hR3 G3
      have hS0 := hP.cells
      simp only [Act.put, List.setIfInBounds_toArray, List.set_cons_zero, List.set_cons_succ]
      refine wpE_take' (v := ?_) 6 [13] (of_decide_eq_true (by kernel_rfl)) (by kernel_rfl) (by kernel_rfl) (by kernel_rfl) (by kernel_rfl) (fun _ _ _ h => h) (by kernel_rfl) ?_ hS0 ?_
      rotate_left
      · intro w' hSw
        simp only [List.getElem_toArray, List.getElem_cons_succ, List.getElem_cons_zero]
        go_simp
        all_goals with_reducible rfl
      simp only [List.getElem_toArray, List.getElem_cons_succ, List.getElem_cons_zero, Act.put, List.setIfInBounds_toArray, List.set_cons_zero, List.set_cons_succ]
      refine wpE_step' 8 (of_decide_eq_true (by kernel_rfl)) (by kernel_rfl) (by kernel_rfl) (fun K hK => ?_)
      simp only [List.getElem_toArray, List.getElem_cons_succ, List.getElem_cons_zero]
      go_simp
      go_at_call 89
      refine (pick_c g _ 2 _ (by omega) (by omega) hP.rd).mono ?_
      rintro e w9 ⟨v2, rfl, a1, a2, -, hR3, G3, -⟩
      have a3 := a2 (by omega)
      replace hP := hP.pick hgw hgT hgX hR3 G3
      refine hK.out _ _ (.inr hP.cells) ?_
      clear hK K hS0 hR3 G3
      have hS0 := hP.cells
      simp only [Act.put, List.setIfInBounds_toArray, List.set_cons_zero, List.set_cons_succ]
      refine wpE_take' (v := ?_) 9 [13] (of_decide_eq_true (by kernel_rfl)) (by kernel_rfl) (by kernel_rfl) (by kernel_rfl) (by kernel_rfl) (fun _ _ _ h => h) (by kernel_rfl) ?_ hS0 ?_
      rotate_left
      · intro w' hSw
        simp only [List.getElem_toArray, List.getElem_cons_succ, List.getElem_cons_zero]
        go_simp
        all_goals with_reducible rfl
      simp only [List.getElem_toArray, List.getElem_cons_succ, List.getElem_cons_zero, Act.put, List.setIfInBounds_toArray, List.set_cons_zero, List.set_cons_succ]
      obtain ⟨tm, htm⟩ : ∃ tm, IntKind.i64.wrap (IntKind.i64.wrap (lo + v1) - v2) = tm := ⟨_, rfl⟩
      try rw [htm]
      have y10 := hP.y1.z0
      have y11 := hP.y1.z1
      have y1f0 := hP.y1.zf 0
      have y1f1 := hP.y1.zf 1
      have y20 := hP.y2.z0
      have y21 := hP.y2.z1
      have y2f0 := hP.y2.zf 0
      have y2f1 := hP.y2.zf 1
      refine wpE_step' 10 (of_decide_eq_true (by kernel_rfl)) (by kernel_rfl) (by kernel_rfl) (fun K hK => ?_)
      simp only [List.getElem_toArray, List.getElem_cons_succ, List.getElem_cons_zero]
      go_simp
      refine hK.out _ _ (.inr (cells_set (cells_set hS0 hYX) hYX)) ?_
      clear hK K
      replace hS0 := cells_set (i := 1) (v := .slice A bs.length c) (cells_set (i := 0) (v := .int .i64 n) hS0 hYX) hYX
      simp only [Act.put, List.setIfInBounds_toArray, List.set_cons_zero, List.set_cons_succ]
      refine wpE_step' 11 (of_decide_eq_true (by kernel_rfl)) (by kernel_rfl) (by kernel_rfl) (fun K hK => ?_)
      simp only [List.getElem_toArray, List.getElem_cons_succ, List.getElem_cons_zero]
      go_simp
      refine hK.out _ _ (.inr (cells_set (cells_set hS0 hYX2) hYX2)) ?_
      clear hK K
      replace hS0 := cells_set (i := 1) (v := .slice At xs.length ct) (cells_set (i := 0) (v := .int .i64 now) hS0 hYX2) hYX2
      simp only [Act.put, List.setIfInBounds_toArray, List.set_cons_zero, List.set_cons_succ]
      refine wpE_step' 12 (of_decide_eq_true (by kernel_rfl)) (by kernel_rfl) (by kernel_rfl) (fun K hK => ?_)
      simp only [List.getElem_toArray, List.getElem_cons_succ, List.getElem_cons_zero]
      go_simp
      refine hK.out _ _ (.inr hS0) ?_
      clear hK K
      simp only [Act.put, List.setIfInBounds_toArray, List.set_cons_zero, List.set_cons_succ]
      refine wpE_step' 13 (of_decide_eq_true (by kernel_rfl)) (by kernel_rfl) (by kernel_rfl) (fun K hK => ?_)
      simp only [List.getElem_toArray, List.getElem_cons_succ, List.getElem_cons_zero]
      go_simp
      refine hK.out _ _ (.inl rfl) ?_
      clear hK K hS0
      simp only [Act.put, List.setIfInBounds_toArray, List.set_cons_zero, List.set_cons_succ]
      refine wpE_done (by kernel_rfl) ?_ _
      obtain ⟨r0, r1, u0, u1, ⟨b, q1⟩, ⟨bt, q2⟩, q3⟩ := hP.fin hT2
      go_wp2_with fail
      refine bodyPost_ret (v := .tuple #[.agg #[.int .i64 n, .slice A bs.length c], .agg #[.int .i64 now, .slice At xs.length ct], .int .i64 pt, .int .i64 tm]) (by simp [results, Try.results60, go_sem, r0, r1, u0, u1]) rfl ?_
      first | exact ⟨n, A, c, bs, b, now, At, ct, xs, bt, pt, ⟨tm, rfl⟩, hn, hlb, hnow, hlx, hpt, q1, q2, q3⟩ | exact ⟨n, A, c, bs, b, now, At, ct, xs, bt, pt, tm, rfl, hn, hlb, hnow, hlx, hpt, q1, q2, q3⟩
end Go.Proofs.Ytjlaljnffmncpaa
