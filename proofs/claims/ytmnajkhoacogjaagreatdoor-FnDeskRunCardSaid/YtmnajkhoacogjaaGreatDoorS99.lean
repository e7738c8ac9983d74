/-
 A plan that is being made in a box of its own.
 spec: TurnedPlan.
 spec: l15Plan.
-/
import Derived.Test.YtmnajkhoacogjaaGreatDoorL11a
import Derived.Test.YtmnajkhoacogjaaGreatDoorS1
import Derived.Test.YtmnajkhoacogjaaGreatDoorZ1
namespace Go.Proofs.YtmnajkhoacogjaaGreatDoor
set_option linter.unusedVariables false
set_option linter.unusedSimpArgs false
open Go.RowKit Pp
open Go Go.RowKit Pp

/-- A plan that is being made in a box of its own, behind a world W. -/
structure PQ (W wr : World) (X : Nat) (n : Int) (A : Option Addr) (c : Nat) (bs : List Bd) : Prop where
 bel : Below W.heap.size W wr
 lo : W.heap.size ≤ X
 ex : X < wr.heap.size
 c0 : wr.cell? ⟨X, 0, none⟩ = some (.int .i64 n)
 c1 : wr.cell? ⟨X, 1, none⟩ = some (.slice A bs.length c)
 cf : ∀ i, wr.frozen? ⟨X, i, none⟩ = false
 own : OwnB W.heap.size wr (.slice A bs.length c) bs
 ne : (Value.slice A bs.length c).ownBlock ≠ some X
section
variable {W wr w' : World} {X c c' : Nat} {n : Int} {A A' : Option Addr} {bs bs' : List Bd}
theorem PQ.below (h : PQ W wr X n A c bs) (hb : Below wr.heap.size wr w') : PQ W w' X n A c bs :=
 ⟨bthen h.bel hb, h.lo, Nat.lt_of_lt_of_le h.ex hb.size, ((bcell hb).1 _ _ h.ex).trans h.c0, ((bcell hb).1 _ _ h.ex).trans h.c1, fun i => ((bcell hb).2 _ _ h.ex).trans (h.cf i), own_below h.own hb, h.ne⟩
theorem PQ.alloc (h : PQ W wr X n A c bs) (x : Obj) : PQ W (wr.alloc x) X n A c bs := h.below (by go_grown)
theorem PQ.drew (h : PQ W wr X n A c bs) : PQ W wr.drew X n A c bs := h.below (by go_grown)
theorem pq_new {t : TypeId} (hW : Below W.heap.size W wr) : PQ W (wr.alloc (.cells #[.int .i64 n, .slice none 0 0] t)) wr.heap.size n none 0 [] := by
 have hb : Below wr.heap.size wr (wr.alloc (.cells #[.int .i64 n, .slice none 0 0] t)) := by go_grown
 exact ⟨bthen hW hb, hW.size, by simp, by simp [go_sem], by simp [go_sem], fun i => by simp [go_sem], World.ownsRow_nil _ _ _ _, by simp [Value.ownBlock]⟩
/-- Behind an append onto its bounds: they are stored. -/
theorem PQ.app (h : PQ W wr X n A c bs) (hg : wr.grownBy w' (Value.slice A bs.length c).ownBlock) (own : OwnB W.heap.size w' (.slice A' bs'.length c') bs') (hat : (Value.slice A' bs'.length c').ownBlock = (Value.slice A bs.length c).ownBlock ∨ (Value.slice A' bs'.length c').ownBlock = some wr.heap.size) :
  w'.cell? ⟨X, 0, none⟩ = some (.int .i64 n) ∧ w'.cell? ⟨X, 1, none⟩ = some (.slice A bs.length c) ∧ w'.frozen? ⟨X, 1, none⟩ = false ∧ PQ W (w'.setCell ⟨X, 1, none⟩ (.slice A' bs'.length c')) X n A' c' bs' ∧ Below W.heap.size W w' := by
 have hne : some X ≠ (Value.slice A bs.length c).ownBlock := fun e => h.ne e.symm
 have e0 : w'.cell? ⟨X, 0, none⟩ = some (.int .i64 n) := (hg.cell_far ⟨X, 0, none⟩ h.ex hne).trans h.c0
 have e1 : w'.cell? ⟨X, 1, none⟩ = some (.slice A bs.length c) := (hg.cell_far ⟨X, 1, none⟩ h.ex hne).trans h.c1
 have ef : ∀ i, w'.frozen? ⟨X, i, none⟩ = false := fun i => (hg.frozen_far ⟨X, i, none⟩ h.ex hne).trans (h.cf i)
 have hb : Below W.heap.size W w' := below_app h.bel h.own hg (Nat.le_refl _) h.bel.size
 have hx := h.ex
 have ne' : (Value.slice A' bs'.length c').ownBlock ≠ some X := fun e => by
  rcases hat with e2 | e2
  ·rw [e2] at e; exact h.ne e
  ·rw [e2] at e; injection e with e; omega
 refine ⟨e0, e1, ef 1, ⟨hb.setCell h.lo _, h.lo, by have := hg.size; simp; omega, ?_, World.cell?_setCell_same _ _ _ e1, fun i => ?_, own_set own ne' _, ne'⟩, hb⟩
 ·rw [World.cell?_setCell_other _ _ _ _ (by simp)]; exact e0
 ·rw [← ef i]; simp
end

open Go Go.RowKit Pp

namespace Pp
def swapD (b : Bd) : Bd := ⟨b.t, b.f, b.m⟩
end Pp
theorem hat_len' {A5 : Option Addr} {c5 k : Nat} {bs : List Bd} {X : Option Nat} (b : Bd) (h : (Value.slice A5 (bs.length + 1) c5).ownBlock = X ∨ (Value.slice A5 (bs.length + 1) c5).ownBlock = some k) : (Value.slice A5 (bs ++ [b]).length c5).ownBlock = X ∨ (Value.slice A5 (bs ++ [b]).length c5).ownBlock = some k := by
 rw [List.length_append]; exact h
theorem pq_len' {W w5 : World} {X n' c5 : Nat} {n : Int} {A5 : Option Addr} {bs : List Bd} (hl : bs.length = n') (h : PQ W (w5.setCell ⟨X, 1, none⟩ (.slice A5 bs.length c5)) X n A5 c5 bs) : PQ W (w5.setCell ⟨X, 1, none⟩ (.slice A5 n' c5)) X n A5 c5 bs := by subst hl; exact h
set_option maxHeartbeats 4000000 in
set_option maxRecDepth 100000 in
theorem sTurned_q (p : Pl) (hp : planOk p = true) (A : Option Addr) (b o c B : Nat) (w : World) (hB : B ≤ w.heap.size) (hR : BdsR w B b o A p.bs) :
  Calls Tryz.prog 68 #[.agg #[.int .i64 p.n, .slice A p.bs.length c]] w fun e w' => ∃ A1 c1 g1, e = .returned (.agg #[.int .i64 p.n, .slice A1 (p.bs.map swapD).length c1]) ∧ BdsR w' w'.heap.size g1 0 A1 (p.bs.map swapD) ∧ OwnB w.heap.size w' (.slice A1 (p.bs.map swapD).length c1) (p.bs.map swapD) ∧ Below w.heap.size w w' := by
 obtain ⟨i0, hi0, hz0, hz1, hz2⟩ := info_parts infoB
 have h16 : p.bs.length ≤ 16 := (planOk_iff.1 hp).2.1
 obtain ⟨n, bs⟩ := p
 dsimp only at *
 have hD := (po_new (t := 34) (n := n) (c := c) (Below.refl w.heap.size w) (hR.more hB)).alloc (.cells #[.int .i64 0, .slice none 0 0] 34)
 have hY : ZB w ((w.alloc (.cells #[.int .i64 n, .slice A bs.length c] 34)).alloc (.cells #[.int .i64 0, .slice none 0 0] 34)) (w.heap.size + 1) := zb_at (by simp) (by simp)
 have Hp := hide hp
 clear hR hp hB
 go_enter Tryz.func68, Tryz.ntmps68
 go_upto_region 1 with fail
 generalize (w.alloc (.cells #[.int .i64 n, .slice A bs.length c] 34)).alloc (.cells #[.int .i64 0, .slice none 0 0] 34) = W at hD hY ⊢
 have p0 := hD.c0
 have p1 := hD.c1
 go_upto_region 3 with (go_at_call 36; go_fit (sPlanOk_c ⟨n, bs⟩ A b o c _ _ (show bs.length ≤ 2000000 by omega) (Nat.le_refl _) hD.rd); rintro e w2 ⟨rfl, hb⟩; rw [Hp.out]; replace hY := hY.below hb; replace hD := hD.below hb)
 clear p0 p1 hb
 have p0 := hD.c0
 have p1 := hD.c1
 have hQ0 : PQ w2 (w2.alloc (.cells #[.int .i64 n, .slice none 0 0] 34)) w2.heap.size n none 0 [] := pq_new (Below.refl _ _)
 go_upto_region 4 with fail
 clear p0 p1
 generalize w2.alloc (.cells #[.int .i64 n, .slice none 0 0] 34) = W1 at hQ0 ⊢
 generalize w2 = W at hD hY hQ0 ⊢
 generalize W.heap.size = X at hQ0 ⊢
 go_wp2_with fail
 go_loopg [4] bs.length (fun gh s wr => ∃ (k : Nat) (ys : List Bd) (A1 : Option Addr) (c1 : Nat), k ≤ bs.length ∧ gh = bs.length - k ∧ s = .int .i64 k ∧ PQ W wr X n A1 c1 ys ∧ Hid (ys = (bs.take k).map swapD))
 case atStart => exact ⟨0, [], none, 0, Nat.zero_le _, rfl, rfl, hQ0, rfl⟩
 case round =>
  clear hQ0
  obtain ⟨k, ys, A1, c1, hk, rfl, rfl, hQ, HB⟩ := hrel
  have hD1 := hD.below hQ.bel
  have p0 := hD1.c0
  have p1 := hD1.c1
  have hyl : ys.length ≤ 16 := by rw [HB.out, List.length_map, List.length_take]; omega
  by_cases hlt : k < bs.length
  ·have hx := List.getElem?_eq_getElem hlt
   obtain rfl := hD1.rd.addr (by omega)
   have hlt2 := hD1.rd.lt (by omega)
   have d0 := hD1.rd.c0 k _ hx
   have d1 := hD1.rd.c1 k _ hx
   have d2 := hD1.rd.c2 k _ hx
   have hltW := hD.rd.lt (by omega)
   have E0 := hide (And.intro (hD.rd.c0 k _ hx) (And.intro (hD.rd.c1 k _ hx) (hD.rd.c2 k _ hx)))
   have htk : bs.take (k + 1) = bs.take k ++ [bs[k]] := by rw [List.take_add_one, hx]; rfl
   have HB2 : Hid (ys ++ [swapD bs[k]] = (bs.take (k + 1)).map swapD) := by unfold Hid; rw [htk, List.map_append, HB.out]; rfl
   have hkz : (k : Int) < (bs.length : Int) := by omega
   clear htk hx
   generalize bs[k] = x at d0 d1 d2 HB2 E0
   have hexD := hD1.ex
   have x1 := hQ.c1
   go_upto_region 7 with fail
   have hQa := (hQ.alloc (.cells #[.int .i64 x.t, .int .i64 x.f, .int .i64 x.m] 97)).drew
   have hsza := hQa.bel.size
   have hbd : Below wr.heap.size wr (wr.alloc (.cells #[.int .i64 x.t, .int .i64 x.f, .int .i64 x.m] 97)).drew := by go_grown
   refine wp_regionE (fun w' => w'.cell? ⟨X, 1, none⟩ = some (.slice A1 ys.length c1) ∧ w'.cell? ⟨w.heap.size, 1, none⟩ = some (.slice (some ⟨b, o, none⟩) bs.length c) ∧ w'.cell? ⟨b, o + k * 3, none⟩ = some (.int .i64 x.f) ∧ w'.cell? ⟨b, o + k * 3 + 1, none⟩ = some (.int .i64 x.t) ∧ w'.cell? ⟨b, o + k * 3 + 2, none⟩ = some (.int .i64 x.m)) 24 (by kernel_rfl) ?_
   change wpE _ _ _ _ _ _ 25 #[false, false, false, false, false, false, false, false, false, false, false, false, false, false, false, false, false, false, false, false, false, false, false, false, false] _ _
   have hS0 : wr.drew.cell? ⟨X, 1, none⟩ = some (.slice A1 ys.length c1) ∧ wr.drew.cell? ⟨w.heap.size, 1, none⟩ = some (.slice (some ⟨b, o, none⟩) bs.length c) ∧ wr.drew.cell? ⟨b, o + k * 3, none⟩ = some (.int .i64 x.f) ∧ wr.drew.cell? ⟨b, o + k * 3 + 1, none⟩ = some (.int .i64 x.t) ∧ wr.drew.cell? ⟨b, o + k * 3 + 2, none⟩ = some (.int .i64 x.m) := ⟨x1, p1, d0, d1, d2⟩
   refine wpE_tk (v := ?_) 0 [24] (hy := ?_) (hS := hS0) (h := ?_)
   rotate_left
   ·intro w' hSw
    simp only [xg0, xg1, xg2]
    go_simp
    all_goals with_reducible rfl
   simp only [xg0, xg1, xg2, Act.put, xs0, xs1, xs2]
   refine wpE_tk (v := ?_) 1 [24] (hy := ?_) (hS := hS0) (h := ?_)
   rotate_left
   ·intro w' hSw
    simp only [xg0, xg1, xg2]
    go_simp
    all_goals with_reducible rfl
   simp only [xg0, xg1, xg2, Act.put, xs0, xs1, xs2]
   refine wpE_tk (v := ?_) 2 [24] (hy := ?_) (hS := hS0) (h := ?_)
   rotate_left
   ·intro w' hSw
    simp only [xg0, xg1, xg2]
    go_simp
    all_goals with_reducible rfl
   simp only [xg0, xg1, xg2, Act.put, xs0, xs1, xs2]
   refine wpE_tk (v := ?_) 3 [24] (hy := ?_) (hS := hS0) (h := ?_)
   rotate_left
   ·intro w' hSw
    simp only [xg0, xg1, xg2]
    go_simp
    all_goals with_reducible rfl
   simp only [xg0, xg1, xg2, Act.put, xs0, xs1, xs2]
   refine wpE_tk (v := ?_) 4 [24] (hy := ?_) (hS := hS0) (h := ?_)
   rotate_left
   ·intro w' hSw
    simp only [xg0, xg1, xg2]
    go_simp
    all_goals with_reducible rfl
   simp only [xg0, xg1, xg2, Act.put, xs0, xs1, xs2]
   refine wpE_tk (v := ?_) 5 [24] (hy := ?_) (hS := hS0) (h := ?_)
   rotate_left
   ·intro w' hSw
    simp only [xg0, xg1, xg2]
    go_simp
    all_goals with_reducible rfl
   simp only [xg0, xg1, xg2, Act.put, xs0, xs1, xs2]
   refine wpE_tk (v := ?_) 6 [24] (hy := ?_) (hS := hS0) (h := ?_)
   rotate_left
   ·intro w' hSw
    simp only [xg0, xg1, xg2]
    go_simp
    all_goals with_reducible rfl
   simp only [xg0, xg1, xg2, Act.put, xs0, xs1, xs2]
   refine wpE_tk (v := ?_) 7 [24] (hy := ?_) (hS := hS0) (h := ?_)
   rotate_left
   ·intro w' hSw
    simp only [xg0, xg1, xg2]
    go_simp
    all_goals with_reducible rfl
   simp only [xg0, xg1, xg2, Act.put, xs0, xs1, xs2]
   refine wpE_tk (v := ?_) 8 [24] (hy := ?_) (hS := hS0) (h := ?_)
   rotate_left
   ·intro w' hSw
    simp only [xg0, xg1, xg2]
    go_simp
    all_goals with_reducible rfl
   simp only [xg0, xg1, xg2, Act.put, xs0, xs1, xs2]
   refine wpE_tk (v := ?_) 9 [24] (hy := ?_) (hS := hS0) (h := ?_)
   rotate_left
   ·intro w' hSw
    simp only [xg0, xg1, xg2]
    go_simp
    all_goals with_reducible rfl
   simp only [xg0, xg1, xg2, Act.put, xs0, xs1, xs2]
   refine wpE_tk (v := ?_) 10 [24] (hy := ?_) (hS := hS0) (h := ?_)
   rotate_left
   ·intro w' hSw
    simp only [xg0, xg1, xg2]
    go_simp
    all_goals with_reducible rfl
   simp only [xg0, xg1, xg2, Act.put, xs0, xs1, xs2]
   refine wpE_tk (v := ?_) 11 [24] (hy := ?_) (hS := hS0) (h := ?_)
   rotate_left
   ·intro w' hSw
    simp only [xg0, xg1, xg2]
    go_simp
    all_goals with_reducible rfl
   simp only [xg0, xg1, xg2, Act.put, xs0, xs1, xs2]
   refine wpE_tk (v := ?_) 12 [24] (hy := ?_) (hS := hS0) (h := ?_)
   rotate_left
   ·intro w' hSw
    simp only [xg0, xg1, xg2]
    go_simp
    all_goals with_reducible rfl
   simp only [xg0, xg1, xg2, Act.put, xs0, xs1, xs2]
   refine wpE_tk (v := ?_) 13 [24] (hy := ?_) (hS := hS0) (h := ?_)
   rotate_left
   ·intro w' hSw
    simp only [xg0, xg1, xg2]
    go_simp
    all_goals with_reducible rfl
   simp only [xg0, xg1, xg2, Act.put, xs0, xs1, xs2]
   refine wpE_tk (v := ?_) 14 [24] (hy := ?_) (hS := hS0) (h := ?_)
   rotate_left
   ·intro w' hSw
    simp only [xg0, xg1, xg2]
    go_simp
    all_goals with_reducible rfl
   simp only [xg0, xg1, xg2, Act.put, xs0, xs1, xs2]
   refine wpE_tk (v := ?_) 15 [24] (hy := ?_) (hS := hS0) (h := ?_)
   rotate_left
   ·intro w' hSw
    simp only [xg0, xg1, xg2]
    go_simp
    all_goals with_reducible rfl
   simp only [xg0, xg1, xg2, Act.put, xs0, xs1, xs2]
   refine wpE_tk (v := ?_) 16 [24] (hy := ?_) (hS := hS0) (h := ?_)
   rotate_left
   ·intro w' hSw
    simp only [xg0, xg1, xg2]
    go_simp
    all_goals with_reducible rfl
   simp only [xg0, xg1, xg2, Act.put, xs0, xs1, xs2]
   refine wpE_tk (v := ?_) 17 [24] (hy := ?_) (hS := hS0) (h := ?_)
   rotate_left
   ·intro w' hSw
    simp only [xg0, xg1, xg2]
    go_simp
    all_goals with_reducible rfl
   simp only [xg0, xg1, xg2, Act.put, xs0, xs1, xs2]
   refine wpE_tk (v := ?_) 18 [24] (hy := ?_) (hS := hS0) (h := ?_)
   rotate_left
   ·intro w' hSw
    simp only [xg0, xg1, xg2]
    go_simp
    all_goals with_reducible rfl
   simp only [xg0, xg1, xg2, Act.put, xs0, xs1, xs2]
   refine wpE_tk (v := ?_) 19 [24] (hy := ?_) (hS := hS0) (h := ?_)
   rotate_left
   ·intro w' hSw
    simp only [xg0, xg1, xg2]
    go_simp
    all_goals with_reducible rfl
   simp only [xg0, xg1, xg2, Act.put, xs0, xs1, xs2]
   refine wpE_tk (v := ?_) 20 [24] (hy := ?_) (hS := hS0) (h := ?_)
   rotate_left
   ·intro w' hSw
    simp only [xg0, xg1, xg2]
    go_simp
    all_goals with_reducible rfl
   simp only [xg0, xg1, xg2, Act.put, xs0, xs1, xs2]
   refine wpE_step' 21 (of_decide_eq_true (by kernel_rfl)) (by kernel_rfl) (by kernel_rfl) (fun K hK => ?_)
   simp only [xg0, xg1, xg2]
   go_simp
   refine hK.out _ _ (.inr ⟨hQa.c1, ((bcell hbd).1 _ _ hexD).trans p1, ((bcell hbd).1 _ _ hlt2).trans d0, ((bcell hbd).1 _ _ hlt2).trans d1, ((bcell hbd).1 _ _ hlt2).trans d2⟩) ?_
   clear hK K
   simp only [Act.put, xs0, xs1, xs2]
   refine wpE_step' 22 (of_decide_eq_true (by kernel_rfl)) (by kernel_rfl) (by kernel_rfl) (fun K hK => ?_)
   simp only [xg0, xg1, xg2]
   refine app_wp _ (.tmp 20) (.tmp 40) _ rfl W.heap.size 97 i0 _ 3 24 Tryz.underlying32 hi0 hz0 hz1 hz2 rfl (by omega) (.slice A1 ys.length c1) ys.length (bdCs ys) rfl hQa.own (some ⟨wr.heap.size, 0, none⟩) 1 _ (bdCs [swapD x]) rfl rfl (NewsAt.block (cs := #[.int .i64 x.t, .int .i64 x.f, .int .i64 x.m]) (at_new (w := wr) rfl)) (bdCs_one _) (by omega) (by omega) hsza ?_
   intro A5 c5 w5 hown5 hg5 hat5
   have hown6 : OwnB W.heap.size w5 (.slice A5 (ys ++ [swapD x]).length c5) (ys ++ [swapD x]) := by unfold OwnB; rw [bdCs_append, List.length_append]; exact hown5
   have hat6 := hat_len' (swapD x) hat5
   obtain ⟨z0, z1, zf, hQ7, hb7⟩ := hQa.app hg5 hown6 hat6
   have HQ7 := hide (pq_len' (List.length_append) hQ7)
   clear hown5 hown6 hat5 hat6 hQ7 hg5 hS0
   have hD7 := hD.below hb7
   have hS0 : w5.cell? ⟨X, 1, none⟩ = some (.slice A1 ys.length c1) ∧ w5.cell? ⟨w.heap.size, 1, none⟩ = some (.slice (some ⟨b, o, none⟩) bs.length c) ∧ w5.cell? ⟨b, o + k * 3, none⟩ = some (.int .i64 x.f) ∧ w5.cell? ⟨b, o + k * 3 + 1, none⟩ = some (.int .i64 x.t) ∧ w5.cell? ⟨b, o + k * 3 + 2, none⟩ = some (.int .i64 x.m) := ⟨z1, hD7.c1, ((bcell hb7).1 _ _ hltW).trans E0.out.1, ((bcell hb7).1 _ _ hltW).trans E0.out.2.1, ((bcell hb7).1 _ _ hltW).trans E0.out.2.2⟩
   refine hK.out _ _ (.inr hS0) ?_
   clear hK K
   simp only [Act.put, xs0, xs1, xs2]
   refine wpE_tk (v := ?_) 23 [24] (hy := ?_) (hS := hS0) (h := ?_)
   rotate_left
   ·intro w' hSw
    simp only [xg0, xg1, xg2]
    go_simp
    all_goals with_reducible rfl
   simp only [xg0, xg1, xg2, Act.put, xs0, xs1, xs2]
   refine wpE_step' 24 (of_decide_eq_true (by kernel_rfl)) (by kernel_rfl) (by kernel_rfl) (fun K hK => ?_)
   simp only [xg0, xg1, xg2]
   go_simp
   refine hK.out _ _ (.inl rfl) ?_
   clear hK K
   simp only [Act.put, xs0, xs1, xs2]
   refine wpE_done (by kernel_rfl) ?_ _
   have HQ8 := HQ7.out
   clear hS0 z0 z1 zf hD7 hb7 HQ7 hQa hsza hbd hD1 x1 p0 p1 d0 d1 d2
   simp only [List.length_singleton] at HQ8
   generalize w5.setCell ⟨X, 1, none⟩ (.slice A5 (ys.length + 1) c5) = W8 at HQ8 ⊢
   go_wp2_with fail
   go_roundg (bs.length - (k + 1))
   case measure => go_light; omega
   case rel => go_light; exact ⟨k + 1, _, A5, c5, by omega, rfl, by go_num, HQ8, HB2⟩
  ·obtain rfl : k = bs.length := by omega
   rw [List.take_length] at HB
   have hY1 := hY.below hQ.bel
   have hYl := hY.ex
   obtain ⟨x0, x1⟩ : _ ∧ _ := ⟨hQ.c0, hQ.c1⟩
   have z0 := hY1.z0
   have z1 := hY1.z1
   have zf0 := hY1.zf 0
   have zf1 := hY1.zf 1
   have hbel5 : Below w.heap.size w wr := hD1.bel
   have ne : (Value.slice A1 ys.length c1).ownBlock ≠ some (w.heap.size + 1) := fun e => by have := (hQ.own.lt _ e).1; omega
   obtain ⟨r0, r1, ho2, hb7⟩ := hY1.fin (n := n) hbel5 (own_less hQ.own hD.bel.size) ne
   have HB' : Hid (List.map swapD bs = ys) := HB.out.symm
   clear HB hyl
   go_wp2_with fail
   rw [HB'.out]
   refine bodyPost_ret (v := .agg #[.int .i64 n, .slice A1 ys.length c1]) (by simp [results, Tryz.results68, go_sem, r0, r1]) rfl ?_
   obtain ⟨g, hr⟩ := OwnB.readsA ho2
   first | exact ⟨A1, c1, g, rfl, hr, ho2, hb7⟩ | exact ⟨A1, c1, rfl, ⟨g, hr⟩, ho2, hb7⟩

set_option maxHeartbeats 4000000 in
set_option maxRecDepth 100000 in
theorem l15Plan_q (p : Pl) (A : Option Addr) (b o c B : Nat) (w : World) (h16 : p.bs.length ≤ 100) (hB : B ≤ w.heap.size) (hR : BdsR w B b o A p.bs) :
  Calls Tryz.prog 38 #[.agg #[.int .i64 p.n, .slice A p.bs.length c]] w fun e w' => ∃ A1 c1 g1, e = .returned (.agg #[.int .i64 p.n, .slice A1 p.bs.length c1]) ∧ BdsR w' w'.heap.size g1 0 A1 p.bs ∧ OwnB w.heap.size w' (.slice A1 p.bs.length c1) p.bs ∧ Below w.heap.size w w' := by
 obtain ⟨i0, hi0, hz0, hz1, hz2⟩ := info_parts infoB
 obtain ⟨n, bs⟩ := p
 dsimp only at *
 have hD := (po_new (t := 34) (n := n) (c := c) (Below.refl w.heap.size w) (hR.more hB)).alloc (.cells #[.int .i64 0, .slice none 0 0] 34)
 have hY : ZB w ((w.alloc (.cells #[.int .i64 n, .slice A bs.length c] 34)).alloc (.cells #[.int .i64 0, .slice none 0 0] 34)) (w.heap.size + 1) := zb_at (by simp) (by simp)
 clear hR hB
 go_enter Tryz.func38, Tryz.ntmps38
 go_upto_region 1 with fail
 generalize (w.alloc (.cells #[.int .i64 n, .slice A bs.length c] 34)).alloc (.cells #[.int .i64 0, .slice none 0 0] 34) = W at hD hY ⊢
 refine wp_regionE (fun w' => w'.cell? ⟨w.heap.size, 0, none⟩ = some (.int .i64 n) ∧ w'.cell? ⟨w.heap.size, 1, none⟩ = some (.slice A bs.length c)) 7 (by kernel_rfl) ?_
 change wpE _ _ _ _ _ _ 8 #[false, false, false, false, false, false, false, false] _ _
 have hdr : Below W.heap.size W W.drew := by go_grown
 replace hD := hD.below hdr
 replace hY := hY.below hdr
 generalize W.drew = wd at hD hY ⊢
 clear hdr
 have hS0 : wd.cell? ⟨w.heap.size, 0, none⟩ = some (.int .i64 n) ∧ wd.cell? ⟨w.heap.size, 1, none⟩ = some (.slice A bs.length c) := ⟨hD.c0, hD.c1⟩
 refine wpE_tk (v := ?_) 0 [7] (hy := ?_) (hS := hS0) (h := ?_)
 rotate_left
 ·intro w' hSw
  simp only [xg0, xg1, xg2]
  go_simp
  all_goals with_reducible rfl
 simp only [xg0, xg1, xg2, Act.put, xs0, xs1, xs2]
 refine wpE_tk (v := ?_) 1 [7] (hy := ?_) (hS := hS0) (h := ?_)
 rotate_left
 ·intro w' hSw
  simp only [xg0, xg1, xg2]
  go_simp
  all_goals with_reducible rfl
 simp only [xg0, xg1, xg2, Act.put, xs0, xs1, xs2]
 refine wpE_tk (v := ?_) 3 [7] (hy := ?_) (hS := hS0) (h := ?_)
 rotate_left
 ·intro w' hSw
  simp only [xg0, xg1, xg2]
  go_simp
  all_goals with_reducible rfl
 simp only [xg0, xg1, xg2, Act.put, xs0, xs1, xs2]
 refine wpE_tk (v := ?_) 4 [7] (hy := ?_) (hS := hS0) (h := ?_)
 rotate_left
 ·intro w' hSw
  simp only [xg0, xg1, xg2]
  go_simp
  all_goals with_reducible rfl
 simp only [xg0, xg1, xg2, Act.put, xs0, xs1, xs2]
 have hal : Below wd.heap.size wd (wd.alloc (.cells #[] 97)) := by go_grown
 have own4 : (wd.alloc (.cells #[] 97)).ownsRow wd.heap.size 97 3 (.slice (some ⟨wd.heap.size, 0, none⟩) 0 0) 0 [] := own_empty (at_new rfl) (Nat.le_refl _)
 have hD4 := hD.below hal
 have hY4 := hY.below hal
 refine wpE_step' 2 (of_decide_eq_true (by kernel_rfl)) (by kernel_rfl) (by kernel_rfl) (fun K hK => ?_)
 simp only [xg0, xg1, xg2]
 go_simp
 refine hK.out _ _ (.inr ⟨hD4.c0, hD4.c1⟩) ?_
 clear hK K hS0
 simp only [Act.put, xs0, xs1, xs2]
 refine wpE_step' 5 (of_decide_eq_true (by kernel_rfl)) (by kernel_rfl) (by kernel_rfl) (fun K hK => ?_)
 simp only [xg0, xg1, xg2]
 refine app_wp _ (.tmp 5) (.tmp 7) _ rfl wd.heap.size 97 i0 _ 3 24 Tryz.underlying32 hi0 hz0 hz1 hz2 rfl (by omega) (.slice (some ⟨wd.heap.size, 0, none⟩) 0 0) 0 [] rfl own4 A bs.length c (bdCs bs) rfl (bdCs_length bs) hD4.rd.news (bdCs_one bs) (by omega) (by omega) hal.size ?_
 intro A5 c5 w5 hown5 hg5 hat5
 simp only [Nat.zero_add, List.nil_append] at hown5 hat5 ⊢
 have hb5 : Below wd.heap.size wd w5 := below_app hal own4 hg5 (Nat.le_refl _) hal.size
 have hD5 := hD.below hb5
 have hY5 := hY.below hb5
 have hS0 : w5.cell? ⟨w.heap.size, 0, none⟩ = some (.int .i64 n) ∧ w5.cell? ⟨w.heap.size, 1, none⟩ = some (.slice A bs.length c) := ⟨hD5.c0, hD5.c1⟩
 refine hK.out _ _ (.inr hS0) ?_
 clear hK K
 simp only [Act.put, xs0, xs1, xs2]
 refine wpE_tk (v := ?_) 6 [7] (hy := ?_) (hS := hS0) (h := ?_)
 rotate_left
 ·intro w' hSw
  simp only [xg0, xg1, xg2]
  go_simp
  all_goals with_reducible rfl
 simp only [xg0, xg1, xg2, Act.put, xs0, xs1, xs2]
 have z0 := hY5.z0
 have z1 := hY5.z1
 have zf0 := hY5.zf 0
 have zf1 := hY5.zf 1
 refine wpE_step' 7 (of_decide_eq_true (by kernel_rfl)) (by kernel_rfl) (by kernel_rfl) (fun K hK => ?_)
 simp only [xg0, xg1, xg2]
 go_simp
 refine hK.out _ _ (.inl rfl) ?_
 clear hK K
 simp only [Act.put, xs0, xs1, xs2]
 refine wpE_done (by kernel_rfl) ?_ _
 have ne : (Value.slice A5 bs.length c5).ownBlock ≠ some (w.heap.size + 1) := fun e => by have := (hown5.lt _ e).1; have := hY.ex; omega
 have hown6 : OwnB w.heap.size w5 (.slice A5 bs.length c5) bs := own_less hown5 hD.bel.size
 obtain ⟨r0, r1, ho2, hb7⟩ := hY5.fin (n := n) hD5.bel hown6 ne
 go_wp2_with fail
 refine bodyPost_ret (v := .agg #[.int .i64 n, .slice A5 bs.length c5]) (by simp [results, Tryz.results38, go_sem, r0, r1]) rfl ?_
 obtain ⟨g, hr⟩ := OwnB.readsA ho2
 first | exact ⟨A5, c5, g, rfl, hr, ho2, hb7⟩ | exact ⟨A5, c5, rfl, ⟨g, hr⟩, ho2, hb7⟩
end Go.Proofs.YtmnajkhoacogjaaGreatDoor
