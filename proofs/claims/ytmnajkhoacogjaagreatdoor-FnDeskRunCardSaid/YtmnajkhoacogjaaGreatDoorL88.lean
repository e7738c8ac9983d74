/-
 impl: into, PlanOf.
-/
import Derived.Test.YtmnajkhoacogjaaGreatDoorL80
import Derived.Test.YtmnajkhoacogjaaGreatDoorL1
namespace Go.Proofs.YtmnajkhoacogjaaGreatDoor
set_option linter.unusedVariables false
set_option linter.unusedSimpArgs false
open Go Go.RowKit Pp

/-- A plan that is being made in a box of the call's own. -/
structure IX (w0 W : World) (X : Nat) (n : Int) (A : Option Addr) (c : Nat) (bs : List Bd) : Prop where
 bel : Below w0.heap.size w0 W
 lo : w0.heap.size ≤ X
 ex : X < W.heap.size
 c0 : W.cell? ⟨X, 0, none⟩ = some (.int .i64 n)
 c1 : W.cell? ⟨X, 1, none⟩ = some (.slice A bs.length c)
 cf : ∀ i, W.frozen? ⟨X, i, none⟩ = false
 own : OwnB w0.heap.size W (.slice A bs.length c) bs
 ne : (Value.slice A bs.length c).ownBlock ≠ some X
section
variable {w0 W : World} {X : Nat} {n : Int} {A : Option Addr} {c : Nat} {bs : List Bd}
theorem IX.below {w' : World} (h : IX w0 W X n A c bs) (hb : Below W.heap.size W w') : IX w0 w' X n A c bs :=
 ⟨bthen h.bel hb, h.lo, Nat.lt_of_lt_of_le h.ex hb.size, ((bcell hb).1 _ _ h.ex).trans h.c0, ((bcell hb).1 _ _ h.ex).trans h.c1, fun i => ((bcell hb).2 _ _ h.ex).trans (h.cf i), own_below h.own hb, h.ne⟩
theorem ix_new (hW : Below w0.heap.size w0 W) (n : Int) (t : TypeId) : IX w0 (W.alloc (.cells #[.int .i64 n, .slice none 0 0] t)) W.heap.size n none 0 [] := by
 have hb : Below W.heap.size W (W.alloc (.cells #[.int .i64 n, .slice none 0 0] t)) := by go_grown
 exact ⟨bthen hW hb, hW.size, by simp, by simp [go_sem], by simp [go_sem], fun i => by simp [go_sem], World.ownsRow_nil _ _ _ _, by simp [Value.ownBlock]⟩
theorem IX.setN (h : IX w0 W X n A c bs) (m : Int) : IX w0 (W.setCell ⟨X, 0, none⟩ (.int .i64 m)) X m A c bs :=
 ⟨h.bel.setCell h.lo _, h.lo, by rw [World.size_setCell]; exact h.ex, World.cell?_setCell_same _ _ _ h.c0, by rw [World.cell?_setCell_other _ _ _ _ (by simp)]; exact h.c1, fun i => by rw [← h.cf i]; simp, own_set h.own h.ne _, h.ne⟩
theorem IX.push {w3 w4 : World} {A5 : Option Addr} {c5 : Nat} {ns : List Bd} (h : IX w0 W X n A c bs) (hb3 : Below W.heap.size W w3) (hg : w3.grownBy w4 (Value.slice A bs.length c).ownBlock)
  (hown : w4.ownsRow w0.heap.size 97 3 (.slice A5 (bs.length + ns.length) c5) (bs.length + ns.length) (bdCs bs ++ bdCs ns))
  (hat : (Value.slice A5 (bs.length + ns.length) c5).ownBlock = (Value.slice A bs.length c).ownBlock ∨ (Value.slice A5 (bs.length + ns.length) c5).ownBlock = some w3.heap.size) :
  (w4.cell? ⟨X, 1, none⟩ = some (.slice A bs.length c) ∧ w4.frozen? ⟨X, 1, none⟩ = false) ∧ IX w0 (w4.setCell ⟨X, 1, none⟩ (.slice A5 (bs.length + ns.length) c5)) X n A5 c5 (bs ++ ns) := by
 have hlo : ∀ b, (Value.slice A bs.length c).ownBlock = some b → w0.heap.size ≤ b ∧ b < W.heap.size := fun b hb => h.own.lt b hb
 have s2 := hb3.size
 have s3 := hg.size
 have s0 := h.bel.size
 have sX := h.ex
 have neX : some X ≠ (Value.slice A bs.length c).ownBlock := fun e => h.ne e.symm
 have cX : ∀ i v, W.cell? ⟨X, i, none⟩ = some v → w4.cell? ⟨X, i, none⟩ = some v := fun i v hv => hg.cell (a := ⟨X, i, none⟩) ((hb3.cell (p := ⟨X, i, none⟩) h.ex).trans hv) neX
 have fX : ∀ i, w4.frozen? ⟨X, i, none⟩ = false := fun i => (hg.frozen_far ⟨X, i, none⟩ (by show X < _; omega) neX).trans (((bcell hb3).2 _ _ h.ex).trans (h.cf i))
 have hbel4 : Below w0.heap.size w0 w4 := (bthen h.bel hb3).grown hg (by omega) (fun b hb => (hlo b hb).1)
 have newX : (Value.slice A5 (bs.length + ns.length) c5).ownBlock ≠ some X := fun e => by
  rcases hat with e1 | e1
  ·exact h.ne (e1 ▸ e)
  ·rw [e1] at e; injection e with e; omega
 have hl : (bs ++ ns).length = bs.length + ns.length := by simp
 refine ⟨⟨cX 1 _ h.c1, fX 1⟩, ⟨hbel4.setCell h.lo _, h.lo, by rw [World.size_setCell]; omega, ?_, ?_, fun i => by rw [← fX i]; simp, ?_, by rw [hl]; exact newX⟩⟩
 ·rw [World.cell?_setCell_other _ _ _ _ (by simp)]; exact cX 0 _ h.c0
 ·rw [hl]; exact World.cell?_setCell_same _ _ _ (cX 1 _ h.c1)
 ·unfold OwnB; rw [hl, bdCs_append]; exact own_set hown newX _
end
theorem bd_news {w : World} {g : Nat} {x : Bd} {t : TypeId} (h : w.heap[g]? = some (.cells #[.int .i64 x.f, .int .i64 x.t, .int .i64 x.m] t (0, 0))) : NewsAt w (some ⟨g, 0, none⟩) 1 (bdCs [x]) :=
 NewsAt.block (cs := #[.int .i64 x.f, .int .i64 x.t, .int .i64 x.m]) h
theorem bd_news2 {w : World} {g : Nat} {x y : Bd} {t : TypeId} (h : w.heap[g]? = some (.cells #[.int .i64 x.f, .int .i64 x.t, .int .i64 x.m, .int .i64 y.f, .int .i64 y.t, .int .i64 y.m] t (0, 0))) : NewsAt w (some ⟨g, 0, none⟩) 2 (bdCs [x, y]) :=
 NewsAt.block (cs := #[.int .i64 x.f, .int .i64 x.t, .int .i64 x.m, .int .i64 y.f, .int .i64 y.t, .int .i64 y.m]) h
theorem small_tm : ∀ a : Tm, 2 * a.steps + a.withs ≤ 50 * a.size ∧ a.thens ≤ 50 * a.size
 | .step l h => by simp [Tm.steps, Tm.withs, Tm.thens, Tm.size]
 | .wth a h => by have := small_tm a; simp only [Tm.steps, Tm.withs, Tm.thens, Tm.size]; omega
 | .thn a b => by have := small_tm a; have := small_tm b; simp only [Tm.steps, Tm.withs, Tm.thens, Tm.size]; omega
 | .bth a b => by have := small_tm a; have := small_tm b; simp only [Tm.steps, Tm.withs, Tm.thens, Tm.size]; omega
set_option maxHeartbeats 4000000 in
set_option maxRecDepth 100000 in
theorem into_q (w0 : World) (X : Nat) : ∀ (a : Tm) (p b e f : Nat) (bs : List Bd) (A : Option Addr) (c : Nat) (W : World), a.size ≤ 20 → a.fine → f ≤ 1000 - 50 * a.size → bs.length ≤ 2000 - 50 * a.size → b ≤ 1000 → e ≤ 1000 → IX w0 W X (f : Int) A c bs → PtR w0 w0.heap.size a p →
  Calls Tryz.prog 108 #[.pointer (some ⟨p, 0, none⟩), .pointer (some ⟨X, 0, none⟩), .int .i64 (b : Int), .int .i64 (e : Int)] W fun en w' => en = .returned (.tuple #[]) ∧ ∃ A' c', IX w0 w' X ((tmB a b e f).2 : Int) A' c' (bs ++ (tmB a b e f).1) := by
 intro a
 induction a with
 | step l h =>
   intro p b e f bs A c W hs hf hfl hbl hb he hX hP
   obtain ⟨i0, hi0, hz0, hz1, hz2⟩ := info_parts infoB
   obtain ⟨Ak, ck, ⟨hat, c0, c1, c2, c3⟩⟩ := hP
   dsimp only at c0 c1 c2
   obtain ⟨hl0, hl1, hl2⟩ := hf
   have hw : IntKind.i64.wrap (-l) = -l := IntWalk.i64_in _ (by omega)
   have hS : ∀ wq, Below W.heap.size W wq → (wq.cell? ⟨p, 1, none⟩ = some (.int .i64 l) ∧ wq.cell? ⟨p, 2, none⟩ = some (.int .i64 h) ∧ wq.cell? ⟨X, 1, none⟩ = some (.slice A bs.length c)) := fun wq hq =>
    ⟨((bcell (bthen hX.bel hq)).1 _ _ hat).trans c1, ((bcell (bthen hX.bel hq)).1 _ _ hat).trans c2, ((bcell hq).1 _ _ hX.ex).trans hX.c1⟩
   have e0 := ((bcell hX.bel).1 _ _ hat).trans c0
   have HS := hide hS
   have hpX : p < X := Nat.lt_of_lt_of_le hat hX.lo
   have c1W := ((bcell hX.bel).1 _ _ hat).trans c1
   have c2W := ((bcell hX.bel).1 _ _ hat).trans c2
   clear hS c0 c1 c2 c3
   have Hc := hide (And.intro c1W c2W)
   clear c1W c2W
   go_enter Tryz.func108, Tryz.ntmps108
   go_upto_region 2 with fail
   refine wp_regionE (fun w' => w'.cell? ⟨p, 1, none⟩ = some (.int .i64 l) ∧ w'.cell? ⟨p, 2, none⟩ = some (.int .i64 h) ∧ w'.cell? ⟨X, 1, none⟩ = some (.slice A bs.length c)) 26 (by kernel_rfl) ?_
   change wpE _ _ _ _ _ _ 27 #[false, false, false, false, false, false, false, false, false, false, false, false, false, false, false, false, false, false, false, false, false, false, false, false, false, false, false] _ _
   have hal : Below W.heap.size W W.drew := by go_grown
   have hX1 := hX.below hal
   generalize W.drew = wd at hal hX1 ⊢
   have hS0 := HS.out wd hal
   refine wpE_tk (v := ?_) 0 [26] (hy := ?_) (hS := hS0) (h := ?_)
   rotate_left
   ·intro w' hSw
    obtain ⟨hs0, hs1, hs2⟩ := hSw
    simp only [xg0, xg1, xg2]
    go_simp
    all_goals with_reducible rfl
   simp only [xg0, xg1, xg2, Act.put, xs0, xs1, xs2]
   refine wpE_tk (v := ?_) 1 [26] (hy := ?_) (hS := hS0) (h := ?_)
   rotate_left
   ·intro w' hSw
    obtain ⟨hs0, hs1, hs2⟩ := hSw
    simp only [xg0, xg1, xg2]
    go_simp
    all_goals with_reducible rfl
   simp only [xg0, xg1, xg2, Act.put, xs0, xs1, xs2]
   refine wpE_tk (v := ?_) 2 [26] (hy := ?_) (hS := hS0) (h := ?_)
   rotate_left
   ·intro w' hSw
    obtain ⟨hs0, hs1, hs2⟩ := hSw
    simp only [xg0, xg1, xg2]
    go_simp
    all_goals with_reducible rfl
   simp only [xg0, xg1, xg2, Act.put, xs0, xs1, xs2]
   refine wpE_tk (v := ?_) 3 [26] (hy := ?_) (hS := hS0) (h := ?_)
   rotate_left
   ·intro w' hSw
    obtain ⟨hs0, hs1, hs2⟩ := hSw
    simp only [xg0, xg1, xg2]
    go_simp
    all_goals with_reducible rfl
   simp only [xg0, xg1, xg2, Act.put, xs0, xs1, xs2]
   refine wpE_tk (v := ?_) 4 [26] (hy := ?_) (hS := hS0) (h := ?_)
   rotate_left
   ·intro w' hSw
    obtain ⟨hs0, hs1, hs2⟩ := hSw
    simp only [xg0, xg1, xg2]
    go_simp
    all_goals with_reducible rfl
   simp only [xg0, xg1, xg2, Act.put, xs0, xs1, xs2]
   refine wpE_tk (v := ?_) 5 [26] (hy := ?_) (hS := hS0) (h := ?_)
   rotate_left
   ·intro w' hSw
    obtain ⟨hs0, hs1, hs2⟩ := hSw
    simp only [xg0, xg1, xg2]
    go_simp
    all_goals with_reducible rfl
   simp only [xg0, xg1, xg2, Act.put, xs0, xs1, xs2]
   refine wpE_tk (v := ?_) 6 [26] (hy := ?_) (hS := hS0) (h := ?_)
   rotate_left
   ·intro w' hSw
    obtain ⟨hs0, hs1, hs2⟩ := hSw
    simp only [xg0, xg1, xg2]
    go_simp
    all_goals with_reducible rfl
   simp only [xg0, xg1, xg2, Act.put, xs0, xs1, xs2]
   refine wpE_tk (v := ?_) 7 [26] (hy := ?_) (hS := hS0) (h := ?_)
   rotate_left
   ·intro w' hSw
    obtain ⟨hs0, hs1, hs2⟩ := hSw
    simp only [xg0, xg1, xg2]
    go_simp
    all_goals with_reducible rfl
   simp only [xg0, xg1, xg2, Act.put, xs0, xs1, xs2]
   refine wpE_tk (v := ?_) 8 [26] (hy := ?_) (hS := hS0) (h := ?_)
   rotate_left
   ·intro w' hSw
    obtain ⟨hs0, hs1, hs2⟩ := hSw
    simp only [xg0, xg1, xg2]
    go_simp
    all_goals with_reducible rfl
   simp only [xg0, xg1, xg2, Act.put, xs0, xs1, xs2]
   refine wpE_tk (v := ?_) 9 [26] (hy := ?_) (hS := hS0) (h := ?_)
   rotate_left
   ·intro w' hSw
    obtain ⟨hs0, hs1, hs2⟩ := hSw
    simp only [xg0, xg1, xg2]
    go_simp
    all_goals with_reducible rfl
   simp only [xg0, xg1, xg2, Act.put, xs0, xs1, xs2]
   refine wpE_tk (v := ?_) 10 [26] (hy := ?_) (hS := hS0) (h := ?_)
   rotate_left
   ·intro w' hSw
    obtain ⟨hs0, hs1, hs2⟩ := hSw
    simp only [xg0, xg1, xg2]
    go_simp
    all_goals with_reducible rfl
   simp only [xg0, xg1, xg2, Act.put, xs0, xs1, xs2]
   refine wpE_tk (v := ?_) 11 [26] (hy := ?_) (hS := hS0) (h := ?_)
   rotate_left
   ·intro w' hSw
    obtain ⟨hs0, hs1, hs2⟩ := hSw
    simp only [xg0, xg1, xg2]
    go_simp
    all_goals with_reducible rfl
   simp only [xg0, xg1, xg2, Act.put, xs0, xs1, xs2]
   refine wpE_tk (v := ?_) 12 [26] (hy := ?_) (hS := hS0) (h := ?_)
   rotate_left
   ·intro w' hSw
    obtain ⟨hs0, hs1, hs2⟩ := hSw
    simp only [xg0, xg1, xg2]
    go_simp
    all_goals with_reducible rfl
   simp only [xg0, xg1, xg2, Act.put, xs0, xs1, xs2]
   refine wpE_tk (v := ?_) 13 [26] (hy := ?_) (hS := hS0) (h := ?_)
   rotate_left
   ·intro w' hSw
    obtain ⟨hs0, hs1, hs2⟩ := hSw
    simp only [xg0, xg1, xg2]
    go_simp
    all_goals with_reducible rfl
   simp only [xg0, xg1, xg2, Act.put, xs0, xs1, xs2]
   refine wpE_tk (v := ?_) 14 [26] (hy := ?_) (hS := hS0) (h := ?_)
   rotate_left
   ·intro w' hSw
    obtain ⟨hs0, hs1, hs2⟩ := hSw
    simp only [xg0, xg1, xg2]
    go_simp
    all_goals with_reducible rfl
   simp only [xg0, xg1, xg2, Act.put, xs0, xs1, xs2]
   refine wpE_tk (v := ?_) 15 [26] (hy := ?_) (hS := hS0) (h := ?_)
   rotate_left
   ·intro w' hSw
    obtain ⟨hs0, hs1, hs2⟩ := hSw
    simp only [xg0, xg1, xg2]
    go_simp
    all_goals with_reducible rfl
   simp only [xg0, xg1, xg2, Act.put, xs0, xs1, xs2]
   refine wpE_tk (v := ?_) 16 [26] (hy := ?_) (hS := hS0) (h := ?_)
   rotate_left
   ·intro w' hSw
    obtain ⟨hs0, hs1, hs2⟩ := hSw
    simp only [xg0, xg1, xg2]
    go_simp
    all_goals with_reducible rfl
   simp only [xg0, xg1, xg2, Act.put, xs0, xs1, xs2]
   refine wpE_tk (v := ?_) 17 [26] (hy := ?_) (hS := hS0) (h := ?_)
   rotate_left
   ·intro w' hSw
    obtain ⟨hs0, hs1, hs2⟩ := hSw
    simp only [xg0, xg1, xg2]
    go_simp
    all_goals with_reducible rfl
   simp only [xg0, xg1, xg2, Act.put, xs0, xs1, xs2]
   refine wpE_tk (v := ?_) 18 [26] (hy := ?_) (hS := hS0) (h := ?_)
   rotate_left
   ·intro w' hSw
    obtain ⟨hs0, hs1, hs2⟩ := hSw
    simp only [xg0, xg1, xg2]
    go_simp
    all_goals with_reducible rfl
   simp only [xg0, xg1, xg2, Act.put, xs0, xs1, xs2]
   refine wpE_tk (v := ?_) 19 [26] (hy := ?_) (hS := hS0) (h := ?_)
   rotate_left
   ·intro w' hSw
    obtain ⟨hs0, hs1, hs2⟩ := hSw
    simp only [xg0, xg1, xg2]
    go_simp
    all_goals with_reducible rfl
   simp only [xg0, xg1, xg2, Act.put, xs0, xs1, xs2]
   refine wpE_tk (v := ?_) 20 [26] (hy := ?_) (hS := hS0) (h := ?_)
   rotate_left
   ·intro w' hSw
    obtain ⟨hs0, hs1, hs2⟩ := hSw
    simp only [xg0, xg1, xg2]
    go_simp
    all_goals with_reducible rfl
   simp only [xg0, xg1, xg2, Act.put, xs0, xs1, xs2]
   refine wpE_tk (v := ?_) 21 [26] (hy := ?_) (hS := hS0) (h := ?_)
   rotate_left
   ·intro w' hSw
    obtain ⟨hs0, hs1, hs2⟩ := hSw
    simp only [xg0, xg1, xg2]
    go_simp
    all_goals with_reducible rfl
   simp only [xg0, xg1, xg2, Act.put, xs0, xs1, xs2]
   clear hS0
   have hb3 : Below wd.heap.size wd (wd.alloc (.cells #[.int .i64 (b : Int), .int .i64 (e : Int), .int .i64 h, .int .i64 (e : Int), .int .i64 (b : Int), .int .i64 (-l)] 97)) := by go_grown
   have hnew : (wd.alloc (.cells #[.int .i64 (b : Int), .int .i64 (e : Int), .int .i64 h, .int .i64 (e : Int), .int .i64 (b : Int), .int .i64 (-l)] 97)).heap[wd.heap.size]? = some (.cells #[.int .i64 (b : Int), .int .i64 (e : Int), .int .i64 h, .int .i64 (e : Int), .int .i64 (b : Int), .int .i64 (-l)] 97 (0, 0)) := at_new rfl
   have hX3 := hX1.below hb3
   refine wpE_step' 22 (of_decide_eq_true (by kernel_rfl)) (by kernel_rfl) (by kernel_rfl) (fun K hK => ?_)
   simp only [xg0, xg1, xg2]
   go_simp
   refine hK.out _ _ (.inr (HS.out _ (bthen hal hb3))) ?_
   clear hK K
   simp only [Act.put, xs0, xs1, xs2]
   refine wpE_step' 23 (of_decide_eq_true (by kernel_rfl)) (by kernel_rfl) (by kernel_rfl) (fun K hK => ?_)
   simp only [xg0, xg1, xg2]
   refine app_wp _ (.tmp 20) (.tmp 38) _ rfl w0.heap.size 97 i0 _ 3 24 Tryz.underlying32 hi0 hz0 hz1 hz2 rfl (by omega) (.slice A bs.length c) bs.length (bdCs bs) rfl hX3.own (some ⟨wd.heap.size, 0, none⟩) 2 _ (bdCs [⟨b, e, h⟩, ⟨e, b, -l⟩]) rfl rfl (bd_news2 hnew) (bdCs_one _) (by omega) (by omega) hX3.bel.size ?_
   intro A5 c5 w5 hown5 hg5 hat5
   obtain ⟨⟨x3, xf⟩, hX5⟩ := hX1.push (ns := [⟨b, e, h⟩, ⟨e, b, -l⟩]) hb3 hg5 hown5 hat5
   have hpo : some p ≠ (Value.slice A bs.length c).ownBlock := fun e => by have := hX1.own.lt p e.symm; omega
   have hS0 : w5.cell? ⟨p, 1, none⟩ = some (.int .i64 l) ∧ w5.cell? ⟨p, 2, none⟩ = some (.int .i64 h) ∧ w5.cell? ⟨X, 1, none⟩ = some (.slice A bs.length c) :=
    ⟨hg5.cell (a := ⟨p, 1, none⟩) (HS.out _ (bthen hal hb3)).1 hpo, hg5.cell (a := ⟨p, 2, none⟩) (HS.out _ (bthen hal hb3)).2.1 hpo, x3⟩
   refine hK.out _ _ (.inr hS0) ?_
   clear hK K
   simp only [Act.put, xs0, xs1, xs2]
   refine wpE_tk (v := ?_) 24 [25, 26] (hy := ?_) (hS := hS0) (h := ?_)
   rotate_left
   ·intro w' hSw
    obtain ⟨hs0, hs1, hs2⟩ := hSw
    simp only [xg0, xg1, xg2]
    go_simp
    all_goals with_reducible rfl
   simp only [xg0, xg1, xg2, Act.put, xs0, xs1, xs2]
   refine wpE_tk (v := ?_) 25 [26] (hy := ?_) (hS := hS0) (h := ?_)
   rotate_left
   ·intro w' hSw
    obtain ⟨hs0, hs1, hs2⟩ := hSw
    simp only [xg0, xg1, xg2]
    go_simp
    all_goals with_reducible rfl
   simp only [xg0, xg1, xg2, Act.put, xs0, xs1, xs2]
   refine wpE_step' 26 (of_decide_eq_true (by kernel_rfl)) (by kernel_rfl) (by kernel_rfl) (fun K hK => ?_)
   simp only [xg0, xg1, xg2]
   go_simp
   refine hK.out _ _ (.inl rfl) ?_
   clear hK K
   simp only [Act.put, xs0, xs1, xs2]
   refine wpE_done (by kernel_rfl) ?_ _
   go_wp2_with fail
   go_end0
   exact ⟨rfl, _, _, hX5⟩
 | wth a h ih0 =>
   intro p b e f bs A c W hs hf hfl hbl hb he hX hP
   obtain ⟨i0, hi0, hz0, hz1, hz2⟩ := info_parts infoB
   obtain ⟨Ak, ck, bk, ok, q, ⟨hat, c0, c1, c2, c3⟩, rfl, hbS, hq, hP0⟩ := hP
   dsimp only at c0 c1 c2
   dsimp only [ptr] at hq
   obtain ⟨hf0, hh1, hh2⟩ := hf
   have e0 := ((bcell hX.bel).1 _ _ hat).trans c0
   have e3 := ((bcell hX.bel).1 _ _ hat).trans c3
   have k0 := ((bcell hX.bel).1 _ _ hbS).trans hq
   have hpX : p < X := Nat.lt_of_lt_of_le hat hX.lo
   simp only [Tm.size] at hs hfl hbl
   have hcall := ih0 q b e f bs A c W (by omega) hf0 (by omega) (by omega) hb he hX hP0
   obtain ⟨N, hN⟩ : ∃ N, (tmB a b e f).1 = N := ⟨_, rfl⟩
   obtain ⟨F, hF⟩ : ∃ F, (tmB a b e f).2 = F := ⟨_, rfl⟩
   have hNl : N.length ≤ 50 * a.size := by rw [← hN, tmB_len]; exact (small_tm a).1
   have hR : Hid ((tmB (.wth a h) b e f).2 = F ∧ (tmB (.wth a h) b e f).1 = N ++ [⟨b, e, h⟩]) := ⟨hF, by simp only [tmB]; rw [hN]⟩
   rw [hN, hF] at hcall
   clear hN hF ih0
   obtain ⟨bs2, hbs2⟩ : ∃ bs2, bs ++ N = bs2 := ⟨_, rfl⟩
   have hl2 : bs2.length ≤ 2000 := by rw [← hbs2, List.length_append]; omega
   rw [hbs2] at hcall
   have Hbs2 := hide hbs2
   clear hbs2 hNl
   go_enter Tryz.func108, Tryz.ntmps108
   go_upto_region 13 with (go_at_call 108; refine hcall.mono ?_; clear hcall; rintro en w2 ⟨rfl, A2, c2', hX2⟩)
   clear e0 e3 k0 hX
   have hS : ∀ wq, Below w2.heap.size w2 wq → (wq.cell? ⟨p, 1, none⟩ = some (.int .i64 0) ∧ wq.cell? ⟨p, 2, none⟩ = some (.int .i64 h) ∧ wq.cell? ⟨X, 1, none⟩ = some (.slice A2 bs2.length c2')) := fun wq hq =>
    ⟨((bcell (bthen hX2.bel hq)).1 _ _ hat).trans c1, ((bcell (bthen hX2.bel hq)).1 _ _ hat).trans c2, ((bcell hq).1 _ _ hX2.ex).trans hX2.c1⟩
   have HS := hide hS
   clear hS c0 c1 c2 c3 hq
   refine wp_regionE (fun w' => w'.cell? ⟨p, 1, none⟩ = some (.int .i64 0) ∧ w'.cell? ⟨p, 2, none⟩ = some (.int .i64 h) ∧ w'.cell? ⟨X, 1, none⟩ = some (.slice A2 bs2.length c2')) 17 (by kernel_rfl) ?_
   change wpE _ _ _ _ _ _ 18 #[false, false, false, false, false, false, false, false, false, false, false, false, false, false, false, false, false, false] _ _
   have hal : Below w2.heap.size w2 w2.drew := by go_grown
   have hX1 := hX2.below hal
   generalize w2.drew = wd at hal hX1 ⊢
   have hS0 := HS.out wd hal
   refine wpE_tk (v := ?_) 0 [17] (hy := ?_) (hS := hS0) (h := ?_)
   rotate_left
   ·intro w' hSw
    obtain ⟨hs0, hs1, hs2⟩ := hSw
    simp only [xg0, xg1, xg2]
    go_simp
    all_goals with_reducible rfl
   simp only [xg0, xg1, xg2, Act.put, xs0, xs1, xs2]
   refine wpE_tk (v := ?_) 1 [17] (hy := ?_) (hS := hS0) (h := ?_)
   rotate_left
   ·intro w' hSw
    obtain ⟨hs0, hs1, hs2⟩ := hSw
    simp only [xg0, xg1, xg2]
    go_simp
    all_goals with_reducible rfl
   simp only [xg0, xg1, xg2, Act.put, xs0, xs1, xs2]
   refine wpE_tk (v := ?_) 2 [17] (hy := ?_) (hS := hS0) (h := ?_)
   rotate_left
   ·intro w' hSw
    obtain ⟨hs0, hs1, hs2⟩ := hSw
    simp only [xg0, xg1, xg2]
    go_simp
    all_goals with_reducible rfl
   simp only [xg0, xg1, xg2, Act.put, xs0, xs1, xs2]
   refine wpE_tk (v := ?_) 3 [17] (hy := ?_) (hS := hS0) (h := ?_)
   rotate_left
   ·intro w' hSw
    obtain ⟨hs0, hs1, hs2⟩ := hSw
    simp only [xg0, xg1, xg2]
    go_simp
    all_goals with_reducible rfl
   simp only [xg0, xg1, xg2, Act.put, xs0, xs1, xs2]
   refine wpE_tk (v := ?_) 4 [17] (hy := ?_) (hS := hS0) (h := ?_)
   rotate_left
   ·intro w' hSw
    obtain ⟨hs0, hs1, hs2⟩ := hSw
    simp only [xg0, xg1, xg2]
    go_simp
    all_goals with_reducible rfl
   simp only [xg0, xg1, xg2, Act.put, xs0, xs1, xs2]
   refine wpE_tk (v := ?_) 5 [17] (hy := ?_) (hS := hS0) (h := ?_)
   rotate_left
   ·intro w' hSw
    obtain ⟨hs0, hs1, hs2⟩ := hSw
    simp only [xg0, xg1, xg2]
    go_simp
    all_goals with_reducible rfl
   simp only [xg0, xg1, xg2, Act.put, xs0, xs1, xs2]
   refine wpE_tk (v := ?_) 6 [17] (hy := ?_) (hS := hS0) (h := ?_)
   rotate_left
   ·intro w' hSw
    obtain ⟨hs0, hs1, hs2⟩ := hSw
    simp only [xg0, xg1, xg2]
    go_simp
    all_goals with_reducible rfl
   simp only [xg0, xg1, xg2, Act.put, xs0, xs1, xs2]
   refine wpE_tk (v := ?_) 7 [17] (hy := ?_) (hS := hS0) (h := ?_)
   rotate_left
   ·intro w' hSw
    obtain ⟨hs0, hs1, hs2⟩ := hSw
    simp only [xg0, xg1, xg2]
    go_simp
    all_goals with_reducible rfl
   simp only [xg0, xg1, xg2, Act.put, xs0, xs1, xs2]
   refine wpE_tk (v := ?_) 8 [17] (hy := ?_) (hS := hS0) (h := ?_)
   rotate_left
   ·intro w' hSw
    obtain ⟨hs0, hs1, hs2⟩ := hSw
    simp only [xg0, xg1, xg2]
    go_simp
    all_goals with_reducible rfl
   simp only [xg0, xg1, xg2, Act.put, xs0, xs1, xs2]
   refine wpE_tk (v := ?_) 9 [17] (hy := ?_) (hS := hS0) (h := ?_)
   rotate_left
   ·intro w' hSw
    obtain ⟨hs0, hs1, hs2⟩ := hSw
    simp only [xg0, xg1, xg2]
    go_simp
    all_goals with_reducible rfl
   simp only [xg0, xg1, xg2, Act.put, xs0, xs1, xs2]
   refine wpE_tk (v := ?_) 10 [17] (hy := ?_) (hS := hS0) (h := ?_)
   rotate_left
   ·intro w' hSw
    obtain ⟨hs0, hs1, hs2⟩ := hSw
    simp only [xg0, xg1, xg2]
    go_simp
    all_goals with_reducible rfl
   simp only [xg0, xg1, xg2, Act.put, xs0, xs1, xs2]
   refine wpE_tk (v := ?_) 11 [17] (hy := ?_) (hS := hS0) (h := ?_)
   rotate_left
   ·intro w' hSw
    obtain ⟨hs0, hs1, hs2⟩ := hSw
    simp only [xg0, xg1, xg2]
    go_simp
    all_goals with_reducible rfl
   simp only [xg0, xg1, xg2, Act.put, xs0, xs1, xs2]
   refine wpE_tk (v := ?_) 12 [17] (hy := ?_) (hS := hS0) (h := ?_)
   rotate_left
   ·intro w' hSw
    obtain ⟨hs0, hs1, hs2⟩ := hSw
    simp only [xg0, xg1, xg2]
    go_simp
    all_goals with_reducible rfl
   simp only [xg0, xg1, xg2, Act.put, xs0, xs1, xs2]
   clear hS0
   have hb3 : Below wd.heap.size wd (wd.alloc (.cells #[.int .i64 (b : Int), .int .i64 (e : Int), .int .i64 h] 97)) := by go_grown
   have hnew : (wd.alloc (.cells #[.int .i64 (b : Int), .int .i64 (e : Int), .int .i64 h] 97)).heap[wd.heap.size]? = some (.cells #[.int .i64 (b : Int), .int .i64 (e : Int), .int .i64 h] 97 (0, 0)) := at_new rfl
   have hX3 := hX1.below hb3
   refine wpE_step' 13 (of_decide_eq_true (by kernel_rfl)) (by kernel_rfl) (by kernel_rfl) (fun K hK => ?_)
   simp only [xg0, xg1, xg2]
   go_simp
   refine hK.out _ _ (.inr (HS.out _ (bthen hal hb3))) ?_
   clear hK K
   simp only [Act.put, xs0, xs1, xs2]
   refine wpE_step' 14 (of_decide_eq_true (by kernel_rfl)) (by kernel_rfl) (by kernel_rfl) (fun K hK => ?_)
   simp only [xg0, xg1, xg2]
   refine app_wp _ (.tmp 113) (.tmp 122) _ rfl w0.heap.size 97 i0 _ 3 24 Tryz.underlying32 hi0 hz0 hz1 hz2 rfl (by omega) (.slice A2 bs2.length c2') bs2.length (bdCs bs2) rfl hX3.own (some ⟨wd.heap.size, 0, none⟩) 1 _ (bdCs [⟨b, e, h⟩]) rfl rfl (bd_news hnew) (bdCs_one _) (by omega) (by omega) hX3.bel.size ?_
   intro A5 c5 w5 hown5 hg5 hat5
   obtain ⟨⟨x3, xf⟩, hX5⟩ := hX1.push (ns := [⟨b, e, h⟩]) hb3 hg5 hown5 hat5
   have hpo : some p ≠ (Value.slice A2 bs2.length c2').ownBlock := fun e => by have := hX1.own.lt p e.symm; omega
   have hS0 : w5.cell? ⟨p, 1, none⟩ = some (.int .i64 0) ∧ w5.cell? ⟨p, 2, none⟩ = some (.int .i64 h) ∧ w5.cell? ⟨X, 1, none⟩ = some (.slice A2 bs2.length c2') :=
    ⟨hg5.cell (a := ⟨p, 1, none⟩) (HS.out _ (bthen hal hb3)).1 hpo, hg5.cell (a := ⟨p, 2, none⟩) (HS.out _ (bthen hal hb3)).2.1 hpo, x3⟩
   refine hK.out _ _ (.inr hS0) ?_
   clear hK K
   simp only [Act.put, xs0, xs1, xs2]
   refine wpE_tk (v := ?_) 15 [16, 17] (hy := ?_) (hS := hS0) (h := ?_)
   rotate_left
   ·intro w' hSw
    obtain ⟨hs0, hs1, hs2⟩ := hSw
    simp only [xg0, xg1, xg2]
    go_simp
    all_goals with_reducible rfl
   simp only [xg0, xg1, xg2, Act.put, xs0, xs1, xs2]
   refine wpE_tk (v := ?_) 16 [17] (hy := ?_) (hS := hS0) (h := ?_)
   rotate_left
   ·intro w' hSw
    obtain ⟨hs0, hs1, hs2⟩ := hSw
    simp only [xg0, xg1, xg2]
    go_simp
    all_goals with_reducible rfl
   simp only [xg0, xg1, xg2, Act.put, xs0, xs1, xs2]
   refine wpE_step' 17 (of_decide_eq_true (by kernel_rfl)) (by kernel_rfl) (by kernel_rfl) (fun K hK => ?_)
   simp only [xg0, xg1, xg2]
   go_simp
   refine hK.out _ _ (.inl rfl) ?_
   clear hK K
   simp only [Act.put, xs0, xs1, xs2]
   refine wpE_done (by kernel_rfl) ?_ _
   rw [← Hbs2.out, List.append_assoc, ← hR.out.2, ← hR.out.1] at hX5
   have HX5 := hide hX5
   clear hX5
   go_wp2_with fail
   go_end0
   have h5 := HX5.out
   rw [Hbs2.out] at h5
   exact ⟨rfl, _, _, h5⟩
 | thn a a' ih0 ih1 =>
   intro p b e f bs A c W hs hf hfl hbl hb he hX hP
   obtain ⟨Ak, ck, bk, ok, q, q', ⟨hat, c0, c1, c2, c3⟩, rfl, hbS, hq, hq', hP0, hP1⟩ := hP
   dsimp only at c0 c1 c2
   dsimp only [ptr] at hq hq'
   obtain ⟨hf0, hf1⟩ := hf
   have e0 := ((bcell hX.bel).1 _ _ hat).trans c0
   have x0 := hX.c0
   have xf := hX.cf 0
   simp only [Tm.size] at hs hfl hbl
   have hw : IntKind.i64.wrap ((f : Int) + 1) = (f : Int) + 1 := IntWalk.i64_in _ (by omega)
   obtain ⟨N, hN⟩ : ∃ N, (tmB a b f (f + 1)).1 = N := ⟨_, rfl⟩
   obtain ⟨F, hF⟩ : ∃ F, (tmB a b f (f + 1)).2 = F := ⟨_, rfl⟩
   have hFl : F ≤ f + 1 + 50 * a.size ∧ N.length ≤ 50 * a.size := by
    have h1 := small_tm a
    rw [← hN, ← hF, tmB_len, tmB_next]; omega
   obtain ⟨bs2, hbs2⟩ : ∃ bs2, bs ++ N = bs2 := ⟨_, rfl⟩
   have hl2 : bs2.length ≤ bs.length + 50 * a.size := by rw [← hbs2, List.length_append]; omega
   have hcall := fun WW hh => ih0 q b f (f + 1) bs A c WW (by omega) hf0 (by omega) (by omega) hb (by omega) hh hP0
   have hcall1 := fun A2 c2 WW hh => ih1 q' f e F bs2 A2 c2 WW (by omega) hf1 (by omega) (by omega) (by omega) he hh hP1
   rw [hN, hF, hbs2] at hcall
   have hR : Hid ((tmB (.thn a a') b e f).2 = (tmB a' f e F).2 ∧ (tmB (.thn a a') b e f).1 = N ++ (tmB a' f e F).1) := by
    refine ⟨?_, ?_⟩
    ·simp only [tmB]; rw [hF]
    ·simp only [tmB]; rw [hN, hF]
   have Hc := hide hcall
   have Hc1 := hide hcall1
   have Hbs2 := hide hbs2
   have HXn := hide (hX.setN ((f : Int) + 1))
   clear hN hF hbs2 hcall hcall1 ih0 ih1
   go_enter Tryz.func108, Tryz.ntmps108
   go_upto_region 6 with fail
   have hX2 := HXn.out
   clear hX HXn x0 xf e0
   generalize W.setCell ⟨X, 0, none⟩ (.int .i64 ((f : Int) + 1)) = W2 at hX2 ⊢
   rw [show (f : Int) + 1 = ((f + 1 : Nat) : Int) by omega] at hX2
   have e3 := ((bcell hX2.bel).1 _ _ hat).trans c3
   have k0 := ((bcell hX2.bel).1 _ _ hbS).trans hq
   go_upto_region 7 with (go_at_call 108; refine (Hc.out _ hX2).mono ?_; rintro en w3 ⟨rfl, A3, c3', hX3⟩)
   clear e3 k0 hX2
   have e3 := ((bcell hX3.bel).1 _ _ hat).trans c3
   have k0 := ((bcell hX3.bel).1 _ _ hbS).trans hq'
   go_wp2_with (go_at_call 108; refine (Hc1.out _ _ _ hX3).mono ?_; rintro en w4 ⟨rfl, A4, c4', hX4⟩)
   go_end0
   refine ⟨rfl, A4, c4', ?_⟩
   rw [hR.out.1, hR.out.2, ← List.append_assoc, Hbs2.out]
   exact hX4
 | bth a a' ih0 ih1 =>
   intro p b e f bs A c W hs hf hfl hbl hb he hX hP
   obtain ⟨Ak, ck, bk, ok, q, q', ⟨hat, c0, c1, c2, c3⟩, rfl, hbS, hq, hq', hP0, hP1⟩ := hP
   dsimp only at c0 c1 c2
   dsimp only [ptr] at hq hq'
   obtain ⟨hf0, hf1⟩ := hf
   have e0 := ((bcell hX.bel).1 _ _ hat).trans c0
   have e3 := ((bcell hX.bel).1 _ _ hat).trans c3
   have k0 := ((bcell hX.bel).1 _ _ hbS).trans hq
   simp only [Tm.size] at hs hfl hbl
   obtain ⟨N, hN⟩ : ∃ N, (tmB a b e f).1 = N := ⟨_, rfl⟩
   obtain ⟨F, hF⟩ : ∃ F, (tmB a b e f).2 = F := ⟨_, rfl⟩
   have hFl : F ≤ f + 50 * a.size ∧ N.length ≤ 50 * a.size := by
    have h1 := small_tm a
    rw [← hN, ← hF, tmB_len, tmB_next]; omega
   obtain ⟨bs2, hbs2⟩ : ∃ bs2, bs ++ N = bs2 := ⟨_, rfl⟩
   have hl2 : bs2.length ≤ bs.length + 50 * a.size := by rw [← hbs2, List.length_append]; omega
   have hcall := fun WW hh => ih0 q b e f bs A c WW (by omega) hf0 (by omega) (by omega) hb (by omega) hh hP0
   have hcall1 := fun A2 c2 WW hh => ih1 q' b e F bs2 A2 c2 WW (by omega) hf1 (by omega) (by omega) (by omega) he hh hP1
   rw [hN, hF, hbs2] at hcall
   have hR : Hid ((tmB (.bth a a') b e f).2 = (tmB a' b e F).2 ∧ (tmB (.bth a a') b e f).1 = N ++ (tmB a' b e F).1) := by
    refine ⟨?_, ?_⟩
    ·simp only [tmB]; rw [hF]
    ·simp only [tmB]; rw [hN, hF]
   have Hc := hide hcall
   have Hc1 := hide hcall1
   have Hbs2 := hide hbs2
   clear hN hF hbs2 hcall hcall1 ih0 ih1
   go_enter Tryz.func108, Tryz.ntmps108
   go_upto_region 10 with (go_at_call 108; refine (Hc.out _ hX).mono ?_; rintro en w3 ⟨rfl, A3, c3', hX3⟩)
   clear e3 k0
   have e3 := ((bcell hX3.bel).1 _ _ hat).trans c3
   have k0 := ((bcell hX3.bel).1 _ _ hbS).trans hq'
   go_wp2_with (go_at_call 108; refine (Hc1.out _ _ _ hX3).mono ?_; rintro en w4 ⟨rfl, A4, c4', hX4⟩)
   go_end0
   refine ⟨rfl, A4, c4', ?_⟩
   rw [hR.out.1, hR.out.2, ← List.append_assoc, Hbs2.out]
   exact hX4
namespace Pp
/-- The plan of a term, and whether there is one. -/
def planOf (t : List Mk) : Pl := match termOf t with
 | some a => if planOk (tmP a) then tmP a else ⟨0, []⟩
 | none => ⟨0, []⟩
def planIs (t : List Mk) : Bool := match termOf t with
 | some a => planOk (tmP a)
 | none => false
end Pp
set_option maxHeartbeats 2000000 in
set_option maxRecDepth 100000 in
theorem planOf_q (t : List Mk) (P : Pl) (r : Bool) (hPq : planOf t = P) (hr : planIs t = r) (A : Option Addr) (b o c B : Nat) (w : World) (hB : B ≤ w.heap.size) (hR : MkR w B b o A t) (hn : t.length ≤ 2000000) :
  Calls Tryz.prog 81 #[.slice A t.length c] w fun e w' => ∃ A1 c1 g1, e = .returned (.tuple #[.agg #[.int .i64 P.n, .slice A1 P.bs.length c1], .bool r]) ∧ BdsR w' w'.heap.size g1 0 A1 P.bs ∧ OwnB w.heap.size w' (.slice A1 P.bs.length c1) P.bs ∧ Below w.heap.size w w' := by
 cases ht : termOf t with
 | none =>
   obtain rfl : P = ⟨0, []⟩ := by rw [← hPq]; unfold planOf; rw [ht]
   obtain rfl : r = false := by rw [← hr]; unfold planIs; rw [ht]
   have Ht := hide ht
   clear ht hPq hr
   have hZ := zb_new (w0 := w) (W := w) (t := 34) (Nat.le_refl _)
   have hal : Below w.heap.size w (w.alloc (.cells #[.int .i64 0, .slice none 0 0] 34)) := by go_grown
   have hRw := (hR.more hB).below hal
   go_enter Tryz.func81, Tryz.ntmps81
   go_upto_region 1 with fail
   generalize w.alloc (.cells #[.int .i64 0, .slice none 0 0] 34) = W at hZ hal hRw ⊢
   obtain ⟨Y, hY⟩ : ∃ Y, Y = w.heap.size := ⟨_, rfl⟩
   rw [← hY] at hZ ⊢
   have HY := hide hY
   clear hY
   go_upto_region 3 with (go_at_call 107; go_fit (build_no t Ht.out A b o c _ _ hal.size hRw hn); rintro e w2 ⟨rfl, hb⟩; replace hZ := hZ.below hb)
   have z0 := hZ.z0
   have z1 := hZ.z1
   have zf := hZ.zf
   obtain ⟨r0, r1, ho, hb9⟩ := hZ.fin (n := 0) (A := none) (c := 0) (bs := []) (bthen hal hb) (World.ownsRow_nil _ _ _ _) (by simp [Value.ownBlock])
   simp only [List.length_nil] at r0 r1 hb9
   go_wp2_with fail
   refine bodyPost_ret (v := .tuple #[.agg #[.int .i64 0, .slice none 0 0], .bool false]) (by simp [results, Tryz.results81, go_sem, r0, r1]) rfl ?_
   exact ⟨none, 0, 0, rfl, BdsR.nil _ _ _, ho, hb9⟩
 | some a =>
   obtain ⟨hf, hm, h11⟩ := term_back ht
   have hsz : a.size ≤ 11 := by rw [← Tm.marks_len, hm]; exact h11
   have hPq2 : toldP (tmP a) = P := by rw [← hPq]; unfold planOf toldP; rw [ht]
   have hr2 : planOk (tmP a) = r := by rw [← hr]; unfold planIs; rw [ht]
   have hth := small_tm a
   have hlen : (tmB a 0 1 2).1.length ≤ 2000 := by rw [tmB_len]; omega
   have Ht := hide ht
   clear ht hPq hr hm
   have hZ := zb_new (w0 := w) (W := w) (t := 34) (Nat.le_refl _)
   have hal : Below w.heap.size w (w.alloc (.cells #[.int .i64 0, .slice none 0 0] 34)) := by go_grown
   have hRw := (hR.more hB).below hal
   obtain ⟨bs, hbs⟩ : ∃ bs, (tmB a 0 1 2).1 = bs := ⟨_, rfl⟩
   obtain ⟨N, hN⟩ : ∃ N, (tmB a 0 1 2).2 = N := ⟨_, rfl⟩
   have htm : tmP a = ⟨(N : Int), bs⟩ := by unfold tmP; rw [hN, hbs]
   rw [htm] at hPq2 hr2
   rw [hbs] at hlen
   have Hq2 := hide hPq2
   have Hr2 := hide hr2
   have Hbn := hide (And.intro hbs hN)
   clear hPq2 hr2 hbs hN htm
   go_enter Tryz.func81, Tryz.ntmps81
   go_upto_region 1 with fail
   generalize w.alloc (.cells #[.int .i64 0, .slice none 0 0] 34) = W at hZ hal hRw ⊢
   obtain ⟨Y, hY⟩ : ∃ Y, Y = w.heap.size := ⟨_, rfl⟩
   rw [← hY] at hZ ⊢
   have HY := hide hY
   clear hY
   go_upto_region 4 with (go_at_call 107; go_fit (build_yes t Ht.out A b o c _ _ hal.size hRw hn); rintro e w2 ⟨p, rfl, hP, hb⟩; dsimp only [ptr]; replace hZ := hZ.below hb)
   have hB2 := bthen hal hb
   have hX := ix_new (Below.refl w2.heap.size w2) 2 34
   go_upto_region 5 with fail
   generalize w2.alloc (.cells #[.int .i64 2, .slice none 0 0] 34) = W3 at hX ⊢
   have hXe : w2.heap.size = w2.heap.size := rfl
   obtain ⟨X, hXe⟩ : ∃ X, X = w2.heap.size := ⟨_, rfl⟩
   rw [← hXe] at hX ⊢
   have hcall := into_q w2 X a p 0 1 2 [] none 0 W3 (by omega) hf (by omega) (by simp) (by omega) (by omega) hX hP
   rw [Hbn.out.1, Hbn.out.2, List.nil_append] at hcall
   have HXe := hide hXe
   clear hXe hX
   go_upto_region 6 with (go_at_call 108; refine hcall.mono ?_; clear hcall; rintro en w4 ⟨rfl, A2, c2, hX4⟩)
   have x0 := hX4.c0
   have x1 := hX4.c1
   replace hZ := hZ.below hX4.bel
   have hB4 := bthen hB2 hX4.bel
   obtain ⟨g2, hr2⟩ := OwnB.readsA hX4.own
   go_wp2_with (go_at_call 75; go_fit (told_q ⟨N, bs⟩ P r Hq2.out Hr2.out A2 g2 0 c2 _ w4 (Nat.le_trans hlen (by omega)) (Nat.le_refl _) hr2); rintro e w5 ⟨A1, c1, g1, rfl, hr5, own5, hb5⟩; have hZ5 := hZ.below hb5; have z0 := hZ5.z0; have z1 := hZ5.z1; have zf := hZ5.zf)
   have hB5 := bthen hB4 hb5
   have ne5 : (Value.slice A1 P.bs.length c1).ownBlock ≠ some Y := fun e => by
    have h1 := own5.lt Y e
    have h2 := hZ.ex
    omega
   obtain ⟨r0, r1, ho, hb9⟩ := hZ5.fin (n := P.n) hB5 (own_less own5 hB4.size) ne5
   refine bodyPost_ret (v := .tuple #[.agg #[.int .i64 P.n, .slice A1 P.bs.length c1], .bool r]) (by simp [results, Tryz.results81, go_sem, r0, r1]) rfl ?_
   obtain ⟨g9, hr9⟩ := OwnB.readsA ho
   exact ⟨A1, c1, g9, rfl, hr9, ho, hb9⟩
end Go.Proofs.YtmnajkhoacogjaaGreatDoor
