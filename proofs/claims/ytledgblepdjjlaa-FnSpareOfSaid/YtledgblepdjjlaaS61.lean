/-
  spec: LoweredBy, for a plan.
-/
import Derived.Test.YtledgblepdjjlaaP22
import Derived.Test.YtledgblepdjjlaaL11a
import Derived.Test.YtledgblepdjjlaaS1
import Derived.Test.YtledgblepdjjlaaZ1
import Derived.Test.YtledgblepdjjlaaD2
namespace Go.Proofs.Ytledgblepdjjlaa
set_option linter.unusedVariables false
set_option linter.unusedSimpArgs false
open Go.RowKit Pp

/-- A plan is being made in the box X, of bounds behind W. -/
structure LW (W wr : World) (X : Nat) (n : Int) (A : Option Addr) (c : Nat) (L : List Bd) : Prop where
  gr : W.grownBy wr (some X)
  ex : X < W.heap.size
  c0 : wr.cell? ⟨X, 0, none⟩ = some (.int .i64 n)
  c1 : wr.cell? ⟨X, 1, none⟩ = some (.slice A L.length c)
  cf : ∀ i, wr.frozen? ⟨X, i, none⟩ = false
  own : OwnB W.heap.size wr (.slice A L.length c) L
theorem LW.below {W wr w' : World} {X : Nat} {n : Int} {A : Option Addr} {c : Nat} {L : List Bd} (h : LW W wr X n A c L) (hb : Below wr.heap.size wr w') : LW W w' X n A c L := by
  have hx : X < wr.heap.size := Nat.lt_of_lt_of_le h.ex h.gr.size
  exact ⟨gr_below h.gr hb, h.ex, ((bcell hb).1 _ _ hx).trans h.c0, ((bcell hb).1 _ _ hx).trans h.c1, fun i => ((bcell hb).2 _ _ hx).trans (h.cf i), own_below h.own hb⟩
/-- Behind an append, and the store of the row. -/
theorem LW.app {W wr w' : World} {X : Nat} {n : Int} {A A' : Option Addr} {c c' : Nat} {L L' : List Bd} (h : LW W wr X n A c L) (hg : wr.grownBy w' (Value.slice A L.length c).ownBlock) (ho : OwnB W.heap.size w' (.slice A' L'.length c') L') :
    LW W (w'.setCell ⟨X, 1, none⟩ (.slice A' L'.length c')) X n A' c' L' ∧ w'.cell? ⟨X, 1, none⟩ = some (.slice A L.length c) ∧ w'.frozen? ⟨X, 1, none⟩ = false := by
  have hex := h.ex
  have hq : ∀ k, (Value.slice A L.length c).ownBlock = some k → W.heap.size ≤ k := fun k hk => (h.own.lt k hk).1
  have kX : some X ≠ (Value.slice A L.length c).ownBlock := fun e => by have := hq X e.symm; omega
  have hx : X < wr.heap.size := Nat.lt_of_lt_of_le h.ex h.gr.size
  have e0 := hg.cell h.c0 kX
  have e1 := hg.cell h.c1 kX
  have ef : ∀ i, w'.frozen? ⟨X, i, none⟩ = false := fun i => (hg.frozen_far ⟨X, i, none⟩ hx kX).trans (h.cf i)
  refine ⟨⟨gr_set (gr_then h.gr hg (fun k e => .inl (hq k e))) _ (.inr rfl) _, h.ex, (World.cell?_setCell_other _ _ _ _ (by simp)).trans e0, World.cell?_setCell_same _ _ _ e1, fun i => by rw [← ef i]; simp, own_set_low ho (by dsimp only; omega) _⟩, e1, ef 1⟩

theorem BdsR.farL {w w' : World} {B b o g : Nat} {A : Option Addr} {bs : List Bd} (h : BdsR w B b o A bs) (G : w.grownBy w' (some g)) (hb : 0 < bs.length → b ≠ g) : BdsR w' B b o A bs := by
  have hl : ∀ {j : Nat} {x : Bd}, bs[j]? = some x → b ≠ g := fun {j x} hx => hb (by have := (List.getElem?_eq_some_iff.1 hx).1; omega)
  exact ⟨h.addr, h.lt, fun j x hx => far_cell G (h.c0 j x hx) (hl hx), fun j x hx => far_cell G (h.c1 j x hx) (hl hx), fun j x hx => far_cell G (h.c2 j x hx) (hl hx)⟩
set_option maxHeartbeats 4000000 in
set_option maxRecDepth 100000 in
theorem sLowered_q (n : Int) (bs : List Bd) (v : Int) (hp : planOk ⟨n, bs⟩ = true) (hv : 0 ≤ v ∧ v ≤ 99) (q : Pl) (r : Bool) (hq : lowP ⟨n, bs⟩ v = (q, r)) (A : Option Addr) (b o c B : Nat) (w : World) (hB : B ≤ w.heap.size) (hR : BdsR w B b o A bs) :
    Calls Try.prog 81 #[.agg #[.int .i64 n, .slice A bs.length c], .int .i64 v] w fun e w' => ∃ A1 c1 g1, e = .returned (.tuple #[.agg #[.int .i64 q.n, .slice A1 q.bs.length c1], .bool r]) ∧ BdsR w' w'.heap.size g1 0 A1 q.bs ∧ Below w.heap.size w w' := by
  obtain ⟨i0, hi0, hz0, hz1, hz2⟩ := info_parts infoB
  have hbl : bs.length ≤ 16 := (planOk_iff.1 hp).2.1
  have hbl2 : bs.length ≤ 2000000 := by omega
  have hm99 : ∀ x ∈ bs, -99 ≤ x.m ∧ x.m ≤ 99 := fun x hx => (bdOk_iff.1 ((planOk_iff.1 hp).2.2 x hx)).2.2
  have Hm := hide hm99
  unfold lowP at hq
  rw [hp, inB_iff.2 hv] at hq
  simp only [Bool.and_self, if_true] at hq
  have hq1 := (Prod.mk.inj hq).1
  have hq2 := (Prod.mk.inj hq).2
  have Hin : Hid (inB v 0 99 = true) := inB_iff.2 hv
  obtain ⟨hv0, hv1⟩ := hv
  have Hp := hide hp
  have Hq1 := hide hq1
  have Hq2 := hide hq2
  have hbel : Below w.heap.size w (((w.alloc (.cells #[.int .i64 n, .slice A bs.length c] 32)).alloc (.cells #[.int .i64 0, .slice none 0 0] 32)).alloc (.cells #[.int .i64 n, .slice none 0 0] 32)) := by go_grown
  have hrd := (hR.below (hbel.mono hB)).more (Nat.le_trans hB hbel.size)
  have k0 : (((w.alloc (.cells #[.int .i64 n, .slice A bs.length c] 32)).alloc (.cells #[.int .i64 0, .slice none 0 0] 32)).alloc (.cells #[.int .i64 n, .slice none 0 0] 32)).cell? ⟨w.heap.size, 0, none⟩ = some (.int .i64 n) := by simp [go_sem]
  have k1 : (((w.alloc (.cells #[.int .i64 n, .slice A bs.length c] 32)).alloc (.cells #[.int .i64 0, .slice none 0 0] 32)).alloc (.cells #[.int .i64 n, .slice none 0 0] 32)).cell? ⟨w.heap.size, 1, none⟩ = some (.slice A bs.length c) := by simp [go_sem]
  have z0 : (((w.alloc (.cells #[.int .i64 n, .slice A bs.length c] 32)).alloc (.cells #[.int .i64 0, .slice none 0 0] 32)).alloc (.cells #[.int .i64 n, .slice none 0 0] 32)).cell? ⟨w.heap.size + 1, 0, none⟩ = some (.int .i64 0) := by simp [go_sem]
  have z1 : (((w.alloc (.cells #[.int .i64 n, .slice A bs.length c] 32)).alloc (.cells #[.int .i64 0, .slice none 0 0] 32)).alloc (.cells #[.int .i64 n, .slice none 0 0] 32)).cell? ⟨w.heap.size + 1, 1, none⟩ = some (.slice none 0 0) := by simp [go_sem]
  have zf : ∀ i, (((w.alloc (.cells #[.int .i64 n, .slice A bs.length c] 32)).alloc (.cells #[.int .i64 0, .slice none 0 0] 32)).alloc (.cells #[.int .i64 n, .slice none 0 0] 32)).frozen? ⟨w.heap.size + 1, i, none⟩ = false := fun i => by simp [go_sem]
  have hsz : (((w.alloc (.cells #[.int .i64 n, .slice A bs.length c] 32)).alloc (.cells #[.int .i64 0, .slice none 0 0] 32)).alloc (.cells #[.int .i64 n, .slice none 0 0] 32)).heap.size = w.heap.size + 3 := by simp
  have hL : LW (((w.alloc (.cells #[.int .i64 n, .slice A bs.length c] 32)).alloc (.cells #[.int .i64 0, .slice none 0 0] 32)).alloc (.cells #[.int .i64 n, .slice none 0 0] 32)) (((w.alloc (.cells #[.int .i64 n, .slice A bs.length c] 32)).alloc (.cells #[.int .i64 0, .slice none 0 0] 32)).alloc (.cells #[.int .i64 n, .slice none 0 0] 32)) (w.heap.size + 2) n none 0 [] :=
    ⟨⟨rfl, rfl, rfl, Nat.le_refl _, fun _ _ _ => rfl⟩, by rw [hsz]; omega, by simp [go_sem], by simp [go_sem], fun i => by simp [go_sem], World.ownsRow_nil _ _ _ _⟩
  have hbB : 0 < bs.length → b < w.heap.size := fun h => Nat.lt_of_lt_of_le (hR.lt h) hB
  clear hR hB hq hq1 hq2 hp hm99
  go_enter Try.func81, Try.ntmps81
  go_upto_region 2 with fail
  generalize ((w.alloc (.cells #[.int .i64 n, .slice A bs.length c] 32)).alloc (.cells #[.int .i64 0, .slice none 0 0] 32)).alloc (.cells #[.int .i64 n, .slice none 0 0] 32) = W at hbel hrd k0 k1 z0 z1 zf hsz hL ⊢
  have hszl : w.heap.size + 2 < W.heap.size := by omega
  clear hsz
  go_wp2_with fail
  go_loopg [7] bs.length (fun gh s wr => ∃ (k : Nat) (A3 : Option Addr) (c3 : Nat) (L : List Bd), k ≤ bs.length ∧ gh = bs.length - k ∧ s = .int .i64 k ∧ L.length ≤ 16 ∧ Hid (L = (bs.take k).map (lowB v)) ∧ LW W wr (w.heap.size + 2) n A3 c3 L)
  case atStart => exact ⟨0, none, 0, [], Nat.zero_le _, rfl, rfl, by simp, by simp [Hid], hL⟩
  case round =>
    clear hL
    obtain ⟨k, A3, c3, L, hk, rfl, rfl, hL16, HL, hL⟩ := hrel
    have p0 := far_cell hL.gr k0 (by omega)
    have p1 := far_cell hL.gr k1 (by omega)
    have x0 := hL.c0
    have x1 := hL.c1
    by_cases hlt : k < bs.length
    · have hlt' : (k : Int) < (bs.length : Int) := by omega
      obtain rfl := hrd.addr (by omega)
      have hbX : b ≠ w.heap.size + 2 := by have := hbB (by omega); omega
      have hx := List.getElem?_eq_getElem hlt
      have y0 := far_cell hL.gr (hrd.c0 k _ hx) hbX
      have y1 := far_cell hL.gr (hrd.c1 k _ hx) hbX
      have y2 := far_cell hL.gr (hrd.c2 k _ hx) hbX
      have Hmx := Hm.out _ (List.getElem_mem hlt)
      have HT : Hid (L ++ [lowB v bs[k]] = (bs.take (k + 1)).map (lowB v)) := by
        unfold Hid
        rw [HL.out, List.take_succ_eq_append_getElem hlt, List.map_append]; rfl
      generalize bs[k] = x at hx y0 y1 y2 Hmx HT
      obtain ⟨hx1, hx2⟩ := Hmx
      have hwm : IntKind.i64.wrap (x.m - v) = x.m - v := IntWalk.i64_in _ (by omega)
      obtain ⟨mv, hmv⟩ : ∃ mv, x.m - v = mv := ⟨_, rfl⟩
      have hwm2 : IntKind.i64.wrap mv = mv := by rw [← hmv]; exact hwm
      clear hwm
      have HT2 : Hid (L ++ [(⟨x.f, x.t, mv⟩ : Bd)] = (bs.take (k + 1)).map (lowB v)) := by rw [← hmv]; exact HT
      clear hx HT
      go_upto_region 5 with fail
      have hXl : w.heap.size + 2 < wr.heap.size := Nat.lt_of_lt_of_le hszl hL.gr.size
      refine wp_regionE (fun w' => w'.cell? ⟨w.heap.size + 2, 1, none⟩ = some (.slice A3 L.length c3) ∧ w'.cell? ⟨w.heap.size, 1, none⟩ = some (.slice (some ⟨b, o, none⟩) bs.length c) ∧ w'.cell? ⟨b, o + k * 3, none⟩ = some (.int .i64 x.f) ∧ w'.cell? ⟨b, o + k * 3 + 1, none⟩ = some (.int .i64 x.t) ∧ w'.cell? ⟨b, o + k * 3 + 2, none⟩ = some (.int .i64 x.m)) 26 (by kernel_rfl) ?_
      change wpE _ _ _ _ _ _ 27 #[false, false, false, false, false, false, false, false, false, false, false, false, false, false, false, false, false, false, false, false, false, false, false, false, false, false, false] _ _
      have HS : Hid (∀ w' : World, W.grownBy w' (some (w.heap.size + 2)) → w'.cell? ⟨w.heap.size + 2, 1, none⟩ = some (.slice A3 L.length c3) → w'.cell? ⟨w.heap.size + 2, 1, none⟩ = some (.slice A3 L.length c3) ∧ w'.cell? ⟨w.heap.size, 1, none⟩ = some (.slice (some ⟨b, o, none⟩) bs.length c) ∧ True) := fun w' hg h => ⟨h, far_cell hg k1 (by omega), trivial⟩
      have hS0 : wr.drew.cell? ⟨w.heap.size + 2, 1, none⟩ = some (.slice A3 L.length c3) ∧ wr.drew.cell? ⟨w.heap.size, 1, none⟩ = some (.slice (some ⟨b, o, none⟩) bs.length c) ∧ wr.drew.cell? ⟨b, o + k * 3, none⟩ = some (.int .i64 x.f) ∧ wr.drew.cell? ⟨b, o + k * 3 + 1, none⟩ = some (.int .i64 x.t) ∧ wr.drew.cell? ⟨b, o + k * 3 + 2, none⟩ = some (.int .i64 x.m) := ⟨x1, p1, y0, y1, y2⟩
      refine wpE_take' (v := ?_) 0 [26] (of_decide_eq_true (by kernel_rfl)) (by kernel_rfl) (by kernel_rfl) (by kernel_rfl) (by kernel_rfl) (fun _ _ _ h => h) (by kernel_rfl) ?_ hS0 ?_
      rotate_left
      · intro w' hSw
        simp only [List.getElem_toArray, List.getElem_cons_succ, List.getElem_cons_zero]
        go_simp
        all_goals with_reducible rfl
      simp only [List.getElem_toArray, List.getElem_cons_succ, List.getElem_cons_zero, Act.put, List.setIfInBounds_toArray, List.set_cons_zero, List.set_cons_succ]
      refine wpE_take' (v := ?_) 1 [26] (of_decide_eq_true (by kernel_rfl)) (by kernel_rfl) (by kernel_rfl) (by kernel_rfl) (by kernel_rfl) (fun _ _ _ h => h) (by kernel_rfl) ?_ hS0 ?_
      rotate_left
      · intro w' hSw
        simp only [List.getElem_toArray, List.getElem_cons_succ, List.getElem_cons_zero]
        go_simp
        all_goals with_reducible rfl
      simp only [List.getElem_toArray, List.getElem_cons_succ, List.getElem_cons_zero, Act.put, List.setIfInBounds_toArray, List.set_cons_zero, List.set_cons_succ]
      refine wpE_take' (v := ?_) 2 [26] (of_decide_eq_true (by kernel_rfl)) (by kernel_rfl) (by kernel_rfl) (by kernel_rfl) (by kernel_rfl) (fun _ _ _ h => h) (by kernel_rfl) ?_ hS0 ?_
      rotate_left
      · intro w' hSw
        simp only [List.getElem_toArray, List.getElem_cons_succ, List.getElem_cons_zero]
        go_simp
        all_goals with_reducible rfl
      simp only [List.getElem_toArray, List.getElem_cons_succ, List.getElem_cons_zero, Act.put, List.setIfInBounds_toArray, List.set_cons_zero, List.set_cons_succ]
      refine wpE_take' (v := ?_) 3 [26] (of_decide_eq_true (by kernel_rfl)) (by kernel_rfl) (by kernel_rfl) (by kernel_rfl) (by kernel_rfl) (fun _ _ _ h => h) (by kernel_rfl) ?_ hS0 ?_
      rotate_left
      · intro w' hSw
        simp only [List.getElem_toArray, List.getElem_cons_succ, List.getElem_cons_zero]
        go_simp
        all_goals with_reducible rfl
      simp only [List.getElem_toArray, List.getElem_cons_succ, List.getElem_cons_zero, Act.put, List.setIfInBounds_toArray, List.set_cons_zero, List.set_cons_succ]
      refine wpE_take' (v := ?_) 4 [26] (of_decide_eq_true (by kernel_rfl)) (by kernel_rfl) (by kernel_rfl) (by kernel_rfl) (by kernel_rfl) (fun _ _ _ h => h) (by kernel_rfl) ?_ hS0 ?_
      rotate_left
      · intro w' hSw
        simp only [List.getElem_toArray, List.getElem_cons_succ, List.getElem_cons_zero]
        go_simp
        all_goals with_reducible rfl
      simp only [List.getElem_toArray, List.getElem_cons_succ, List.getElem_cons_zero, Act.put, List.setIfInBounds_toArray, List.set_cons_zero, List.set_cons_succ]
      refine wpE_take' (v := ?_) 5 [26] (of_decide_eq_true (by kernel_rfl)) (by kernel_rfl) (by kernel_rfl) (by kernel_rfl) (by kernel_rfl) (fun _ _ _ h => h) (by kernel_rfl) ?_ hS0 ?_
      rotate_left
      · intro w' hSw
        simp only [List.getElem_toArray, List.getElem_cons_succ, List.getElem_cons_zero]
        go_simp
        all_goals with_reducible rfl
      simp only [List.getElem_toArray, List.getElem_cons_succ, List.getElem_cons_zero, Act.put, List.setIfInBounds_toArray, List.set_cons_zero, List.set_cons_succ]
      refine wpE_take' (v := ?_) 6 [26] (of_decide_eq_true (by kernel_rfl)) (by kernel_rfl) (by kernel_rfl) (by kernel_rfl) (by kernel_rfl) (fun _ _ _ h => h) (by kernel_rfl) ?_ hS0 ?_
      rotate_left
      · intro w' hSw
        simp only [List.getElem_toArray, List.getElem_cons_succ, List.getElem_cons_zero]
        go_simp
        all_goals with_reducible rfl
      simp only [List.getElem_toArray, List.getElem_cons_succ, List.getElem_cons_zero, Act.put, List.setIfInBounds_toArray, List.set_cons_zero, List.set_cons_succ]
      refine wpE_take' (v := ?_) 7 [26] (of_decide_eq_true (by kernel_rfl)) (by kernel_rfl) (by kernel_rfl) (by kernel_rfl) (by kernel_rfl) (fun _ _ _ h => h) (by kernel_rfl) ?_ hS0 ?_
      rotate_left
      · intro w' hSw
        simp only [List.getElem_toArray, List.getElem_cons_succ, List.getElem_cons_zero]
        go_simp
        all_goals with_reducible rfl
      simp only [List.getElem_toArray, List.getElem_cons_succ, List.getElem_cons_zero, Act.put, List.setIfInBounds_toArray, List.set_cons_zero, List.set_cons_succ]
      refine wpE_take' (v := ?_) 8 [26] (of_decide_eq_true (by kernel_rfl)) (by kernel_rfl) (by kernel_rfl) (by kernel_rfl) (by kernel_rfl) (fun _ _ _ h => h) (by kernel_rfl) ?_ hS0 ?_
      rotate_left
      · intro w' hSw
        simp only [List.getElem_toArray, List.getElem_cons_succ, List.getElem_cons_zero]
        go_simp
        all_goals with_reducible rfl
      simp only [List.getElem_toArray, List.getElem_cons_succ, List.getElem_cons_zero, Act.put, List.setIfInBounds_toArray, List.set_cons_zero, List.set_cons_succ]
      refine wpE_take' (v := ?_) 9 [26] (of_decide_eq_true (by kernel_rfl)) (by kernel_rfl) (by kernel_rfl) (by kernel_rfl) (by kernel_rfl) (fun _ _ _ h => h) (by kernel_rfl) ?_ hS0 ?_
      rotate_left
      · intro w' hSw
        simp only [List.getElem_toArray, List.getElem_cons_succ, List.getElem_cons_zero]
        go_simp
        all_goals with_reducible rfl
      simp only [List.getElem_toArray, List.getElem_cons_succ, List.getElem_cons_zero, Act.put, List.setIfInBounds_toArray, List.set_cons_zero, List.set_cons_succ]
      refine wpE_take' (v := ?_) 10 [26] (of_decide_eq_true (by kernel_rfl)) (by kernel_rfl) (by kernel_rfl) (by kernel_rfl) (by kernel_rfl) (fun _ _ _ h => h) (by kernel_rfl) ?_ hS0 ?_
      rotate_left
      · intro w' hSw
        simp only [List.getElem_toArray, List.getElem_cons_succ, List.getElem_cons_zero]
        go_simp
        all_goals with_reducible rfl
      simp only [List.getElem_toArray, List.getElem_cons_succ, List.getElem_cons_zero, Act.put, List.setIfInBounds_toArray, List.set_cons_zero, List.set_cons_succ]
      refine wpE_take' (v := ?_) 11 [26] (of_decide_eq_true (by kernel_rfl)) (by kernel_rfl) (by kernel_rfl) (by kernel_rfl) (by kernel_rfl) (fun _ _ _ h => h) (by kernel_rfl) ?_ hS0 ?_
      rotate_left
      · intro w' hSw
        simp only [List.getElem_toArray, List.getElem_cons_succ, List.getElem_cons_zero]
        go_simp
        all_goals with_reducible rfl
      simp only [List.getElem_toArray, List.getElem_cons_succ, List.getElem_cons_zero, Act.put, List.setIfInBounds_toArray, List.set_cons_zero, List.set_cons_succ]
      refine wpE_take' (v := ?_) 12 [26] (of_decide_eq_true (by kernel_rfl)) (by kernel_rfl) (by kernel_rfl) (by kernel_rfl) (by kernel_rfl) (fun _ _ _ h => h) (by kernel_rfl) ?_ hS0 ?_
      rotate_left
      · intro w' hSw
        simp only [List.getElem_toArray, List.getElem_cons_succ, List.getElem_cons_zero]
        go_simp
        all_goals with_reducible rfl
      simp only [List.getElem_toArray, List.getElem_cons_succ, List.getElem_cons_zero, Act.put, List.setIfInBounds_toArray, List.set_cons_zero, List.set_cons_succ]
      refine wpE_take' (v := ?_) 13 [26] (of_decide_eq_true (by kernel_rfl)) (by kernel_rfl) (by kernel_rfl) (by kernel_rfl) (by kernel_rfl) (fun _ _ _ h => h) (by kernel_rfl) ?_ hS0 ?_
      rotate_left
      · intro w' hSw
        simp only [List.getElem_toArray, List.getElem_cons_succ, List.getElem_cons_zero]
        go_simp
        all_goals with_reducible rfl
      simp only [List.getElem_toArray, List.getElem_cons_succ, List.getElem_cons_zero, Act.put, List.setIfInBounds_toArray, List.set_cons_zero, List.set_cons_succ]
      refine wpE_take' (v := ?_) 14 [26] (of_decide_eq_true (by kernel_rfl)) (by kernel_rfl) (by kernel_rfl) (by kernel_rfl) (by kernel_rfl) (fun _ _ _ h => h) (by kernel_rfl) ?_ hS0 ?_
      rotate_left
      · intro w' hSw
        simp only [List.getElem_toArray, List.getElem_cons_succ, List.getElem_cons_zero]
        go_simp
        all_goals with_reducible rfl
      simp only [List.getElem_toArray, List.getElem_cons_succ, List.getElem_cons_zero, Act.put, List.setIfInBounds_toArray, List.set_cons_zero, List.set_cons_succ]
      refine wpE_take' (v := ?_) 15 [26] (of_decide_eq_true (by kernel_rfl)) (by kernel_rfl) (by kernel_rfl) (by kernel_rfl) (by kernel_rfl) (fun _ _ _ h => h) (by kernel_rfl) ?_ hS0 ?_
      rotate_left
      · intro w' hSw
        simp only [List.getElem_toArray, List.getElem_cons_succ, List.getElem_cons_zero]
        go_simp
        all_goals with_reducible rfl
      simp only [List.getElem_toArray, List.getElem_cons_succ, List.getElem_cons_zero, Act.put, List.setIfInBounds_toArray, List.set_cons_zero, List.set_cons_succ]
      refine wpE_take' (v := ?_) 16 [26] (of_decide_eq_true (by kernel_rfl)) (by kernel_rfl) (by kernel_rfl) (by kernel_rfl) (by kernel_rfl) (fun _ _ _ h => h) (by kernel_rfl) ?_ hS0 ?_
      rotate_left
      · intro w' hSw
        simp only [List.getElem_toArray, List.getElem_cons_succ, List.getElem_cons_zero]
        go_simp
        all_goals with_reducible rfl
      simp only [List.getElem_toArray, List.getElem_cons_succ, List.getElem_cons_zero, Act.put, List.setIfInBounds_toArray, List.set_cons_zero, List.set_cons_succ]
      refine wpE_take' (v := ?_) 17 [26] (of_decide_eq_true (by kernel_rfl)) (by kernel_rfl) (by kernel_rfl) (by kernel_rfl) (by kernel_rfl) (fun _ _ _ h => h) (by kernel_rfl) ?_ hS0 ?_
      rotate_left
      · intro w' hSw
        simp only [List.getElem_toArray, List.getElem_cons_succ, List.getElem_cons_zero]
        go_simp
        all_goals with_reducible rfl
      simp only [List.getElem_toArray, List.getElem_cons_succ, List.getElem_cons_zero, Act.put, List.setIfInBounds_toArray, List.set_cons_zero, List.set_cons_succ]
      refine wpE_take' (v := ?_) 18 [26] (of_decide_eq_true (by kernel_rfl)) (by kernel_rfl) (by kernel_rfl) (by kernel_rfl) (by kernel_rfl) (fun _ _ _ h => h) (by kernel_rfl) ?_ hS0 ?_
      rotate_left
      · intro w' hSw
        simp only [List.getElem_toArray, List.getElem_cons_succ, List.getElem_cons_zero]
        go_simp
        all_goals with_reducible rfl
      simp only [List.getElem_toArray, List.getElem_cons_succ, List.getElem_cons_zero, Act.put, List.setIfInBounds_toArray, List.set_cons_zero, List.set_cons_succ]
      refine wpE_take' (v := ?_) 19 [26] (of_decide_eq_true (by kernel_rfl)) (by kernel_rfl) (by kernel_rfl) (by kernel_rfl) (by kernel_rfl) (fun _ _ _ h => h) (by kernel_rfl) ?_ hS0 ?_
      rotate_left
      · intro w' hSw
        simp only [List.getElem_toArray, List.getElem_cons_succ, List.getElem_cons_zero]
        go_simp
        all_goals with_reducible rfl
      simp only [List.getElem_toArray, List.getElem_cons_succ, List.getElem_cons_zero, Act.put, List.setIfInBounds_toArray, List.set_cons_zero, List.set_cons_succ]
      refine wpE_take' (v := ?_) 20 [26] (of_decide_eq_true (by kernel_rfl)) (by kernel_rfl) (by kernel_rfl) (by kernel_rfl) (by kernel_rfl) (fun _ _ _ h => h) (by kernel_rfl) ?_ hS0 ?_
      rotate_left
      · intro w' hSw
        simp only [List.getElem_toArray, List.getElem_cons_succ, List.getElem_cons_zero]
        go_simp
        all_goals with_reducible rfl
      simp only [List.getElem_toArray, List.getElem_cons_succ, List.getElem_cons_zero, Act.put, List.setIfInBounds_toArray, List.set_cons_zero, List.set_cons_succ]
      refine wpE_take' (v := ?_) 21 [26] (of_decide_eq_true (by kernel_rfl)) (by kernel_rfl) (by kernel_rfl) (by kernel_rfl) (by kernel_rfl) (fun _ _ _ h => h) (by kernel_rfl) ?_ hS0 ?_
      rotate_left
      · intro w' hSw
        simp only [List.getElem_toArray, List.getElem_cons_succ, List.getElem_cons_zero]
        go_simp
        all_goals with_reducible rfl
      simp only [List.getElem_toArray, List.getElem_cons_succ, List.getElem_cons_zero, Act.put, List.setIfInBounds_toArray, List.set_cons_zero, List.set_cons_succ]
      refine wpE_take' (v := ?_) 22 [26] (of_decide_eq_true (by kernel_rfl)) (by kernel_rfl) (by kernel_rfl) (by kernel_rfl) (by kernel_rfl) (fun _ _ _ h => h) (by kernel_rfl) ?_ hS0 ?_
      rotate_left
      · intro w' hSw
        simp only [List.getElem_toArray, List.getElem_cons_succ, List.getElem_cons_zero]
        go_simp
        all_goals with_reducible rfl
      simp only [List.getElem_toArray, List.getElem_cons_succ, List.getElem_cons_zero, Act.put, List.setIfInBounds_toArray, List.set_cons_zero, List.set_cons_succ]
      have hba : Below wr.heap.size wr (wr.alloc (.cells #[.int .i64 x.f, .int .i64 x.t, .int .i64 mv] 66)).drew := by go_grown
      have hat : (wr.alloc (.cells #[.int .i64 x.f, .int .i64 x.t, .int .i64 mv] 66)).drew.heap[wr.heap.size]? = some (.cells #[.int .i64 x.f, .int .i64 x.t, .int .i64 mv] 66 (0, 0)) := at_new (w := wr) rfl
      have hL2 := hL.below hba
      have hbl3 : b < wr.heap.size := Nat.lt_of_lt_of_le (by have := hbB (by omega); omega) hL.gr.size
      have hcc := (bcell hba).1
      have hS1 : (wr.alloc (.cells #[.int .i64 x.f, .int .i64 x.t, .int .i64 mv] 66)).drew.cell? ⟨w.heap.size + 2, 1, none⟩ = some (.slice A3 L.length c3) ∧ (wr.alloc (.cells #[.int .i64 x.f, .int .i64 x.t, .int .i64 mv] 66)).drew.cell? ⟨w.heap.size, 1, none⟩ = some (.slice (some ⟨b, o, none⟩) bs.length c) ∧ (wr.alloc (.cells #[.int .i64 x.f, .int .i64 x.t, .int .i64 mv] 66)).drew.cell? ⟨b, o + k * 3, none⟩ = some (.int .i64 x.f) ∧ (wr.alloc (.cells #[.int .i64 x.f, .int .i64 x.t, .int .i64 mv] 66)).drew.cell? ⟨b, o + k * 3 + 1, none⟩ = some (.int .i64 x.t) ∧ (wr.alloc (.cells #[.int .i64 x.f, .int .i64 x.t, .int .i64 mv] 66)).drew.cell? ⟨b, o + k * 3 + 2, none⟩ = some (.int .i64 x.m) :=
        ⟨(hcc _ _ hXl).trans x1, (hcc _ _ (by omega)).trans p1, (hcc _ _ hbl3).trans y0, (hcc _ _ hbl3).trans y1, (hcc _ _ hbl3).trans y2⟩
      refine wpE_step' 23 (of_decide_eq_true (by kernel_rfl)) (by kernel_rfl) (by kernel_rfl) (fun K hK => ?_)
      simp only [List.getElem_toArray, List.getElem_cons_succ, List.getElem_cons_zero]
      go_simp
      refine hK.out _ _ (.inr hS1) ?_
      clear hK K hS0
      simp only [Act.put, List.setIfInBounds_toArray, List.set_cons_zero, List.set_cons_succ]
      have hws2 := hL2.gr.size
      generalize (wr.alloc (.cells #[.int .i64 x.f, .int .i64 x.t, .int .i64 mv] 66)).drew = W7 at hS1 hL2 hat hws2 ⊢
      generalize wr.heap.size = Y at hat ⊢
      clear hba hcc hL x0 x1 p0 p1 y0 y1 y2
      refine wpE_step' 24 (of_decide_eq_true (by kernel_rfl)) (by kernel_rfl) (by kernel_rfl) (fun K hK => ?_)
      simp only [List.getElem_toArray, List.getElem_cons_succ, List.getElem_cons_zero]
      refine app_wp _ (.tmp 19) (.tmp 41) _ rfl W.heap.size 66 i0 _ 3 24 Try.underlying30 hi0 hz0 hz1 hz2 rfl (by omega) (.slice A3 L.length c3) L.length (bdCs L) rfl hL2.own (some ⟨Y, 0, none⟩) 1 _ (bdCs [(⟨x.f, x.t, mv⟩ : Bd)]) rfl rfl (NewsAt.block (cs := #[.int .i64 x.f, .int .i64 x.t, .int .i64 mv]) hat) (bdCs_one _) (by omega) (by omega) hws2 ?_
      intro A9 c9 w8 hown8 hg8 hat8
      have hlo : (L ++ [(⟨x.f, x.t, mv⟩ : Bd)]).length = L.length + 1 := by simp
      have hO9 : OwnB W.heap.size w8 (.slice A9 (L ++ [(⟨x.f, x.t, mv⟩ : Bd)]).length c9) (L ++ [(⟨x.f, x.t, mv⟩ : Bd)]) := by unfold OwnB; rw [hlo, bdCs_append]; exact hown8
      obtain ⟨hL9, e1, ef⟩ := hL2.app hg8 hO9
      rw [hlo] at hL9
      have hlt8 : ∀ q, q < W.heap.size → some q ≠ (Value.slice A3 L.length c3).ownBlock := fun q hq e => by have := (hL2.own.lt q e.symm).1; omega
      have hS2 : w8.cell? ⟨w.heap.size + 2, 1, none⟩ = some (.slice A3 L.length c3) ∧ w8.cell? ⟨w.heap.size, 1, none⟩ = some (.slice (some ⟨b, o, none⟩) bs.length c) ∧ w8.cell? ⟨b, o + k * 3, none⟩ = some (.int .i64 x.f) ∧ w8.cell? ⟨b, o + k * 3 + 1, none⟩ = some (.int .i64 x.t) ∧ w8.cell? ⟨b, o + k * 3 + 2, none⟩ = some (.int .i64 x.m) := by
        obtain ⟨q1, q2, q3, q4, q5⟩ := hS1
        have hbW : b < W.heap.size := by have := hbB (by omega); omega
        exact ⟨e1, hg8.cell q2 (hlt8 w.heap.size (by omega)), hg8.cell q3 (hlt8 _ hbW), hg8.cell q4 (hlt8 _ hbW), hg8.cell q5 (hlt8 _ hbW)⟩
      have Hlo := hide hlo
      have hl17 : L.length + 1 ≤ 16 := by
        have := congrArg List.length HT2.out
        rw [hlo, List.length_map, List.length_take] at this
        omega
      refine hK.out _ _ (.inr hS2) ?_
      clear hK K hS1 hown8 hg8 hat8 hlo hat hlt8 hO9 hL2
      have hS0 := hS2
      simp only [Act.put, List.setIfInBounds_toArray, List.set_cons_zero, List.set_cons_succ]
      refine wpE_take' (v := ?_) 25 [26] (of_decide_eq_true (by kernel_rfl)) (by kernel_rfl) (by kernel_rfl) (by kernel_rfl) (by kernel_rfl) (fun _ _ _ h => h) (by kernel_rfl) ?_ hS0 ?_
      rotate_left
      · intro w' hSw
        simp only [List.getElem_toArray, List.getElem_cons_succ, List.getElem_cons_zero]
        go_simp
        all_goals with_reducible rfl
      simp only [List.getElem_toArray, List.getElem_cons_succ, List.getElem_cons_zero, Act.put, List.setIfInBounds_toArray, List.set_cons_zero, List.set_cons_succ]
      refine wpE_step' 26 (of_decide_eq_true (by kernel_rfl)) (by kernel_rfl) (by kernel_rfl) (fun K hK => ?_)
      simp only [List.getElem_toArray, List.getElem_cons_succ, List.getElem_cons_zero]
      go_simp
      refine hK.out _ _ (.inl rfl) ?_
      clear hK K
      simp only [Act.put, List.setIfInBounds_toArray, List.set_cons_zero, List.set_cons_succ]
      refine wpE_done (by kernel_rfl) ?_ _
      clear hS0 hS2 e1 ef HS
      go_wp2_with fail
      go_roundg (bs.length - (k + 1))
      case measure => go_light; omega
      case rel => go_light; exact ⟨k + 1, A9, c9, L ++ [⟨x.f, x.t, mv⟩], by omega, rfl, by go_num, by rw [Hlo.out]; exact hl17, HT2, by first | exact hL9 | (rw [Hlo.out] at *; exact hL9)⟩
    · obtain rfl : k = bs.length := by omega
      have HLb : Hid (L = lowBs ⟨n, bs⟩ v) := by
        have h := HL.out
        rw [List.take_length] at h
        exact h
      have hbX : 0 < bs.length → b ≠ w.heap.size + 2 := fun h => by have := hbB h; omega
      have hrd2 := (hrd.farL hL.gr hbX).more (B' := wr.heap.size) hL.gr.size
      have hpL : planOk ⟨n, L⟩ = r := by rw [HLb.out]; exact Hq2.out
      have hqL : toldP ⟨n, L⟩ = q := by rw [HLb.out]; exact Hq1.out
      have HpL := hide hpL
      have HqL := hide hqL
      have hL2' : L.length ≤ 2000000 := by omega
      obtain ⟨g3, hrL⟩ := OwnB.readsA hL.own
      clear HL hpL hqL
      cases r
      · skip
        go_upto_if 56 with (first
          | (go_at_call 105; go_fit (sPlanOk_c ⟨n, bs⟩ A b o c _ _ hbl2 (Nat.le_refl _) hrd2); rintro e w4 ⟨rfl, hb4⟩; rw [Hp.out]; have hL4 := hL.below hb4; have hrL4 := (hrL.below hb4).more hb4.size; have e0 := hL4.c0; have e1 := hL4.c1)
          | (go_at_call 105; go_fit (sPlanOk_c ⟨n, L⟩ A3 g3 0 c3 _ _ hL2' (Nat.le_refl _) hrL4); rintro e w5 ⟨rfl, hb5⟩; rw [HpL.out]; have hL5 := hL4.below hb5; have hrL5 := (hrL4.below hb5).more hb5.size)
          | (go_at_call 66; go_fit (l1In_c _ _ _ _); rintro e w6 ⟨rfl, rfl⟩; rw [Hin.out]))
        clear e0 e1 p0 p1 x0 x1 hL hL4 hrL hrL4 hb4 hrd2
        have s0 := far_cell hL5.gr z0 (by omega)
        have s1 := far_cell hL5.gr z1 (by omega)
        have sf := fun i => far_frozen hL5.gr (zf i) (by omega) (by omega)
        have sf0 := sf 0
        have sf1 := sf 1
        have hwB : Below w.heap.size w w5 := hbel.grown hL5.gr hbel.size (fun q hq => by cases hq; omega)
        have x0 := hL5.c0
        have x1 := hL5.c1
        clear hb5 z0 z1 zf sf
        obtain rfl : (⟨0, []⟩ : Pl) = q := by
          rw [← HqL.out]; unfold toldP; rw [HpL.out]; rfl
        obtain ⟨u0, u1⟩ := two_cells (a := .int .i64 0) (b := .slice none 0 0) s0 s1
        go_wp2_with fail
        refine bodyPost_ret (v := .tuple #[.agg #[.int .i64 0, .slice none 0 0], .bool false]) (by simp [results, Try.results81, go_sem, u0, u1]) rfl ?_
        exact ⟨none, ⟨0, rfl⟩, ⟨0, BdsR.nil _ _ _⟩, (hwB.setCell (by dsimp only; omega) _).setCell (by dsimp only; omega) _⟩
      · skip
        go_upto_if 56 with (first
          | (go_at_call 105; go_fit (sPlanOk_c ⟨n, bs⟩ A b o c _ _ hbl2 (Nat.le_refl _) hrd2); rintro e w4 ⟨rfl, hb4⟩; rw [Hp.out]; have hL4 := hL.below hb4; have hrL4 := (hrL.below hb4).more hb4.size; have e0 := hL4.c0; have e1 := hL4.c1)
          | (go_at_call 105; go_fit (sPlanOk_c ⟨n, L⟩ A3 g3 0 c3 _ _ hL2' (Nat.le_refl _) hrL4); rintro e w5 ⟨rfl, hb5⟩; rw [HpL.out]; have hL5 := hL4.below hb5; have hrL5 := (hrL4.below hb5).more hb5.size)
          | (go_at_call 66; go_fit (l1In_c _ _ _ _); rintro e w6 ⟨rfl, rfl⟩; rw [Hin.out]))
        clear e0 e1 p0 p1 x0 x1 hL hL4 hrL hrL4 hb4 hrd2
        have s0 := far_cell hL5.gr z0 (by omega)
        have s1 := far_cell hL5.gr z1 (by omega)
        have sf := fun i => far_frozen hL5.gr (zf i) (by omega) (by omega)
        have sf0 := sf 0
        have sf1 := sf 1
        have hwB : Below w.heap.size w w5 := hbel.grown hL5.gr hbel.size (fun q hq => by cases hq; omega)
        have x0 := hL5.c0
        have x1 := hL5.c1
        clear hb5 z0 z1 zf sf
        obtain rfl : (⟨n, L⟩ : Pl) = q := by
          rw [← HqL.out]; unfold toldP; rw [HpL.out]; rfl
        obtain ⟨u0, u1⟩ := two_cells (a := .int .i64 n) (b := .slice A3 L.length c3) s0 s1
        obtain ⟨g7, hr7⟩ := OwnB.readsA (own_set_low (own_set_low hL5.own (p := ⟨w.heap.size + 1, 0, none⟩) (by dsimp only; omega) (.int .i64 n)) (p := ⟨w.heap.size + 1, 1, none⟩) (by dsimp only; omega) (.slice A3 L.length c3))
        go_wp2_with fail
        refine bodyPost_ret (v := .tuple #[.agg #[.int .i64 n, .slice A3 L.length c3], .bool true]) (by simp [results, Try.results81, go_sem, u0, u1]) rfl ?_
        exact ⟨A3, ⟨c3, rfl⟩, ⟨g7, hr7⟩, (hwB.setCell (by dsimp only; omega) _).setCell (by dsimp only; omega) _⟩
end Go.Proofs.Ytledgblepdjjlaa
