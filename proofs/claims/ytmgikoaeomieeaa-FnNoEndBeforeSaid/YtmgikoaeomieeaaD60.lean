/-
  The draws of the reference: a project.
-/
import Derived.Test.YtmgikoaeomieeaaR62
import Derived.Test.YtmgikoaeomieeaaZ1
import Derived.Test.YtmgikoaeomieeaaL60
import Derived.Deep.CutBlock
namespace Go.Proofs.Ytmgikoaeomieeaa
set_option linter.unusedVariables false
set_option linter.unusedSimpArgs false
open Go.RowKit Pp

theorem pick_pr {w0 : World} {g P : Nat} {K : Int} {A1 A2 : Option Addr} {c1 c2 : Nat} {L F : List Int} (m : Int) (w : World) (h : PR w0 w g P K A1 c1 L A2 c2 F) (hK : 0 ≤ K ∧ K ≤ 1000000000) (hm : -1000000000 ≤ m ∧ m ≤ 1000000000) :
    Calls Try.prog 44 #[.pointer (some ⟨g, 0, none⟩), .int .i64 m] w fun e w' =>
      ∃ v : Int, e = .returned (.int .i64 v) ∧ 0 ≤ v ∧ (1 ≤ m → v < m) ∧ PR w0 w' g P (K + 1) A1 c1 L A2 c2 F := by
  refine (pick_c g K m w hK hm h.rd).mono ?_
  rintro e w' ⟨v, rfl, h1, h2, h3, h4, h5, h6⟩
  exact ⟨v, rfl, h1, h2, h.pick h4 h5⟩
theorem pr_len1 {w0 w : World} {g P n' : Nat} {K : Int} {A1 A2 : Option Addr} {c1 c2 : Nat} {L F : List Int} (hl : L.length = n') (h : PR w0 (w.setCell ⟨P, 0, none⟩ (.slice A1 L.length c1)) g P K A1 c1 L A2 c2 F) : PR w0 (w.setCell ⟨P, 0, none⟩ (.slice A1 n' c1)) g P K A1 c1 L A2 c2 F := by subst hl; exact h
theorem pr_len2 {w0 w : World} {g P n' : Nat} {K : Int} {A1 A2 : Option Addr} {c1 c2 : Nat} {L F : List Int} (hl : F.length = n') (h : PR w0 (w.setCell ⟨P, 1, none⟩ (.slice A2 F.length c2)) g P K A1 c1 L A2 c2 F) : PR w0 (w.setCell ⟨P, 1, none⟩ (.slice A2 n' c2)) g P K A1 c1 L A2 c2 F := by subst hl; exact h
theorem hatI_len {A5 : Option Addr} {c5 k : Nat} {bs : List Int} {X : Option Nat} (b : Int) (h : (Value.slice A5 (bs.length + 1) c5).ownBlock = X ∨ (Value.slice A5 (bs.length + 1) c5).ownBlock = some k) : (Value.slice A5 (bs ++ [b]).length c5).ownBlock = X ∨ (Value.slice A5 (bs ++ [b]).length c5).ownBlock = some k := by
  rw [List.length_append]; exact h
theorem ownI_one {w : World} {base : Nat} {A : Option Addr} {c : Nat} {xs : List Int} {x : Int} (h : w.ownsRow base 3 1 (.slice A (xs.length + 1) c) (xs.length + 1) (xs.map (Value.int .i64) ++ [.int .i64 x])) : OwnI base w (.slice A (xs ++ [x]).length c) (xs ++ [x]) := by
  unfold OwnI
  rw [List.length_append, List.map_append]
  exact h

theorem pick_pr2 {w0 : World} {g P : Nat} {K : Int} {A1 A2 : Option Addr} {c1 c2 : Nat} {L F : List Int} (m : Int) (w : World) (h : PR w0 w g P K A1 c1 L A2 c2 F) (hK : 0 ≤ K ∧ K ≤ 1000000000) (hm : -1000000000 ≤ m ∧ m ≤ 1000000000) :
    Calls Try.prog 44 #[.pointer (some ⟨g, 0, none⟩), .int .i64 m] w fun e w' =>
      ∃ v : Int, e = .returned (.int .i64 v) ∧ 0 ≤ v ∧ (1 ≤ m → v < m) ∧ PR w0 w' g P (K + 1) A1 c1 L A2 c2 F ∧ w.grownBy w' (some g) ∧ w'.heap.size = w.heap.size := by
  refine (pick_c g K m w hK hm h.rd).mono ?_
  rintro e w' ⟨v, rfl, h1, h2, h3, h4, h5, h6⟩
  exact ⟨v, rfl, h1, h2, h.pick h4 h5, h5, h6⟩
set_option maxHeartbeats 8000000 in
set_option maxRecDepth 100000 in
theorem project_c (g : Nat) (K m : Int) (w : World) (hK : 0 ≤ K ∧ K ≤ 1000000) (hm : 0 ≤ m ∧ m ≤ 100) (hR : RdO w g K) :
    Calls Try.prog 43 #[.pointer (some ⟨g, 0, none⟩), .int .i64 m] w fun e w' =>
      ∃ A1 c1 L A2 c2 F, e = .returned (.agg #[.slice A1 L.length c1, .slice A2 F.length c2]) ∧ L.length ≤ 7 ∧ F.length ≤ 7 ∧ OwnI w.heap.size w' (.slice A1 L.length c1) L ∧ OwnI w.heap.size w' (.slice A2 F.length c2) F ∧ (∀ q, (Value.slice A1 L.length c1).ownBlock = some q → (Value.slice A2 F.length c2).ownBlock ≠ some q) ∧ RdO w' g (K + 100) ∧ w.grownBy w' (some g) := by
  obtain ⟨hK0, hK1⟩ := hK
  obtain ⟨hm0, hm1⟩ := hm
  have hg := hR.lt
  obtain ⟨i0, hi0, hz0, hz1, hz2⟩ := info_parts infoI
  have hRz := hR.alloc (.cells #[.slice none 0 0, .slice none 0 0] 25)
  have hP0 := pr_new (w0 := w.alloc (.cells #[.slice none 0 0, .slice none 0 0] 25)) (A1 := none) (c1 := 0) (L := []) (A2 := none) (c2 := 0) (F := []) (t := 25) hRz (World.grownBy.refl _ _) (by simp; omega) (World.ownsRow_nil _ _ _ _) (World.ownsRow_nil _ _ _ _) (fun q hq => by simp [Value.ownBlock] at hq)
  have hz0' : (w.alloc (.cells #[.slice none 0 0, .slice none 0 0] 25)).cell? ⟨w.heap.size, 0, none⟩ = some (.slice none 0 0) := by simp [go_sem]
  have hz1' : (w.alloc (.cells #[.slice none 0 0, .slice none 0 0] 25)).cell? ⟨w.heap.size, 1, none⟩ = some (.slice none 0 0) := by simp [go_sem]
  have hzf' : ∀ i, (w.alloc (.cells #[.slice none 0 0, .slice none 0 0] 25)).frozen? ⟨w.heap.size, i, none⟩ = false := fun i => by simp [go_sem]
  have hzs : w.heap.size < (w.alloc (.cells #[.slice none 0 0, .slice none 0 0] 25)).heap.size := by simp
  have hGz : w.grownBy (w.alloc (.cells #[.slice none 0 0, .slice none 0 0] 25)) (some g) := gr_new w _ _
  rw [show (w.alloc (.cells #[.slice none 0 0, .slice none 0 0] 25)).heap.size = w.heap.size + 1 by simp] at hP0
  go_enter Try.func43, Try.ntmps43
  go_upto_region 2 with fail
  generalize w.alloc (.cells #[.slice none 0 0, .slice none 0 0] 25) = w0 at hP0 hz0' hz1' hzf' hzs hGz ⊢
  generalize w0.alloc (.cells #[.slice none 0 0, .slice none 0 0] 25) = wa at hP0 ⊢
  have hwP : w.heap.size < w.heap.size + 1 := by omega
  generalize w.heap.size + 1 = P at hP0 hwP ⊢
  have Hz0 := hide hz0'
  have Hz1 := hide hz1'
  have Hzf := hide hzf'
  clear hR hRz hz0' hz1' hzf'
  go_upto_block 0 with (first
    | (go_at_call 44; go_fit (pick_pr 6 _ hP0 (by omega) (by omega)); rintro e w1 ⟨v0, rfl, a1, a2, hP1⟩; replace a2 := a2 (by omega); clear hP0)
    | (go_at_call 44; go_fit (pick_pr 9 _ hP1 (by omega) (by omega)); rintro e w2 ⟨v1, rfl, b1, b2, hP2⟩; replace b2 := b2 (by omega)))
  clear hP1
  obtain ⟨k0, hk0⟩ : ∃ k0 : Int, v0 + v1 / 8 = k0 := ⟨_, rfl⟩
  have hk6 : 0 ≤ k0 ∧ k0 ≤ 6 := by omega
  rw [hk0]
  clear hk0 a1 a2 b1 b2
  go_cut [] (fun wx => ∃ A1 c1 L A2 c2 F, L.length ≤ 6 ∧ F.length ≤ 6 ∧ PR w0 wx g P (K + 50) A1 c1 L A2 c2 F)
  case first =>
    go_wp2_with fail
    go_loopg [6] k0.toNat (fun gh s wr => ∃ (u : Int) (A1 : Option Addr) (c1 : Nat) (L : List Int) (A2 : Option Addr) (c2 : Nat) (F : List Int), gh = u.toNat ∧ 0 ≤ u ∧ s = .int .i64 u ∧ (L.length : Int) + u ≤ 6 ∧ F.length ≤ L.length ∧ PR w0 wr g P (K + 2 + 3 * (L.length : Int)) A1 c1 L A2 c2 F)
    case atStart => exact ⟨k0, none, 0, [], none, 0, [], rfl, hk6.1, rfl, by simp; omega, by simp, hP2.more (by simp; omega)⟩
    case round =>
      clear hP2
      obtain ⟨u, A1, c1, L, A2, c2, F, rfl, hu0, rfl, hLu, hFL, hP⟩ := hrel
      by_cases hu : 0 < u
      · have hL5 : L.length ≤ 5 := by omega
        obtain ⟨q1, q2⟩ := two_pow (i := L.length) (by omega)
        obtain ⟨M, hM⟩ : ∃ M, (2 : Int) ^ L.length = M := ⟨_, rfl⟩
        rw [hM] at q1 q2
        have hw1 : IntKind.i64.wrap M = M := IntWalk.i64_in _ (by omega)
        have hk0 : ¬ (L.length : Int) < 0 := by omega
        have hk64 : (L.length : Int) < 64 := by omega
        have hPd := hP.drew
        have f0 := hP.f0
        have f1 := hP.f1
        go_upto_region 5 with fail
        refine wp_regionE (fun w' => w'.cell? ⟨P, 0, none⟩ = some (.slice A1 L.length c1) ∧ w'.cell? ⟨P, 1, none⟩ = some (.slice A2 F.length c2)) 14 (by kernel_rfl) ?_
        change wpE _ _ _ _ _ _ 15 #[false, false, false, false, false, false, false, false, false, false, false, false, false, false, false] _ _
        have hS0 : wr.drew.cell? ⟨P, 0, none⟩ = some (.slice A1 L.length c1) ∧ wr.drew.cell? ⟨P, 1, none⟩ = some (.slice A2 F.length c2) := ⟨f0, f1⟩
        refine wpE_take' (v := ?_) 0 [14] (of_decide_eq_true (by kernel_rfl)) (by kernel_rfl) (by kernel_rfl) (by kernel_rfl) (by kernel_rfl) (fun _ _ _ h => h) (by kernel_rfl) ?_ hS0 ?_
        rotate_left
        · intro w' hSw
          simp only [List.getElem_toArray, List.getElem_cons_succ, List.getElem_cons_zero]
          go_simp
          all_goals with_reducible rfl
        simp only [List.getElem_toArray, List.getElem_cons_succ, List.getElem_cons_zero, Act.put, List.setIfInBounds_toArray, List.set_cons_zero, List.set_cons_succ]
        refine wpE_take' (v := ?_) 1 [14] (of_decide_eq_true (by kernel_rfl)) (by kernel_rfl) (by kernel_rfl) (by kernel_rfl) (by kernel_rfl) (fun _ _ _ h => h) (by kernel_rfl) ?_ hS0 ?_
        rotate_left
        · intro w' hSw
          simp only [List.getElem_toArray, List.getElem_cons_succ, List.getElem_cons_zero]
          go_simp
          all_goals with_reducible rfl
        simp only [List.getElem_toArray, List.getElem_cons_succ, List.getElem_cons_zero, Act.put, List.setIfInBounds_toArray, List.set_cons_zero, List.set_cons_succ]
        refine wpE_take' (v := ?_) 2 [14] (of_decide_eq_true (by kernel_rfl)) (by kernel_rfl) (by kernel_rfl) (by kernel_rfl) (by kernel_rfl) (fun _ _ _ h => h) (by kernel_rfl) ?_ hS0 ?_
        rotate_left
        · intro w' hSw
          simp only [List.getElem_toArray, List.getElem_cons_succ, List.getElem_cons_zero]
          go_simp
          all_goals with_reducible rfl
        simp only [List.getElem_toArray, List.getElem_cons_succ, List.getElem_cons_zero, Act.put, List.setIfInBounds_toArray, List.set_cons_zero, List.set_cons_succ]
        refine wpE_take' (v := ?_) 3 [14] (of_decide_eq_true (by kernel_rfl)) (by kernel_rfl) (by kernel_rfl) (by kernel_rfl) (by kernel_rfl) (fun _ _ _ h => h) (by kernel_rfl) ?_ hS0 ?_
        rotate_left
        · intro w' hSw
          simp only [List.getElem_toArray, List.getElem_cons_succ, List.getElem_cons_zero]
          go_simp
          all_goals with_reducible rfl
        simp only [List.getElem_toArray, List.getElem_cons_succ, List.getElem_cons_zero, Act.put, List.setIfInBounds_toArray, List.set_cons_zero, List.set_cons_succ]
        refine wpE_take' (v := ?_) 4 [14] (of_decide_eq_true (by kernel_rfl)) (by kernel_rfl) (by kernel_rfl) (by kernel_rfl) (by kernel_rfl) (fun _ _ _ h => h) (by kernel_rfl) ?_ hS0 ?_
        rotate_left
        · intro w' hSw
          simp only [List.getElem_toArray, List.getElem_cons_succ, List.getElem_cons_zero]
          go_simp
          all_goals with_reducible rfl
        simp only [List.getElem_toArray, List.getElem_cons_succ, List.getElem_cons_zero, Act.put, List.setIfInBounds_toArray, List.set_cons_zero, List.set_cons_succ]
        refine wpE_take' (v := ?_) 8 [14] (of_decide_eq_true (by kernel_rfl)) (by kernel_rfl) (by kernel_rfl) (by kernel_rfl) (by kernel_rfl) (fun _ _ _ h => h) (by kernel_rfl) ?_ hS0 ?_
        rotate_left
        · intro w' hSw
          simp only [List.getElem_toArray, List.getElem_cons_succ, List.getElem_cons_zero]
          go_simp
          all_goals with_reducible rfl
        simp only [List.getElem_toArray, List.getElem_cons_succ, List.getElem_cons_zero, Act.put, List.setIfInBounds_toArray, List.set_cons_zero, List.set_cons_succ]
        refine wpE_take' (v := ?_) 5 [14] (of_decide_eq_true (by kernel_rfl)) (by kernel_rfl) (by kernel_rfl) (by kernel_rfl) (by kernel_rfl) (fun _ _ _ h => h) (by kernel_rfl) ?_ hS0 ?_
        rotate_left
        · intro w' hSw
          simp only [List.getElem_toArray, List.getElem_cons_succ, List.getElem_cons_zero]
          go_simp
          all_goals with_reducible rfl
        simp only [List.getElem_toArray, List.getElem_cons_succ, List.getElem_cons_zero, Act.put, List.setIfInBounds_toArray, List.set_cons_zero, List.set_cons_succ]
        refine wpE_take' (v := ?_) 6 [14] (of_decide_eq_true (by kernel_rfl)) (by kernel_rfl) (by kernel_rfl) (by kernel_rfl) (by kernel_rfl) (fun _ _ _ h => h) (by kernel_rfl) ?_ hS0 ?_
        rotate_left
        · intro w' hSw
          simp only [List.getElem_toArray, List.getElem_cons_succ, List.getElem_cons_zero]
          go_simp
          all_goals with_reducible rfl
        simp only [List.getElem_toArray, List.getElem_cons_succ, List.getElem_cons_zero, Act.put, List.setIfInBounds_toArray, List.set_cons_zero, List.set_cons_succ]
        refine wpE_step' 7 (of_decide_eq_true (by kernel_rfl)) (by kernel_rfl) (by kernel_rfl) (fun K hK => ?_)
        simp only [List.getElem_toArray, List.getElem_cons_succ, List.getElem_cons_zero]
        go_simp
        go_at_call 44
        refine (pick_pr M _ hPd (by omega) (by omega)).mono ?_
        rintro e w5 ⟨v1, rfl, a1, a2, hP5⟩
        replace a2 := a2 (by omega)
        refine hK.out _ _ (.inr ⟨hP5.f0, hP5.f1⟩) ?_
        clear hK K
        simp only [Act.put, List.setIfInBounds_toArray, List.set_cons_zero, List.set_cons_succ]
        refine wpE_step' 9 (of_decide_eq_true (by kernel_rfl)) (by kernel_rfl) (by kernel_rfl) (fun K hK => ?_)
        simp only [List.getElem_toArray, List.getElem_cons_succ, List.getElem_cons_zero]
        have aa1 := a1
        have aa2 := a2
        clear a1 a2
        go_simp
        go_at_call 44
        refine (pick_pr 64 _ hP5 (by omega) (by omega)).mono ?_
        rintro e w6 ⟨v2, rfl, a1, a2, hP6⟩
        replace a2 := a2 (by omega)
        refine hK.out _ _ (.inr ⟨hP6.f0, hP6.f1⟩) ?_
        clear hK K
        simp only [Act.put, List.setIfInBounds_toArray, List.set_cons_zero, List.set_cons_succ]
        clear hS0 aa1 aa2 a1 a2 hPd hP5
        obtain ⟨x, hx⟩ : ∃ x, bits .and .i64 v1 v2 = x := ⟨_, rfl⟩
        have hS0 : w6.cell? ⟨P, 0, none⟩ = some (.slice A1 L.length c1) ∧ w6.cell? ⟨P, 1, none⟩ = some (.slice A2 F.length c2) := ⟨hP6.f0, hP6.f1⟩
        refine wpE_take' (v := ?_) 10 [14] (of_decide_eq_true (by kernel_rfl)) (by kernel_rfl) (by kernel_rfl) (by kernel_rfl) (by kernel_rfl) (fun _ _ _ h => h) (by kernel_rfl) ?_ hS0 ?_
        rotate_left
        · intro w' hSw
          simp only [List.getElem_toArray, List.getElem_cons_succ, List.getElem_cons_zero]
          go_simp
          all_goals with_reducible rfl
        simp only [List.getElem_toArray, List.getElem_cons_succ, List.getElem_cons_zero, Act.put, List.setIfInBounds_toArray, List.set_cons_zero, List.set_cons_succ]
        have hPa := hP6.alloc (.cells #[.int .i64 x] 3)
        have hnew : (w6.alloc (.cells #[.int .i64 x] 3)).heap[w6.heap.size]? = some (.cells #[.int .i64 x] 3 (0, 0)) := at_new rfl
        have hsza := hPa.gr.size
        refine wpE_step' 11 (of_decide_eq_true (by kernel_rfl)) (by kernel_rfl) (by kernel_rfl) (fun K hK => ?_)
        simp only [List.getElem_toArray, List.getElem_cons_succ, List.getElem_cons_zero]
        go_simp
        refine hK.out _ _ (.inr ⟨hPa.f0, hPa.f1⟩) ?_
        clear hK K hS0
        simp only [Act.put, List.setIfInBounds_toArray, List.set_cons_zero, List.set_cons_succ]
        refine wpE_step' 12 (of_decide_eq_true (by kernel_rfl)) (by kernel_rfl) (by kernel_rfl) (fun K hK => ?_)
        simp only [List.getElem_toArray, List.getElem_cons_succ, List.getElem_cons_zero]
        refine app_wp _ (.tmp 19) (.tmp 29) _ rfl w0.heap.size 3 i0 _ 1 8 Try.underlying23 hi0 hz0 hz1 hz2 rfl (by omega) (.slice A2 F.length c2) F.length (F.map (Value.int .i64)) rfl hPa.o2 (some ⟨w6.heap.size, 0, none⟩) 1 _ [.int .i64 x] rfl rfl (NewsAt.block (cs := #[.int .i64 x]) hnew) (by simp [Value.oneCell']) (by omega) (by omega) hsza ?_
        intro A5 c5 w7 hown5 hg5 hat5
        have hown6 := ownI_one hown5
        have hat6 := hatI_len x hat5
        obtain ⟨z0, z1, zf, hP7⟩ := hPa.app2 hg5 hown6 hat6
        replace hP7 := pr_len2 (List.length_append) hP7
        have HP7 := hide hP7
        clear hown5 hown6 hat5 hat6 hP7 hg5
        refine hK.out _ _ (.inr ⟨z0, z1⟩) ?_
        clear hK K
        simp only [Act.put, List.setIfInBounds_toArray, List.set_cons_zero, List.set_cons_succ]
        have hS0 : w7.cell? ⟨P, 0, none⟩ = some (.slice A1 L.length c1) ∧ w7.cell? ⟨P, 1, none⟩ = some (.slice A2 F.length c2) := ⟨z0, z1⟩
        refine wpE_take' (v := ?_) 13 [14] (of_decide_eq_true (by kernel_rfl)) (by kernel_rfl) (by kernel_rfl) (by kernel_rfl) (by kernel_rfl) (fun _ _ _ h => h) (by kernel_rfl) ?_ hS0 ?_
        rotate_left
        · intro w' hSw
          simp only [List.getElem_toArray, List.getElem_cons_succ, List.getElem_cons_zero]
          go_simp
          all_goals with_reducible rfl
        simp only [List.getElem_toArray, List.getElem_cons_succ, List.getElem_cons_zero, Act.put, List.setIfInBounds_toArray, List.set_cons_zero, List.set_cons_succ]
        refine wpE_step' 14 (of_decide_eq_true (by kernel_rfl)) (by kernel_rfl) (by kernel_rfl) (fun K hK => ?_)
        simp only [List.getElem_toArray, List.getElem_cons_succ, List.getElem_cons_zero]
        go_simp
        refine hK.out _ _ (.inl rfl) ?_
        clear hK K
        simp only [Act.put, List.setIfInBounds_toArray, List.set_cons_zero, List.set_cons_succ]
        refine wpE_done (by kernel_rfl) ?_ _
        have hP8 := HP7.out
        have hF8 : (F ++ [x]).length ≤ L.length + 1 := by simp; omega
        clear hS0 z0 z1 zf HP7 hPa hnew hsza hP6 hx hM hw1 hk0 hk64 q1 q2 hP f0 f1
        simp only [List.length_singleton] at hP8
        generalize w7.setCell ⟨P, 1, none⟩ (.slice A5 (F.length + 1) c5) = wr at hP8 ⊢
        generalize F ++ [x] = F at hP8 hF8
        generalize A5 = A2 at hP8 ⊢
        generalize c5 = c2 at hP8 ⊢
        have hPd := hP8.drew
        have f0 := hP8.f0
        have f1 := hP8.f1
        go_upto_region 6 with fail
        refine wp_regionE (fun w' => w'.cell? ⟨P, 0, none⟩ = some (.slice A1 L.length c1) ∧ w'.cell? ⟨P, 1, none⟩ = some (.slice A2 F.length c2)) 8 (by kernel_rfl) ?_
        change wpE _ _ _ _ _ _ 9 #[false, false, false, false, false, false, false, false, false] _ _
        have hS0 : wr.drew.cell? ⟨P, 0, none⟩ = some (.slice A1 L.length c1) ∧ wr.drew.cell? ⟨P, 1, none⟩ = some (.slice A2 F.length c2) := ⟨f0, f1⟩
        refine wpE_take' (v := ?_) 0 [8] (of_decide_eq_true (by kernel_rfl)) (by kernel_rfl) (by kernel_rfl) (by kernel_rfl) (by kernel_rfl) (fun _ _ _ h => h) (by kernel_rfl) ?_ hS0 ?_
        rotate_left
        · intro w' hSw
          simp only [List.getElem_toArray, List.getElem_cons_succ, List.getElem_cons_zero]
          go_simp
          all_goals with_reducible rfl
        simp only [List.getElem_toArray, List.getElem_cons_succ, List.getElem_cons_zero, Act.put, List.setIfInBounds_toArray, List.set_cons_zero, List.set_cons_succ]
        refine wpE_take' (v := ?_) 1 [8] (of_decide_eq_true (by kernel_rfl)) (by kernel_rfl) (by kernel_rfl) (by kernel_rfl) (by kernel_rfl) (fun _ _ _ h => h) (by kernel_rfl) ?_ hS0 ?_
        rotate_left
        · intro w' hSw
          simp only [List.getElem_toArray, List.getElem_cons_succ, List.getElem_cons_zero]
          go_simp
          all_goals with_reducible rfl
        simp only [List.getElem_toArray, List.getElem_cons_succ, List.getElem_cons_zero, Act.put, List.setIfInBounds_toArray, List.set_cons_zero, List.set_cons_succ]
        refine wpE_take' (v := ?_) 2 [8] (of_decide_eq_true (by kernel_rfl)) (by kernel_rfl) (by kernel_rfl) (by kernel_rfl) (by kernel_rfl) (fun _ _ _ h => h) (by kernel_rfl) ?_ hS0 ?_
        rotate_left
        · intro w' hSw
          simp only [List.getElem_toArray, List.getElem_cons_succ, List.getElem_cons_zero]
          go_simp
          all_goals with_reducible rfl
        simp only [List.getElem_toArray, List.getElem_cons_succ, List.getElem_cons_zero, Act.put, List.setIfInBounds_toArray, List.set_cons_zero, List.set_cons_succ]
        refine wpE_step' 3 (of_decide_eq_true (by kernel_rfl)) (by kernel_rfl) (by kernel_rfl) (fun K hK => ?_)
        simp only [List.getElem_toArray, List.getElem_cons_succ, List.getElem_cons_zero]
        go_simp
        go_at_call 44
        refine (pick_pr 9 _ hPd (by omega) (by omega)).mono ?_
        rintro e w6 ⟨v3, rfl, a1, a2, hP6⟩
        replace a2 := a2 (by omega)
        refine hK.out _ _ (.inr ⟨hP6.f0, hP6.f1⟩) ?_
        clear hK K
        simp only [Act.put, List.setIfInBounds_toArray, List.set_cons_zero, List.set_cons_succ]
        clear hS0
        have hw3 : IntKind.i64.wrap (1 + v3) = 1 + v3 := IntWalk.i64_in _ (by omega)
        have hS0 : w6.cell? ⟨P, 0, none⟩ = some (.slice A1 L.length c1) ∧ w6.cell? ⟨P, 1, none⟩ = some (.slice A2 F.length c2) := ⟨hP6.f0, hP6.f1⟩
        refine wpE_take' (v := ?_) 4 [8] (of_decide_eq_true (by kernel_rfl)) (by kernel_rfl) (by kernel_rfl) (by kernel_rfl) (by kernel_rfl) (fun _ _ _ h => h) (by kernel_rfl) ?_ hS0 ?_
        rotate_left
        · intro w' hSw
          simp only [List.getElem_toArray, List.getElem_cons_succ, List.getElem_cons_zero]
          go_simp
          all_goals with_reducible rfl
        simp only [List.getElem_toArray, List.getElem_cons_succ, List.getElem_cons_zero, Act.put, List.setIfInBounds_toArray, List.set_cons_zero, List.set_cons_succ]
        have hPa := hP6.alloc (.cells #[.int .i64 (1 + v3)] 3)
        have hnew : (w6.alloc (.cells #[.int .i64 (1 + v3)] 3)).heap[w6.heap.size]? = some (.cells #[.int .i64 (1 + v3)] 3 (0, 0)) := at_new rfl
        have hsza := hPa.gr.size
        refine wpE_step' 5 (of_decide_eq_true (by kernel_rfl)) (by kernel_rfl) (by kernel_rfl) (fun K hK => ?_)
        simp only [List.getElem_toArray, List.getElem_cons_succ, List.getElem_cons_zero]
        go_simp
        refine hK.out _ _ (.inr ⟨hPa.f0, hPa.f1⟩) ?_
        clear hK K hS0
        simp only [Act.put, List.setIfInBounds_toArray, List.set_cons_zero, List.set_cons_succ]
        refine wpE_step' 6 (of_decide_eq_true (by kernel_rfl)) (by kernel_rfl) (by kernel_rfl) (fun K hK => ?_)
        simp only [List.getElem_toArray, List.getElem_cons_succ, List.getElem_cons_zero]
        refine app_wp _ (.tmp 33) (.tmp 37) _ rfl w0.heap.size 3 i0 _ 1 8 Try.underlying23 hi0 hz0 hz1 hz2 rfl (by omega) (.slice A1 L.length c1) L.length (L.map (Value.int .i64)) rfl hPa.o1 (some ⟨w6.heap.size, 0, none⟩) 1 _ [.int .i64 (1 + v3)] rfl rfl (NewsAt.block (cs := #[.int .i64 (1 + v3)]) hnew) (by simp [Value.oneCell']) (by omega) (by omega) hsza ?_
        intro A5 c5 w7 hown5 hg5 hat5
        have hown6 := ownI_one hown5
        have hat6 := hatI_len (1 + v3) hat5
        obtain ⟨z0, z1, zf, hP7⟩ := hPa.app1 hg5 hown6 hat6
        replace hP7 := pr_len1 (List.length_append) hP7
        have HP7 := hide hP7
        clear hown5 hown6 hat5 hat6 hP7 hg5
        refine hK.out _ _ (.inr ⟨z0, z1⟩) ?_
        clear hK K
        simp only [Act.put, List.setIfInBounds_toArray, List.set_cons_zero, List.set_cons_succ]
        have hS0 : w7.cell? ⟨P, 0, none⟩ = some (.slice A1 L.length c1) ∧ w7.cell? ⟨P, 1, none⟩ = some (.slice A2 F.length c2) := ⟨z0, z1⟩
        refine wpE_take' (v := ?_) 7 [8] (of_decide_eq_true (by kernel_rfl)) (by kernel_rfl) (by kernel_rfl) (by kernel_rfl) (by kernel_rfl) (fun _ _ _ h => h) (by kernel_rfl) ?_ hS0 ?_
        rotate_left
        · intro w' hSw
          simp only [List.getElem_toArray, List.getElem_cons_succ, List.getElem_cons_zero]
          go_simp
          all_goals with_reducible rfl
        simp only [List.getElem_toArray, List.getElem_cons_succ, List.getElem_cons_zero, Act.put, List.setIfInBounds_toArray, List.set_cons_zero, List.set_cons_succ]
        refine wpE_step' 8 (of_decide_eq_true (by kernel_rfl)) (by kernel_rfl) (by kernel_rfl) (fun K hK => ?_)
        simp only [List.getElem_toArray, List.getElem_cons_succ, List.getElem_cons_zero]
        go_simp
        refine hK.out _ _ (.inl rfl) ?_
        clear hK K
        simp only [Act.put, List.setIfInBounds_toArray, List.set_cons_zero, List.set_cons_succ]
        refine wpE_done (by kernel_rfl) ?_ _
        have hP9 := HP7.out
        have hL9 : (L ++ [1 + v3]).length = L.length + 1 := by simp
        have HL9 := hide hL9
        clear hS0 z0 z1 zf HP7 hPa hnew hsza hP6 hw3 hP8 hPd f0 f1 a1 a2 hL9
        simp only [List.length_singleton] at hP9
        generalize w7.setCell ⟨P, 0, none⟩ (.slice A5 (L.length + 1) c5) = w9 at hP9 ⊢
        go_wp2_with fail
        go_roundg (u - 1).toNat
        case measure => go_light; omega
        case rel => go_light; exact ⟨u - 1, A5, c5, L ++ [1 + v3], A2, c2, F, rfl, by omega, by go_num, by rw [HL9.out]; omega, by rw [HL9.out]; exact hF8, hP9.more (by rw [HL9.out]; omega)⟩
      · go_wp2_with fail
        go_meet
        case rel => exact ⟨A1, c1, L, A2, c2, F, by omega, by omega, hP.more (by omega)⟩
  case rest =>
    clear hP2
    obtain ⟨A1, c1, L, A2, c2, F, hL6, hF6, hP⟩ := hcut
    go_upto_if 42 with (go_at_call 78; go_fit (odd_c g _ m _ (by omega) (by omega) hP.rd); rintro e w5 ⟨bo, rfl, hR5, G5, -⟩)
    have hQ := hP.pick hR5 G5
    clear hP hR5 G5
    go_cut [] (fun wx => ∃ A1 c1 L A2 c2 F, L.length ≤ 7 ∧ F.length ≤ 7 ∧ PR w0 wx g P (K + 99) A1 c1 L A2 c2 F)
    case first =>
      cases bo
      · go_wp2_with fail
        go_meet
        case rel => exact ⟨A1, c1, L, A2, c2, F, by omega, by omega, hQ.more (by omega)⟩
      · go_upto_region 11 with (go_at_call 44; go_fit (pick_pr 3 _ hQ (by omega) (by omega)); rintro e wr ⟨v3, rfl, a1, a2, hP⟩; replace a2 := a2 (by omega))
        clear hQ
        have hPd := hP.drew
        have f0 := hP.f0
        have f1 := hP.f1
        by_cases h0 : v3 = 0
        · subst h0
          have hPa := hP.alloc (.cells #[.int .i64 1] 3)
          have hsza := hPa.gr.size
          have g0 := hPa.f0
          go_wp2_with (at_builtin; refine app_list _ rfl (.tmp 62) (.tmp 63) _ rfl w0.heap.size 3 i0 _ 1 8 Try.underlying23 hi0 hz0 hz1 hz2 rfl (by omega) (.slice A1 L.length c1) L.length (L.map (Value.int .i64)) rfl hPa.o1 _ 1 _ [.int .i64 1] rfl rfl (NewsAt.block (cs := #[.int .i64 1]) (at_new rfl)) (by simp [Value.oneCell']) (by omega) (by omega) hsza ?_; intro A5 c5 w7 hown5 hg5 hat5; have hown6 := ownI_one hown5; have hat6 := hatI_len 1 hat5; obtain ⟨z0, z1, zf, hP7⟩ := hPa.app1 hg5 hown6 hat6; replace hP7 := pr_len1 (List.length_append) hP7; have HP7 := hide hP7; clear hown5 hown6 hat5 hat6 hP7 hg5)
          have hP9 := HP7.out
          simp only [List.length_singleton] at hP9
          go_meet
          case rel => exact ⟨A5, c5, L ++ [1], A2, c2, F, by simp; omega, by omega, hP9.more (by omega)⟩
        · have h00 : (v3 == 0) = false := by simpa using h0
          by_cases h1 : v3 = 1
          · subst h1
            clear h0 h00
            go_upto_region 14 with fail
            refine wp_regionE (fun w' => w'.cell? ⟨P, 0, none⟩ = some (.slice A1 L.length c1) ∧ w'.cell? ⟨P, 1, none⟩ = some (.slice A2 F.length c2)) 10 (by kernel_rfl) ?_
            change wpE _ _ _ _ _ _ 11 #[false, false, false, false, false, false, false, false, false, false, false] _ _
            have hS0 : wr.drew.cell? ⟨P, 0, none⟩ = some (.slice A1 L.length c1) ∧ wr.drew.cell? ⟨P, 1, none⟩ = some (.slice A2 F.length c2) := ⟨f0, f1⟩
            refine wpE_take' (v := ?_) 0 [10] (of_decide_eq_true (by kernel_rfl)) (by kernel_rfl) (by kernel_rfl) (by kernel_rfl) (by kernel_rfl) (fun _ _ _ h => h) (by kernel_rfl) ?_ hS0 ?_
            rotate_left
            · intro w' hSw
              simp only [List.getElem_toArray, List.getElem_cons_succ, List.getElem_cons_zero]
              go_simp
              all_goals with_reducible rfl
            simp only [List.getElem_toArray, List.getElem_cons_succ, List.getElem_cons_zero, Act.put, List.setIfInBounds_toArray, List.set_cons_zero, List.set_cons_succ]
            refine wpE_take' (v := ?_) 1 [10] (of_decide_eq_true (by kernel_rfl)) (by kernel_rfl) (by kernel_rfl) (by kernel_rfl) (by kernel_rfl) (fun _ _ _ h => h) (by kernel_rfl) ?_ hS0 ?_
            rotate_left
            · intro w' hSw
              simp only [List.getElem_toArray, List.getElem_cons_succ, List.getElem_cons_zero]
              go_simp
              all_goals with_reducible rfl
            simp only [List.getElem_toArray, List.getElem_cons_succ, List.getElem_cons_zero, Act.put, List.setIfInBounds_toArray, List.set_cons_zero, List.set_cons_succ]
            refine wpE_take' (v := ?_) 3 [10] (of_decide_eq_true (by kernel_rfl)) (by kernel_rfl) (by kernel_rfl) (by kernel_rfl) (by kernel_rfl) (fun _ _ _ h => h) (by kernel_rfl) ?_ hS0 ?_
            rotate_left
            · intro w' hSw
              simp only [List.getElem_toArray, List.getElem_cons_succ, List.getElem_cons_zero]
              go_simp
              all_goals with_reducible rfl
            simp only [List.getElem_toArray, List.getElem_cons_succ, List.getElem_cons_zero, Act.put, List.setIfInBounds_toArray, List.set_cons_zero, List.set_cons_succ]
            refine wpE_two 2 4 (of_decide_eq_true (by kernel_rfl)) (of_decide_eq_true (by kernel_rfl)) (by kernel_rfl) (by kernel_rfl) (by kernel_rfl) (fun K hK => ?_) (fun K hK => ?_)
            · simp only [List.getElem_toArray, List.getElem_cons_succ, List.getElem_cons_zero]
              go_simp
              have hPb := (hP.alloc (.cells #[.int .i64 0, .int .i64 21] 3)).drew
              have q0 : (wr.alloc (.cells #[.int .i64 0, .int .i64 21] 3)).drew.cell? ⟨wr.heap.size, 0, none⟩ = some (.int .i64 0) := by simp [go_sem]
              have q1 : (wr.alloc (.cells #[.int .i64 0, .int .i64 21] 3)).drew.cell? ⟨wr.heap.size, 1, none⟩ = some (.int .i64 21) := by simp [go_sem]
              have hgw : wr.heap.size ≠ g := by have := hP.rd.lt; omega
              refine hK.out _ _ (.inr ⟨hPb.f0, hPb.f1⟩) ?_
              clear hK K
              simp only [Act.put, List.setIfInBounds_toArray, List.set_cons_zero, List.set_cons_succ]
              refine wpE_step' 4 (of_decide_eq_true (by kernel_rfl)) (by kernel_rfl) (by kernel_rfl) (fun K hK => ?_)
              simp only [List.getElem_toArray, List.getElem_cons_succ, List.getElem_cons_zero]
              go_simp
              go_at_call 44
              refine (pick_pr2 2 _ hPb (by omega) (by omega)).mono ?_
              rintro e w6 ⟨v4, rfl, b1, b2, hP6, hG6, -⟩
              replace b2 := b2 (by omega)
              replace q0 := far_cell hG6 q0 hgw
              replace q1 := far_cell hG6 q1 hgw
              refine hK.out _ _ (.inr ⟨hP6.f0, hP6.f1⟩) ?_
              clear hK K
              simp only [Act.put, List.setIfInBounds_toArray, List.set_cons_zero, List.set_cons_succ]
              have hv4 : v4 = 0 ∨ v4 = 1 := by omega
              generalize wr.heap.size = qb at q0 q1 hgw ⊢
              clear hP hPd hPb hG6 f0 f1 b1 b2
              rcases hv4 with rfl | rfl
              · skip
                clear hS0
                have hS0 : w6.cell? ⟨P, 0, none⟩ = some (.slice A1 L.length c1) ∧ w6.cell? ⟨P, 1, none⟩ = some (.slice A2 F.length c2) := ⟨hP6.f0, hP6.f1⟩
                refine wpE_take' (v := ?_) 5 [10] (of_decide_eq_true (by kernel_rfl)) (by kernel_rfl) (by kernel_rfl) (by kernel_rfl) (by kernel_rfl) (fun _ _ _ h => h) (by kernel_rfl) ?_ hS0 ?_
                rotate_left
                · intro w' hSw
                  simp only [List.getElem_toArray, List.getElem_cons_succ, List.getElem_cons_zero]
                  go_simp
                  all_goals with_reducible rfl
                simp only [List.getElem_toArray, List.getElem_cons_succ, List.getElem_cons_zero, Act.put, List.setIfInBounds_toArray, List.set_cons_zero, List.set_cons_succ]
                clear hS0
                refine wpE_step' 6 (of_decide_eq_true (by kernel_rfl)) (by kernel_rfl) (by kernel_rfl) (fun K hK => ?_)
                simp only [List.getElem_toArray, List.getElem_cons_succ, List.getElem_cons_zero]
                go_simp
                refine hK.out _ _ (.inr ⟨hP6.f0, hP6.f1⟩) ?_
                clear hK K
                simp only [Act.put, List.setIfInBounds_toArray, List.set_cons_zero, List.set_cons_succ]
                have hPa := hP6.alloc (.cells #[.int .i64 0] 3)
                have hnew : (w6.alloc (.cells #[.int .i64 0] 3)).heap[w6.heap.size]? = some (.cells #[.int .i64 0] 3 (0, 0)) := at_new rfl
                have hsza := hPa.gr.size
                refine wpE_step' 7 (of_decide_eq_true (by kernel_rfl)) (by kernel_rfl) (by kernel_rfl) (fun K hK => ?_)
                simp only [List.getElem_toArray, List.getElem_cons_succ, List.getElem_cons_zero]
                go_simp
                refine hK.out _ _ (.inr ⟨hPa.f0, hPa.f1⟩) ?_
                clear hK K
                simp only [Act.put, List.setIfInBounds_toArray, List.set_cons_zero, List.set_cons_succ]
                refine wpE_step' 8 (of_decide_eq_true (by kernel_rfl)) (by kernel_rfl) (by kernel_rfl) (fun K hK => ?_)
                simp only [List.getElem_toArray, List.getElem_cons_succ, List.getElem_cons_zero]
                refine app_wp _ (.tmp 69) (.tmp 75) _ rfl w0.heap.size 3 i0 _ 1 8 Try.underlying23 hi0 hz0 hz1 hz2 rfl (by omega) (.slice A1 L.length c1) L.length (L.map (Value.int .i64)) rfl hPa.o1 (some ⟨w6.heap.size, 0, none⟩) 1 _ [.int .i64 0] rfl rfl (NewsAt.block (cs := #[.int .i64 0]) hnew) (by simp [Value.oneCell']) (by omega) (by omega) hsza ?_
                intro A5 c5 w7 hown5 hg5 hat5
                have hown6 := ownI_one hown5
                have hat6 := hatI_len 0 hat5
                obtain ⟨z0, z1, zf, hP7⟩ := hPa.app1 hg5 hown6 hat6
                replace hP7 := pr_len1 (List.length_append) hP7
                have HP7 := hide hP7
                clear hown5 hown6 hat5 hat6 hP7 hg5
                refine hK.out _ _ (.inr ⟨z0, z1⟩) ?_
                clear hK K
                simp only [Act.put, List.setIfInBounds_toArray, List.set_cons_zero, List.set_cons_succ]
                have hS0 : w7.cell? ⟨P, 0, none⟩ = some (.slice A1 L.length c1) ∧ w7.cell? ⟨P, 1, none⟩ = some (.slice A2 F.length c2) := ⟨z0, z1⟩
                refine wpE_take' (v := ?_) 9 [10] (of_decide_eq_true (by kernel_rfl)) (by kernel_rfl) (by kernel_rfl) (by kernel_rfl) (by kernel_rfl) (fun _ _ _ h => h) (by kernel_rfl) ?_ hS0 ?_
                rotate_left
                · intro w' hSw
                  simp only [List.getElem_toArray, List.getElem_cons_succ, List.getElem_cons_zero]
                  go_simp
                  all_goals with_reducible rfl
                simp only [List.getElem_toArray, List.getElem_cons_succ, List.getElem_cons_zero, Act.put, List.setIfInBounds_toArray, List.set_cons_zero, List.set_cons_succ]
                refine wpE_step' 10 (of_decide_eq_true (by kernel_rfl)) (by kernel_rfl) (by kernel_rfl) (fun K hK => ?_)
                simp only [List.getElem_toArray, List.getElem_cons_succ, List.getElem_cons_zero]
                go_simp
                refine hK.out _ _ (.inl rfl) ?_
                clear hK K
                simp only [Act.put, List.setIfInBounds_toArray, List.set_cons_zero, List.set_cons_succ]
                refine wpE_done (by kernel_rfl) ?_ _
                have hP9 := HP7.out
                clear hS0 z0 z1 zf HP7 hPa hnew hsza hP6 q0 q1
                simp only [List.length_singleton] at hP9
                have hL9 : (L ++ [(0 : Int)]).length ≤ 7 := by simp; omega
                generalize w7.setCell ⟨P, 0, none⟩ (.slice A5 (L.length + 1) c5) = w9 at hP9 ⊢
                generalize L ++ [(0 : Int)] = L9 at hP9 hL9
                generalize A5 = A9 at hP9 ⊢
                generalize c5 = c9 at hP9 ⊢
                have f1 := hP9.f1
                have hPb := hP9.alloc (.cells #[.int .i64 0] 3)
                have hsza := hPb.gr.size
                have g1 := hPb.f1
                go_wp2_with (at_builtin; refine app_list _ rfl (.tmp 79) (.tmp 80) _ rfl w0.heap.size 3 i0 _ 1 8 Try.underlying23 hi0 hz0 hz1 hz2 rfl (by omega) (.slice A2 F.length c2) F.length (F.map (Value.int .i64)) rfl hPb.o2 _ 1 _ [.int .i64 0] rfl rfl (NewsAt.block (cs := #[.int .i64 0]) (at_new rfl)) (by simp [Value.oneCell']) (by omega) (by omega) hsza ?_; intro A5 c5 w7 hown5 hg5 hat5; have hown6 := ownI_one hown5; have hat6 := hatI_len 0 hat5; obtain ⟨z0, z1, zf, hP7⟩ := hPb.app2 hg5 hown6 hat6; replace hP7 := pr_len2 (List.length_append) hP7; have HP7 := hide hP7; clear hown5 hown6 hat5 hat6 hP7 hg5)
                have hP10 := HP7.out
                simp only [List.length_singleton] at hP10
                go_meet
                case rel => exact ⟨A9, c9, L9, A5, c5, F ++ [0], hL9, by simp; omega, hP10.more (by omega)⟩
              · skip
                clear hS0
                have hS0 : w6.cell? ⟨P, 0, none⟩ = some (.slice A1 L.length c1) ∧ w6.cell? ⟨P, 1, none⟩ = some (.slice A2 F.length c2) := ⟨hP6.f0, hP6.f1⟩
                refine wpE_take' (v := ?_) 5 [10] (of_decide_eq_true (by kernel_rfl)) (by kernel_rfl) (by kernel_rfl) (by kernel_rfl) (by kernel_rfl) (fun _ _ _ h => h) (by kernel_rfl) ?_ hS0 ?_
                rotate_left
                · intro w' hSw
                  simp only [List.getElem_toArray, List.getElem_cons_succ, List.getElem_cons_zero]
                  go_simp
                  all_goals with_reducible rfl
                simp only [List.getElem_toArray, List.getElem_cons_succ, List.getElem_cons_zero, Act.put, List.setIfInBounds_toArray, List.set_cons_zero, List.set_cons_succ]
                clear hS0
                refine wpE_step' 6 (of_decide_eq_true (by kernel_rfl)) (by kernel_rfl) (by kernel_rfl) (fun K hK => ?_)
                simp only [List.getElem_toArray, List.getElem_cons_succ, List.getElem_cons_zero]
                go_simp
                refine hK.out _ _ (.inr ⟨hP6.f0, hP6.f1⟩) ?_
                clear hK K
                simp only [Act.put, List.setIfInBounds_toArray, List.set_cons_zero, List.set_cons_succ]
                have hPa := hP6.alloc (.cells #[.int .i64 21] 3)
                have hnew : (w6.alloc (.cells #[.int .i64 21] 3)).heap[w6.heap.size]? = some (.cells #[.int .i64 21] 3 (0, 0)) := at_new rfl
                have hsza := hPa.gr.size
                refine wpE_step' 7 (of_decide_eq_true (by kernel_rfl)) (by kernel_rfl) (by kernel_rfl) (fun K hK => ?_)
                simp only [List.getElem_toArray, List.getElem_cons_succ, List.getElem_cons_zero]
                go_simp
                refine hK.out _ _ (.inr ⟨hPa.f0, hPa.f1⟩) ?_
                clear hK K
                simp only [Act.put, List.setIfInBounds_toArray, List.set_cons_zero, List.set_cons_succ]
                refine wpE_step' 8 (of_decide_eq_true (by kernel_rfl)) (by kernel_rfl) (by kernel_rfl) (fun K hK => ?_)
                simp only [List.getElem_toArray, List.getElem_cons_succ, List.getElem_cons_zero]
                refine app_wp _ (.tmp 69) (.tmp 75) _ rfl w0.heap.size 3 i0 _ 1 8 Try.underlying23 hi0 hz0 hz1 hz2 rfl (by omega) (.slice A1 L.length c1) L.length (L.map (Value.int .i64)) rfl hPa.o1 (some ⟨w6.heap.size, 0, none⟩) 1 _ [.int .i64 21] rfl rfl (NewsAt.block (cs := #[.int .i64 21]) hnew) (by simp [Value.oneCell']) (by omega) (by omega) hsza ?_
                intro A5 c5 w7 hown5 hg5 hat5
                have hown6 := ownI_one hown5
                have hat6 := hatI_len 21 hat5
                obtain ⟨z0, z1, zf, hP7⟩ := hPa.app1 hg5 hown6 hat6
                replace hP7 := pr_len1 (List.length_append) hP7
                have HP7 := hide hP7
                clear hown5 hown6 hat5 hat6 hP7 hg5
                refine hK.out _ _ (.inr ⟨z0, z1⟩) ?_
                clear hK K
                simp only [Act.put, List.setIfInBounds_toArray, List.set_cons_zero, List.set_cons_succ]
                have hS0 : w7.cell? ⟨P, 0, none⟩ = some (.slice A1 L.length c1) ∧ w7.cell? ⟨P, 1, none⟩ = some (.slice A2 F.length c2) := ⟨z0, z1⟩
                refine wpE_take' (v := ?_) 9 [10] (of_decide_eq_true (by kernel_rfl)) (by kernel_rfl) (by kernel_rfl) (by kernel_rfl) (by kernel_rfl) (fun _ _ _ h => h) (by kernel_rfl) ?_ hS0 ?_
                rotate_left
                · intro w' hSw
                  simp only [List.getElem_toArray, List.getElem_cons_succ, List.getElem_cons_zero]
                  go_simp
                  all_goals with_reducible rfl
                simp only [List.getElem_toArray, List.getElem_cons_succ, List.getElem_cons_zero, Act.put, List.setIfInBounds_toArray, List.set_cons_zero, List.set_cons_succ]
                refine wpE_step' 10 (of_decide_eq_true (by kernel_rfl)) (by kernel_rfl) (by kernel_rfl) (fun K hK => ?_)
                simp only [List.getElem_toArray, List.getElem_cons_succ, List.getElem_cons_zero]
                go_simp
                refine hK.out _ _ (.inl rfl) ?_
                clear hK K
                simp only [Act.put, List.setIfInBounds_toArray, List.set_cons_zero, List.set_cons_succ]
                refine wpE_done (by kernel_rfl) ?_ _
                have hP9 := HP7.out
                clear hS0 z0 z1 zf HP7 hPa hnew hsza hP6 q0 q1
                simp only [List.length_singleton] at hP9
                have hL9 : (L ++ [(21 : Int)]).length ≤ 7 := by simp; omega
                generalize w7.setCell ⟨P, 0, none⟩ (.slice A5 (L.length + 1) c5) = w9 at hP9 ⊢
                generalize L ++ [(21 : Int)] = L9 at hP9 hL9
                generalize A5 = A9 at hP9 ⊢
                generalize c5 = c9 at hP9 ⊢
                have f1 := hP9.f1
                have hPb := hP9.alloc (.cells #[.int .i64 0] 3)
                have hsza := hPb.gr.size
                have g1 := hPb.f1
                go_wp2_with (at_builtin; refine app_list _ rfl (.tmp 79) (.tmp 80) _ rfl w0.heap.size 3 i0 _ 1 8 Try.underlying23 hi0 hz0 hz1 hz2 rfl (by omega) (.slice A2 F.length c2) F.length (F.map (Value.int .i64)) rfl hPb.o2 _ 1 _ [.int .i64 0] rfl rfl (NewsAt.block (cs := #[.int .i64 0]) (at_new rfl)) (by simp [Value.oneCell']) (by omega) (by omega) hsza ?_; intro A5 c5 w7 hown5 hg5 hat5; have hown6 := ownI_one hown5; have hat6 := hatI_len 0 hat5; obtain ⟨z0, z1, zf, hP7⟩ := hPb.app2 hg5 hown6 hat6; replace hP7 := pr_len2 (List.length_append) hP7; have HP7 := hide hP7; clear hown5 hown6 hat5 hat6 hP7 hg5)
                have hP10 := HP7.out
                simp only [List.length_singleton] at hP10
                go_meet
                case rel => exact ⟨A9, c9, L9, A5, c5, F ++ [0], hL9, by simp; omega, hP10.more (by omega)⟩
            · simp only [List.getElem_toArray, List.getElem_cons_succ, List.getElem_cons_zero]
              go_simp
              go_at_call 44
              refine (pick_pr2 2 _ hPd (by omega) (by omega)).mono ?_
              rintro e w5 ⟨v4, rfl, b1, b2, hP5, hG6, hs5⟩
              replace b2 := b2 (by omega)
              refine hK.out _ _ (.inr ⟨hP5.f0, hP5.f1⟩) ?_
              clear hK K
              simp only [Act.put, List.setIfInBounds_toArray, List.set_cons_zero, List.set_cons_succ]
              refine wpE_step' 2 (of_decide_eq_true (by kernel_rfl)) (by kernel_rfl) (by kernel_rfl) (fun K hK => ?_)
              simp only [List.getElem_toArray, List.getElem_cons_succ, List.getElem_cons_zero]
              go_simp
              have hP6 := hP5.alloc (.cells #[.int .i64 0, .int .i64 21] 3)
              have q0 : (w5.alloc (.cells #[.int .i64 0, .int .i64 21] 3)).cell? ⟨w5.heap.size, 0, none⟩ = some (.int .i64 0) := by simp [go_sem]
              have q1 : (w5.alloc (.cells #[.int .i64 0, .int .i64 21] 3)).cell? ⟨w5.heap.size, 1, none⟩ = some (.int .i64 21) := by simp [go_sem]
              refine hK.out _ _ (.inr ⟨hP6.f0, hP6.f1⟩) ?_
              clear hK K
              simp only [Act.put, List.setIfInBounds_toArray, List.set_cons_zero, List.set_cons_succ]
              have hv4 : v4 = 0 ∨ v4 = 1 := by omega
              generalize w5.alloc (.cells #[.int .i64 0, .int .i64 21] 3) = w6 at hP6 q0 q1 ⊢
              rw [show w5.heap.size = wr.heap.size by simpa using hs5] at q0 q1
              generalize wr.heap.size = qb at q0 q1 ⊢
              clear hP hPd hP5 hG6 hs5 f0 f1 b1 b2
              rcases hv4 with rfl | rfl
              · skip
                clear hS0
                have hS0 : w6.cell? ⟨P, 0, none⟩ = some (.slice A1 L.length c1) ∧ w6.cell? ⟨P, 1, none⟩ = some (.slice A2 F.length c2) := ⟨hP6.f0, hP6.f1⟩
                refine wpE_take' (v := ?_) 5 [10] (of_decide_eq_true (by kernel_rfl)) (by kernel_rfl) (by kernel_rfl) (by kernel_rfl) (by kernel_rfl) (fun _ _ _ h => h) (by kernel_rfl) ?_ hS0 ?_
                rotate_left
                · intro w' hSw
                  simp only [List.getElem_toArray, List.getElem_cons_succ, List.getElem_cons_zero]
                  go_simp
                  all_goals with_reducible rfl
                simp only [List.getElem_toArray, List.getElem_cons_succ, List.getElem_cons_zero, Act.put, List.setIfInBounds_toArray, List.set_cons_zero, List.set_cons_succ]
                clear hS0
                refine wpE_step' 6 (of_decide_eq_true (by kernel_rfl)) (by kernel_rfl) (by kernel_rfl) (fun K hK => ?_)
                simp only [List.getElem_toArray, List.getElem_cons_succ, List.getElem_cons_zero]
                go_simp
                refine hK.out _ _ (.inr ⟨hP6.f0, hP6.f1⟩) ?_
                clear hK K
                simp only [Act.put, List.setIfInBounds_toArray, List.set_cons_zero, List.set_cons_succ]
                have hPa := hP6.alloc (.cells #[.int .i64 0] 3)
                have hnew : (w6.alloc (.cells #[.int .i64 0] 3)).heap[w6.heap.size]? = some (.cells #[.int .i64 0] 3 (0, 0)) := at_new rfl
                have hsza := hPa.gr.size
                refine wpE_step' 7 (of_decide_eq_true (by kernel_rfl)) (by kernel_rfl) (by kernel_rfl) (fun K hK => ?_)
                simp only [List.getElem_toArray, List.getElem_cons_succ, List.getElem_cons_zero]
                go_simp
                refine hK.out _ _ (.inr ⟨hPa.f0, hPa.f1⟩) ?_
                clear hK K
                simp only [Act.put, List.setIfInBounds_toArray, List.set_cons_zero, List.set_cons_succ]
                refine wpE_step' 8 (of_decide_eq_true (by kernel_rfl)) (by kernel_rfl) (by kernel_rfl) (fun K hK => ?_)
                simp only [List.getElem_toArray, List.getElem_cons_succ, List.getElem_cons_zero]
                refine app_wp _ (.tmp 69) (.tmp 75) _ rfl w0.heap.size 3 i0 _ 1 8 Try.underlying23 hi0 hz0 hz1 hz2 rfl (by omega) (.slice A1 L.length c1) L.length (L.map (Value.int .i64)) rfl hPa.o1 (some ⟨w6.heap.size, 0, none⟩) 1 _ [.int .i64 0] rfl rfl (NewsAt.block (cs := #[.int .i64 0]) hnew) (by simp [Value.oneCell']) (by omega) (by omega) hsza ?_
                intro A5 c5 w7 hown5 hg5 hat5
                have hown6 := ownI_one hown5
                have hat6 := hatI_len 0 hat5
                obtain ⟨z0, z1, zf, hP7⟩ := hPa.app1 hg5 hown6 hat6
                replace hP7 := pr_len1 (List.length_append) hP7
                have HP7 := hide hP7
                clear hown5 hown6 hat5 hat6 hP7 hg5
                refine hK.out _ _ (.inr ⟨z0, z1⟩) ?_
                clear hK K
                simp only [Act.put, List.setIfInBounds_toArray, List.set_cons_zero, List.set_cons_succ]
                have hS0 : w7.cell? ⟨P, 0, none⟩ = some (.slice A1 L.length c1) ∧ w7.cell? ⟨P, 1, none⟩ = some (.slice A2 F.length c2) := ⟨z0, z1⟩
                refine wpE_take' (v := ?_) 9 [10] (of_decide_eq_true (by kernel_rfl)) (by kernel_rfl) (by kernel_rfl) (by kernel_rfl) (by kernel_rfl) (fun _ _ _ h => h) (by kernel_rfl) ?_ hS0 ?_
                rotate_left
                · intro w' hSw
                  simp only [List.getElem_toArray, List.getElem_cons_succ, List.getElem_cons_zero]
                  go_simp
                  all_goals with_reducible rfl
                simp only [List.getElem_toArray, List.getElem_cons_succ, List.getElem_cons_zero, Act.put, List.setIfInBounds_toArray, List.set_cons_zero, List.set_cons_succ]
                refine wpE_step' 10 (of_decide_eq_true (by kernel_rfl)) (by kernel_rfl) (by kernel_rfl) (fun K hK => ?_)
                simp only [List.getElem_toArray, List.getElem_cons_succ, List.getElem_cons_zero]
                go_simp
                refine hK.out _ _ (.inl rfl) ?_
                clear hK K
                simp only [Act.put, List.setIfInBounds_toArray, List.set_cons_zero, List.set_cons_succ]
                refine wpE_done (by kernel_rfl) ?_ _
                have hP9 := HP7.out
                clear hS0 z0 z1 zf HP7 hPa hnew hsza hP6 q0 q1
                simp only [List.length_singleton] at hP9
                have hL9 : (L ++ [(0 : Int)]).length ≤ 7 := by simp; omega
                generalize w7.setCell ⟨P, 0, none⟩ (.slice A5 (L.length + 1) c5) = w9 at hP9 ⊢
                generalize L ++ [(0 : Int)] = L9 at hP9 hL9
                generalize A5 = A9 at hP9 ⊢
                generalize c5 = c9 at hP9 ⊢
                have f1 := hP9.f1
                have hPb := hP9.alloc (.cells #[.int .i64 0] 3)
                have hsza := hPb.gr.size
                have g1 := hPb.f1
                go_wp2_with (at_builtin; refine app_list _ rfl (.tmp 79) (.tmp 80) _ rfl w0.heap.size 3 i0 _ 1 8 Try.underlying23 hi0 hz0 hz1 hz2 rfl (by omega) (.slice A2 F.length c2) F.length (F.map (Value.int .i64)) rfl hPb.o2 _ 1 _ [.int .i64 0] rfl rfl (NewsAt.block (cs := #[.int .i64 0]) (at_new rfl)) (by simp [Value.oneCell']) (by omega) (by omega) hsza ?_; intro A5 c5 w7 hown5 hg5 hat5; have hown6 := ownI_one hown5; have hat6 := hatI_len 0 hat5; obtain ⟨z0, z1, zf, hP7⟩ := hPb.app2 hg5 hown6 hat6; replace hP7 := pr_len2 (List.length_append) hP7; have HP7 := hide hP7; clear hown5 hown6 hat5 hat6 hP7 hg5)
                have hP10 := HP7.out
                simp only [List.length_singleton] at hP10
                go_meet
                case rel => exact ⟨A9, c9, L9, A5, c5, F ++ [0], hL9, by simp; omega, hP10.more (by omega)⟩
              · skip
                clear hS0
                have hS0 : w6.cell? ⟨P, 0, none⟩ = some (.slice A1 L.length c1) ∧ w6.cell? ⟨P, 1, none⟩ = some (.slice A2 F.length c2) := ⟨hP6.f0, hP6.f1⟩
                refine wpE_take' (v := ?_) 5 [10] (of_decide_eq_true (by kernel_rfl)) (by kernel_rfl) (by kernel_rfl) (by kernel_rfl) (by kernel_rfl) (fun _ _ _ h => h) (by kernel_rfl) ?_ hS0 ?_
                rotate_left
                · intro w' hSw
                  simp only [List.getElem_toArray, List.getElem_cons_succ, List.getElem_cons_zero]
                  go_simp
                  all_goals with_reducible rfl
                simp only [List.getElem_toArray, List.getElem_cons_succ, List.getElem_cons_zero, Act.put, List.setIfInBounds_toArray, List.set_cons_zero, List.set_cons_succ]
                clear hS0
                refine wpE_step' 6 (of_decide_eq_true (by kernel_rfl)) (by kernel_rfl) (by kernel_rfl) (fun K hK => ?_)
                simp only [List.getElem_toArray, List.getElem_cons_succ, List.getElem_cons_zero]
                go_simp
                refine hK.out _ _ (.inr ⟨hP6.f0, hP6.f1⟩) ?_
                clear hK K
                simp only [Act.put, List.setIfInBounds_toArray, List.set_cons_zero, List.set_cons_succ]
                have hPa := hP6.alloc (.cells #[.int .i64 21] 3)
                have hnew : (w6.alloc (.cells #[.int .i64 21] 3)).heap[w6.heap.size]? = some (.cells #[.int .i64 21] 3 (0, 0)) := at_new rfl
                have hsza := hPa.gr.size
                refine wpE_step' 7 (of_decide_eq_true (by kernel_rfl)) (by kernel_rfl) (by kernel_rfl) (fun K hK => ?_)
                simp only [List.getElem_toArray, List.getElem_cons_succ, List.getElem_cons_zero]
                go_simp
                refine hK.out _ _ (.inr ⟨hPa.f0, hPa.f1⟩) ?_
                clear hK K
                simp only [Act.put, List.setIfInBounds_toArray, List.set_cons_zero, List.set_cons_succ]
                refine wpE_step' 8 (of_decide_eq_true (by kernel_rfl)) (by kernel_rfl) (by kernel_rfl) (fun K hK => ?_)
                simp only [List.getElem_toArray, List.getElem_cons_succ, List.getElem_cons_zero]
                refine app_wp _ (.tmp 69) (.tmp 75) _ rfl w0.heap.size 3 i0 _ 1 8 Try.underlying23 hi0 hz0 hz1 hz2 rfl (by omega) (.slice A1 L.length c1) L.length (L.map (Value.int .i64)) rfl hPa.o1 (some ⟨w6.heap.size, 0, none⟩) 1 _ [.int .i64 21] rfl rfl (NewsAt.block (cs := #[.int .i64 21]) hnew) (by simp [Value.oneCell']) (by omega) (by omega) hsza ?_
                intro A5 c5 w7 hown5 hg5 hat5
                have hown6 := ownI_one hown5
                have hat6 := hatI_len 21 hat5
                obtain ⟨z0, z1, zf, hP7⟩ := hPa.app1 hg5 hown6 hat6
                replace hP7 := pr_len1 (List.length_append) hP7
                have HP7 := hide hP7
                clear hown5 hown6 hat5 hat6 hP7 hg5
                refine hK.out _ _ (.inr ⟨z0, z1⟩) ?_
                clear hK K
                simp only [Act.put, List.setIfInBounds_toArray, List.set_cons_zero, List.set_cons_succ]
                have hS0 : w7.cell? ⟨P, 0, none⟩ = some (.slice A1 L.length c1) ∧ w7.cell? ⟨P, 1, none⟩ = some (.slice A2 F.length c2) := ⟨z0, z1⟩
                refine wpE_take' (v := ?_) 9 [10] (of_decide_eq_true (by kernel_rfl)) (by kernel_rfl) (by kernel_rfl) (by kernel_rfl) (by kernel_rfl) (fun _ _ _ h => h) (by kernel_rfl) ?_ hS0 ?_
                rotate_left
                · intro w' hSw
                  simp only [List.getElem_toArray, List.getElem_cons_succ, List.getElem_cons_zero]
                  go_simp
                  all_goals with_reducible rfl
                simp only [List.getElem_toArray, List.getElem_cons_succ, List.getElem_cons_zero, Act.put, List.setIfInBounds_toArray, List.set_cons_zero, List.set_cons_succ]
                refine wpE_step' 10 (of_decide_eq_true (by kernel_rfl)) (by kernel_rfl) (by kernel_rfl) (fun K hK => ?_)
                simp only [List.getElem_toArray, List.getElem_cons_succ, List.getElem_cons_zero]
                go_simp
                refine hK.out _ _ (.inl rfl) ?_
                clear hK K
                simp only [Act.put, List.setIfInBounds_toArray, List.set_cons_zero, List.set_cons_succ]
                refine wpE_done (by kernel_rfl) ?_ _
                have hP9 := HP7.out
                clear hS0 z0 z1 zf HP7 hPa hnew hsza hP6 q0 q1
                simp only [List.length_singleton] at hP9
                have hL9 : (L ++ [(21 : Int)]).length ≤ 7 := by simp; omega
                generalize w7.setCell ⟨P, 0, none⟩ (.slice A5 (L.length + 1) c5) = w9 at hP9 ⊢
                generalize L ++ [(21 : Int)] = L9 at hP9 hL9
                generalize A5 = A9 at hP9 ⊢
                generalize c5 = c9 at hP9 ⊢
                have f1 := hP9.f1
                have hPb := hP9.alloc (.cells #[.int .i64 0] 3)
                have hsza := hPb.gr.size
                have g1 := hPb.f1
                go_wp2_with (at_builtin; refine app_list _ rfl (.tmp 79) (.tmp 80) _ rfl w0.heap.size 3 i0 _ 1 8 Try.underlying23 hi0 hz0 hz1 hz2 rfl (by omega) (.slice A2 F.length c2) F.length (F.map (Value.int .i64)) rfl hPb.o2 _ 1 _ [.int .i64 0] rfl rfl (NewsAt.block (cs := #[.int .i64 0]) (at_new rfl)) (by simp [Value.oneCell']) (by omega) (by omega) hsza ?_; intro A5 c5 w7 hown5 hg5 hat5; have hown6 := ownI_one hown5; have hat6 := hatI_len 0 hat5; obtain ⟨z0, z1, zf, hP7⟩ := hPb.app2 hg5 hown6 hat6; replace hP7 := pr_len2 (List.length_append) hP7; have HP7 := hide hP7; clear hown5 hown6 hat5 hat6 hP7 hg5)
                have hP10 := HP7.out
                simp only [List.length_singleton] at hP10
                go_meet
                case rel => exact ⟨A9, c9, L9, A5, c5, F ++ [0], hL9, by simp; omega, hP10.more (by omega)⟩
          · have h11 : (v3 == 1) = false := by simpa using h1
            obtain ⟨q1, q2⟩ := two_pow (i := L.length) (by omega)
            obtain ⟨M, hM⟩ : ∃ M, (2 : Int) ^ L.length = M := ⟨_, rfl⟩
            rw [hM] at q1 q2
            have hw1 : IntKind.i64.wrap M = M := IntWalk.i64_in _ (by omega)
            have hk0 : ¬ (L.length : Int) < 0 := by omega
            have hk64 : (L.length : Int) < 64 := by omega
            clear h0 h1
            go_upto_region 9 with fail
            clear h00 h11
            refine wp_regionE (fun w' => w'.cell? ⟨P, 0, none⟩ = some (.slice A1 L.length c1) ∧ w'.cell? ⟨P, 1, none⟩ = some (.slice A2 F.length c2)) 9 (by kernel_rfl) ?_
            change wpE _ _ _ _ _ _ 10 #[false, false, false, false, false, false, false, false, false, false] _ _
            have hS0 : wr.drew.cell? ⟨P, 0, none⟩ = some (.slice A1 L.length c1) ∧ wr.drew.cell? ⟨P, 1, none⟩ = some (.slice A2 F.length c2) := ⟨f0, f1⟩
            refine wpE_take' (v := ?_) 0 [9] (of_decide_eq_true (by kernel_rfl)) (by kernel_rfl) (by kernel_rfl) (by kernel_rfl) (by kernel_rfl) (fun _ _ _ h => h) (by kernel_rfl) ?_ hS0 ?_
            rotate_left
            · intro w' hSw
              simp only [List.getElem_toArray, List.getElem_cons_succ, List.getElem_cons_zero]
              go_simp
              all_goals with_reducible rfl
            simp only [List.getElem_toArray, List.getElem_cons_succ, List.getElem_cons_zero, Act.put, List.setIfInBounds_toArray, List.set_cons_zero, List.set_cons_succ]
            refine wpE_take' (v := ?_) 1 [9] (of_decide_eq_true (by kernel_rfl)) (by kernel_rfl) (by kernel_rfl) (by kernel_rfl) (by kernel_rfl) (fun _ _ _ h => h) (by kernel_rfl) ?_ hS0 ?_
            rotate_left
            · intro w' hSw
              simp only [List.getElem_toArray, List.getElem_cons_succ, List.getElem_cons_zero]
              go_simp
              all_goals with_reducible rfl
            simp only [List.getElem_toArray, List.getElem_cons_succ, List.getElem_cons_zero, Act.put, List.setIfInBounds_toArray, List.set_cons_zero, List.set_cons_succ]
            refine wpE_take' (v := ?_) 2 [9] (of_decide_eq_true (by kernel_rfl)) (by kernel_rfl) (by kernel_rfl) (by kernel_rfl) (by kernel_rfl) (fun _ _ _ h => h) (by kernel_rfl) ?_ hS0 ?_
            rotate_left
            · intro w' hSw
              simp only [List.getElem_toArray, List.getElem_cons_succ, List.getElem_cons_zero]
              go_simp
              all_goals with_reducible rfl
            simp only [List.getElem_toArray, List.getElem_cons_succ, List.getElem_cons_zero, Act.put, List.setIfInBounds_toArray, List.set_cons_zero, List.set_cons_succ]
            refine wpE_take' (v := ?_) 3 [9] (of_decide_eq_true (by kernel_rfl)) (by kernel_rfl) (by kernel_rfl) (by kernel_rfl) (by kernel_rfl) (fun _ _ _ h => h) (by kernel_rfl) ?_ hS0 ?_
            rotate_left
            · intro w' hSw
              simp only [List.getElem_toArray, List.getElem_cons_succ, List.getElem_cons_zero]
              go_simp
              all_goals with_reducible rfl
            simp only [List.getElem_toArray, List.getElem_cons_succ, List.getElem_cons_zero, Act.put, List.setIfInBounds_toArray, List.set_cons_zero, List.set_cons_succ]
            refine wpE_take' (v := ?_) 4 [9] (of_decide_eq_true (by kernel_rfl)) (by kernel_rfl) (by kernel_rfl) (by kernel_rfl) (by kernel_rfl) (fun _ _ _ h => h) (by kernel_rfl) ?_ hS0 ?_
            rotate_left
            · intro w' hSw
              simp only [List.getElem_toArray, List.getElem_cons_succ, List.getElem_cons_zero]
              go_simp
              all_goals with_reducible rfl
            simp only [List.getElem_toArray, List.getElem_cons_succ, List.getElem_cons_zero, Act.put, List.setIfInBounds_toArray, List.set_cons_zero, List.set_cons_succ]
            refine wpE_take' (v := ?_) 5 [9] (of_decide_eq_true (by kernel_rfl)) (by kernel_rfl) (by kernel_rfl) (by kernel_rfl) (by kernel_rfl) (fun _ _ _ h => h) (by kernel_rfl) ?_ hS0 ?_
            rotate_left
            · intro w' hSw
              simp only [List.getElem_toArray, List.getElem_cons_succ, List.getElem_cons_zero]
              go_simp
              all_goals with_reducible rfl
            simp only [List.getElem_toArray, List.getElem_cons_succ, List.getElem_cons_zero, Act.put, List.setIfInBounds_toArray, List.set_cons_zero, List.set_cons_succ]
            have hPa := (hP.alloc (.cells #[.int .i64 M] 3)).drew
            have hnew : (wr.alloc (.cells #[.int .i64 M] 3)).drew.heap[wr.heap.size]? = some (.cells #[.int .i64 M] 3 (0, 0)) := at_new (w := wr) rfl
            have hsza := hPa.gr.size
            refine wpE_step' 6 (of_decide_eq_true (by kernel_rfl)) (by kernel_rfl) (by kernel_rfl) (fun K hK => ?_)
            simp only [List.getElem_toArray, List.getElem_cons_succ, List.getElem_cons_zero]
            go_simp
            refine hK.out _ _ (.inr ⟨hPa.f0, hPa.f1⟩) ?_
            clear hK K hS0
            simp only [Act.put, List.setIfInBounds_toArray, List.set_cons_zero, List.set_cons_succ]
            refine wpE_step' 7 (of_decide_eq_true (by kernel_rfl)) (by kernel_rfl) (by kernel_rfl) (fun K hK => ?_)
            simp only [List.getElem_toArray, List.getElem_cons_succ, List.getElem_cons_zero]
            refine app_wp _ (.tmp 46) (.tmp 51) _ rfl w0.heap.size 3 i0 _ 1 8 Try.underlying23 hi0 hz0 hz1 hz2 rfl (by omega) (.slice A2 F.length c2) F.length (F.map (Value.int .i64)) rfl hPa.o2 (some ⟨wr.heap.size, 0, none⟩) 1 _ [.int .i64 M] rfl rfl (NewsAt.block (cs := #[.int .i64 M]) hnew) (by simp [Value.oneCell']) (by omega) (by omega) hsza ?_
            intro A5 c5 w7 hown5 hg5 hat5
            have hown6 := ownI_one hown5
            have hat6 := hatI_len M hat5
            obtain ⟨z0, z1, zf, hP7⟩ := hPa.app2 hg5 hown6 hat6
            replace hP7 := pr_len2 (List.length_append) hP7
            have HP7 := hide hP7
            clear hown5 hown6 hat5 hat6 hP7 hg5
            refine hK.out _ _ (.inr ⟨z0, z1⟩) ?_
            clear hK K
            simp only [Act.put, List.setIfInBounds_toArray, List.set_cons_zero, List.set_cons_succ]
            have hS0 : w7.cell? ⟨P, 0, none⟩ = some (.slice A1 L.length c1) ∧ w7.cell? ⟨P, 1, none⟩ = some (.slice A2 F.length c2) := ⟨z0, z1⟩
            refine wpE_take' (v := ?_) 8 [9] (of_decide_eq_true (by kernel_rfl)) (by kernel_rfl) (by kernel_rfl) (by kernel_rfl) (by kernel_rfl) (fun _ _ _ h => h) (by kernel_rfl) ?_ hS0 ?_
            rotate_left
            · intro w' hSw
              simp only [List.getElem_toArray, List.getElem_cons_succ, List.getElem_cons_zero]
              go_simp
              all_goals with_reducible rfl
            simp only [List.getElem_toArray, List.getElem_cons_succ, List.getElem_cons_zero, Act.put, List.setIfInBounds_toArray, List.set_cons_zero, List.set_cons_succ]
            refine wpE_step' 9 (of_decide_eq_true (by kernel_rfl)) (by kernel_rfl) (by kernel_rfl) (fun K hK => ?_)
            simp only [List.getElem_toArray, List.getElem_cons_succ, List.getElem_cons_zero]
            go_simp
            refine hK.out _ _ (.inl rfl) ?_
            clear hK K
            simp only [Act.put, List.setIfInBounds_toArray, List.set_cons_zero, List.set_cons_succ]
            refine wpE_done (by kernel_rfl) ?_ _
            have hP9 := HP7.out
            clear hS0 z0 z1 zf HP7 hPa hnew hsza hM hw1 hk0 hk64 q1 q2 hP hPd f0 f1
            simp only [List.length_singleton] at hP9
            have hF9 : (F ++ [M]).length ≤ 7 := by simp; omega
            generalize w7.setCell ⟨P, 1, none⟩ (.slice A5 (F.length + 1) c5) = w9 at hP9 ⊢
            generalize F ++ [M] = F9 at hP9 hF9
            generalize A5 = A9 at hP9 ⊢
            generalize c5 = c9 at hP9 ⊢
            have f0 := hP9.f0
            have hPb := hP9.alloc (.cells #[.int .i64 1] 3)
            have hsza := hPb.gr.size
            have g0 := hPb.f0
            go_wp2_with (at_builtin; refine app_list _ rfl (.tmp 55) (.tmp 56) _ rfl w0.heap.size 3 i0 _ 1 8 Try.underlying23 hi0 hz0 hz1 hz2 rfl (by omega) (.slice A1 L.length c1) L.length (L.map (Value.int .i64)) rfl hPb.o1 _ 1 _ [.int .i64 1] rfl rfl (NewsAt.block (cs := #[.int .i64 1]) (at_new rfl)) (by simp [Value.oneCell']) (by omega) (by omega) hsza ?_; intro A5 c5 w7 hown5 hg5 hat5; have hown6 := ownI_one hown5; have hat6 := hatI_len 1 hat5; obtain ⟨z0, z1, zf, hP7⟩ := hPb.app1 hg5 hown6 hat6; replace hP7 := pr_len1 (List.length_append) hP7; have HP7 := hide hP7; clear hown5 hown6 hat5 hat6 hP7 hg5)
            have hP10 := HP7.out
            simp only [List.length_singleton] at hP10
            go_meet
            case rel => exact ⟨A5, c5, L ++ [1], A9, c9, F9, by simp; omega, hF9, hP10.more (by omega)⟩
    case rest =>
      clear hQ
      obtain ⟨A1, c1, L, A2, c2, F, hL7, hF7, hP⟩ := hcut
      have hgz : w.heap.size ≠ g := by omega
      have z0 := far_cell hP.gr Hz0.out hgz
      have z1 := far_cell hP.gr Hz1.out hgz
      have zf0 := far_frozen hP.gr (Hzf.out 0) hzs hgz
      have zf1 := far_frozen hP.gr (Hzf.out 1) hzs hgz
      have f0 := hP.f0
      have f1 := hP.f1
      obtain ⟨r0, r1⟩ := two_cells (a := .slice A1 L.length c1) (b := .slice A2 F.length c2) z0 z1
      have o1 := own_less (own_set_low (own_set_low hP.o1 (p := ⟨w.heap.size, 0, none⟩) (by dsimp only; omega) (.slice A1 L.length c1)) (p := ⟨w.heap.size, 1, none⟩) (by dsimp only; omega) (.slice A2 F.length c2)) (Nat.le_of_lt hzs)
      have o2 := own_less (own_set_low (own_set_low hP.o2 (p := ⟨w.heap.size, 0, none⟩) (by dsimp only; omega) (.slice A1 L.length c1)) (p := ⟨w.heap.size, 1, none⟩) (by dsimp only; omega) (.slice A2 F.length c2)) (Nat.le_of_lt hzs)
      have hR9 := (hP.rd.set ⟨w.heap.size, 0, none⟩ (by dsimp only; omega) (.slice A1 L.length c1)).set ⟨w.heap.size, 1, none⟩ (by dsimp only; omega) (.slice A2 F.length c2)
      have hG9 := gr_set (gr_set (gr_pick hGz hP.gr) ⟨w.heap.size, 0, none⟩ (.inl (Nat.le_refl _)) (.slice A1 L.length c1)) ⟨w.heap.size, 1, none⟩ (.inl (Nat.le_refl _)) (.slice A2 F.length c2)
      have hn := hP.n12
      have Hn := hide hn
      clear hP hn
      go_wp2_with fail
      refine bodyPost_ret (v := .agg #[.slice A1 L.length c1, .slice A2 F.length c2]) (by simp [results, Try.results43, go_sem, r0, r1]) rfl ?_
      exact ⟨A1, c1, L, A2, c2, F, rfl, hL7, hF7, o1, o2, Hn.out, hR9.more (by omega), hG9⟩
end Go.Proofs.Ytmgikoaeomieeaa
