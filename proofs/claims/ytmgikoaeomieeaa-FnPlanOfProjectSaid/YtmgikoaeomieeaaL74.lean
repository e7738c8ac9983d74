/-
  impl: the plan of a project.
-/
import Derived.Test.YtmgikoaeomieeaaL60
import Derived.Test.YtmgikoaeomieeaaL1b
import Derived.Test.YtmgikoaeomieeaaP40
import Derived.Test.YtmgikoaeomieeaaR61
namespace Go.Proofs.Ytmgikoaeomieeaa
set_option linter.unusedVariables false
set_option linter.unusedSimpArgs false
open Go.RowKit Pp

/-- What PlanOfProject returns. -/
def planV (L F : List Int) : Pl × Bool := if projOk L F && decide (L.length ≤ 4) then (prPlan L F, true) else (⟨0, []⟩, false)
def bdN (i : Nat) : Bd := ⟨(i : Int) + 1, 0, 0⟩
def bdK (L : List Int) (i k : Nat) : Bd := ⟨(i : Int) + 1, (k : Int) + 1, -L.getD k 0⟩
def bdE (L : List Int) (i : Nat) : Bd := ⟨(L.length : Int) + 1, (i : Int) + 1, -L.getD i 0⟩
theorem prB_len4 (L F : List Int) {i : Nat} (hi : i ≤ 4) : (prB L F i).length ≤ 14 := (prB_len L F hi).1

theorem hat_len {A5 : Option Addr} {c5 k : Nat} {bs : List Bd} {X : Option Nat} (b : Bd) (h : (Value.slice A5 (bs.length + 1) c5).ownBlock = X ∨ (Value.slice A5 (bs.length + 1) c5).ownBlock = some k) : (Value.slice A5 (bs ++ [b]).length c5).ownBlock = X ∨ (Value.slice A5 (bs ++ [b]).length c5).ownBlock = some k := by
  rw [List.length_append]; exact h
theorem pq_len {W w5 : World} {X n' c5 : Nat} {n : Int} {A5 : Option Addr} {bs : List Bd} (hl : bs.length = n') (h : PQ W (w5.setCell ⟨X, 1, none⟩ (.slice A5 bs.length c5)) X n A5 c5 bs) : PQ W (w5.setCell ⟨X, 1, none⟩ (.slice A5 n' c5)) X n A5 c5 bs := by subst hl; exact h
set_option maxHeartbeats 4000000 in
set_option maxRecDepth 100000 in
theorem planOfProject_q (L F : List Int) (q : Pl) (r : Bool) (hq : planV L F = (q, r)) (AL AF : Option Addr) (bl ol cl bf of' cf B : Nat) (w : World) (hll : L.length ≤ 2000000) (hlf : F.length ≤ 2000000) (hB : B ≤ w.heap.size) (hl : IntsR w B bl ol AL L) (hf : IntsR w B bf of' AF F) :
    Calls Try.prog 11 #[.agg #[.slice AL L.length cl, .slice AF F.length cf]] w fun e w' => ∃ A1 c1 g1, e = .returned (.tuple #[.agg #[.int .i64 q.n, .slice A1 q.bs.length c1], .bool r]) ∧ BdsR w' w'.heap.size g1 0 A1 q.bs ∧ OwnB w.heap.size w' (.slice A1 q.bs.length c1) q.bs ∧ Below w.heap.size w w' := by
  obtain ⟨i0, hi0, hz0, hz1, hz2⟩ := info_parts infoB
  have hD := (pj_new (t := 25) (cl := cl) (cf := cf) hB hl hf).alloc (.cells #[.int .i64 0, .slice none 0 0] 29)
  have hY : ZB w ((w.alloc (.cells #[.slice AL L.length cl, .slice AF F.length cf] 25)).alloc (.cells #[.int .i64 0, .slice none 0 0] 29)) (w.heap.size + 1) := zb_at (by simp) (by simp)
  clear hl hf hB
  by_cases hc : projOk L F = true ∧ L.length ≤ 4
  · obtain ⟨hp, h4⟩ := hc
    have hq2 : prPlan L F = q ∧ true = r := by unfold planV at hq; rw [hp, decide_eq_true h4] at hq; exact ⟨congrArg Prod.fst hq, congrArg Prod.snd hq⟩
    obtain ⟨hq1, rfl⟩ := hq2
    have Hq1 := hide hq1
    have hok := pr_ok hp h4
    have hto : toldP (prPlan L F) = prPlan L F := by unfold toldP; rw [if_pos hok]
    have hle := (projOk_iff.1 hp).2.1
    have h4z : ¬ (4 : Int) < (L.length : Int) := by omega
    have Hp := hide hp
    have Hle := hide hle
    have Hok := hide hok
    have Hto := hide hto
    have hn2 : IntKind.i64.wrap ((L.length : Int) + 2) = (L.length : Int) + 2 := IntWalk.i64_in _ (by omega)
    clear hp hle hok hto hq hq1
    go_enter Try.func11, Try.ntmps11
    go_upto_region 1 with fail
    generalize (w.alloc (.cells #[.slice AL L.length cl, .slice AF F.length cf] 25)).alloc (.cells #[.int .i64 0, .slice none 0 0] 29) = W at hD hY ⊢
    have p0 := hD.c0
    have p1 := hD.c1
    go_upto_region 4 with (go_at_call 45; go_fit (projectOk_c L F AL AF bl ol cl bf of' cf _ _ hll hlf (Nat.le_refl _) hD.rl hD.rf); rintro e w2 ⟨rfl, hb⟩; rw [Hp.out]; replace hY := hY.below hb; replace hD := hD.below hb; clear p0 p1; have p0 := hD.c0; have p1 := hD.c1)
    go_upto_region 5 with fail
    have hQ0 : PQ w2 (w2.alloc (.cells #[.int .i64 ((L.length : Int) + 2), .slice none 0 0] 29)) w2.heap.size ((L.length : Int) + 2) none 0 [] := pq_new (Below.refl _ _)
    clear p0 p1 hb
    generalize w2.alloc (.cells #[.int .i64 ((L.length : Int) + 2), .slice none 0 0] 29) = W1 at hQ0 ⊢
    generalize w2 = W at hD hY hQ0 ⊢
    generalize W.heap.size = X at hQ0 ⊢
    obtain ⟨N2, hN2⟩ : ∃ N2 : Int, (L.length : Int) + 2 = N2 := ⟨_, rfl⟩
    rw [hN2] at hQ0
    have HN2 := hide hN2
    clear hN2 hn2
    have p0 : W1.cell? ⟨w.heap.size, 0, none⟩ = some (.slice AL L.length cl) := (hD.below hQ0.bel).c0
    go_wp2_with fail
    clear p0
    go_loopg [26] L.length (fun gh s wr => ∃ (i : Nat) (bs : List Bd) (A1 : Option Addr) (c1 : Nat), i ≤ L.length ∧ gh = L.length - i ∧ s = .int .i64 i ∧ PQ W wr X N2 A1 c1 bs ∧ Hid (bs = prB L F i))
    case atStart => exact ⟨0, [], none, 0, Nat.zero_le _, rfl, rfl, hQ0, rfl⟩
    case round =>
      clear hQ0
      obtain ⟨i, bs, A1, c1, hi, rfl, rfl, hQ, HB⟩ := hrel
      by_cases hlt : i < L.length
      · have hlt' : (i : Int) < (L.length : Int) := by omega
        have hD1 := hD.below hQ.bel
        obtain rfl := hD1.rl.addr (by omega)
        have y0 := hD1.rl.cell i hlt
        have hbl := prB_len4 L F (show i ≤ 4 by omega)
        rw [← HB.out] at hbl
        obtain ⟨l, hl⟩ : ∃ l, L.getD i 0 = l := ⟨_, rfl⟩
        have hLi := long_at Hp.out hlt
        rw [hl] at y0 hLi
        have Hl := hide hl
        have x1 := hQ.c1
        have hQa := hQ.alloc (.cells #[.int .i64 ((i : Int) + 1), .int .i64 0, .int .i64 0] 63)
        have hsza := hQa.bel.size
        have x2 := hQa.c1
        clear hl hD1
        go_upto_region 9 with (at_builtin; refine app_list _ rfl (.tmp 32) (.tmp 36) _ rfl W.heap.size 63 i0 _ 3 24 Try.underlying27 hi0 hz0 hz1 hz2 rfl (by omega) (.slice A1 bs.length c1) bs.length (bdCs bs) rfl hQa.own (some ⟨wr.heap.size, 0, none⟩) 1 _ (bdCs [(⟨(i : Int) + 1, 0, 0⟩ : Bd)]) rfl rfl (NewsAt.block (cs := #[.int .i64 ((i : Int) + 1), .int .i64 (0), .int .i64 (0)]) (at_new rfl)) (bdCs_one _) (by omega) (by omega) hsza ?_; intro A5 c5 w5 hown5 hg5 hat5; have hown6 : OwnB W.heap.size w5 (.slice A5 (bs ++ [(⟨(i : Int) + 1, 0, 0⟩ : Bd)]).length c5) (bs ++ [(⟨(i : Int) + 1, 0, 0⟩ : Bd)]) := (by unfold OwnB; rw [bdCs_append, List.length_append]; exact hown5); have hat6 := hat_len (⟨(i : Int) + 1, 0, 0⟩ : Bd) hat5; obtain ⟨z0, z1, zf, hQ5, hb5⟩ := hQa.app hg5 hown6 hat6; have HQ5 := hide (pq_len (List.length_append) hQ5); clear hown5 hown6 hat5 hat6 hQ5 hg5)
        have HQ6 := HQ5.out
        have HB6 : Hid (bs ++ [(⟨(i : Int) + 1, 0, 0⟩ : Bd)] = prB L F i ++ [(⟨(i : Int) + 1, 0, 0⟩ : Bd)] ++ afB L F i 0) := by unfold Hid; rw [← HB.out]; simp [afB]
        have hbl6 : (bs ++ [(⟨(i : Int) + 1, 0, 0⟩ : Bd)]).length ≤ 15 := by simp; omega
        clear z0 z1 zf hb5 HQ5 hQa hsza x1 x2 y0 hQ
        simp only [List.length_singleton] at HQ6 ⊢
        generalize w5.setCell ⟨X, 1, none⟩ (.slice A5 (bs.length + 1) c5) = W6 at HQ6 ⊢
        generalize bs ++ [(⟨(i : Int) + 1, 0, 0⟩ : Bd)] = bs6 at HQ6 HB6 hbl6
        have hib : (i : Int) + 1 ≤ 5 := by omega
        go_wp2_with fail
        go_loopg [40] i (fun gh s wi => ∃ (k : Nat) (bs : List Bd) (A1 : Option Addr) (c1 : Nat), k ≤ i ∧ gh = i - k ∧ s = .int .i64 k ∧ PQ W wi X N2 A1 c1 bs ∧ bs.length ≤ 15 + k ∧ Hid (bs = prB L F i ++ [(⟨(i : Int) + 1, 0, 0⟩ : Bd)] ++ afB L F i k))
        case atStart => exact ⟨0, bs6, A5, c5, Nat.zero_le _, rfl, rfl, HQ6, hbl6, HB6.out⟩
        case round =>
          clear HQ6 HB6 hbl6 HB hbl
          obtain ⟨k, bs, A1, c1, hk, rfl, rfl, hQ, hbl, HB⟩ := hrel
          have hD1 := hD.below hQ.bel
          have p0 := hD1.c0
          have p1 := hD1.c1
          by_cases hki : k < i
          · have hki' : (k : Int) < (i : Int) := by omega
            have hkL : (k : Int) < (L.length : Int) := by omega
            have hbits := proj_bits Hp.out (show i < F.length by have := Hle.out; omega)
            cases ha : aft F i k
            · have HB2 : Hid (bs = prB L F i ++ [(⟨(i : Int) + 1, 0, 0⟩ : Bd)] ++ afB L F i (k + 1)) := by unfold Hid; rw [HB.out]; simp [afB, ha]
              have Ha := hide ha
              clear ha
              go_wp2_with (go_at_call 46; go_fit (after_c L F i k (by have := Hle.out; omega) (by omega) hbits _ AF bl ol cl bf of' cf _ _ hlf (Nat.le_refl _) hD1.rl hD1.rf); rintro e w5 ⟨rfl, hb5⟩; rw [Ha.out]; have hQ5 := hQ.below hb5; clear p0 p1 hQ)
              go_roundg (i - (k + 1))
              case measure => go_light; omega
              case rel => go_light; exact ⟨k + 1, bs, A1, c1, by omega, rfl, by go_num, hQ5, by omega, HB2⟩
            · have hLk := long_at Hp.out (show k < L.length by omega)
              have HB2 : Hid (bs ++ [(⟨(i : Int) + 1, (k : Int) + 1, -L.getD k 0⟩ : Bd)] = prB L F i ++ [(⟨(i : Int) + 1, 0, 0⟩ : Bd)] ++ afB L F i (k + 1)) := by unfold Hid; rw [HB.out]; simp [afB, ha]
              have Ha := hide ha
              clear ha
              go_upto_region 13 with (go_at_call 46; go_fit (after_c L F i k (by have := Hle.out; omega) (by omega) hbits _ AF bl ol cl bf of' cf _ _ hlf (Nat.le_refl _) hD1.rl hD1.rf); rintro e w5 ⟨rfl, hb5⟩; rw [Ha.out])
              have hQ5 := hQ.below hb5
              have hD5 := hD1.below hb5
              clear p0 p1 hQ hD1 hb5
              generalize w5 = wr at hQ5 hD5 ⊢
              have hbll := hD5.rl.lt (by omega)
              have hexX := hQ5.ex
              have hexD := hD5.ex
              obtain ⟨x0, x1⟩ : _ ∧ _ := ⟨hQ5.c0, hQ5.c1⟩
              have p0 := hD5.c0
              have y0 := hD5.rl.cell k (by omega)
              obtain ⟨lk, hlk⟩ : ∃ lk, L.getD k 0 = lk := ⟨_, rfl⟩
              rw [hlk] at y0 hLk HB2
              have Hlk := hide hlk
              clear hlk
              have hw1 : IntKind.i64.wrap ((i : Int) + 1) = (i : Int) + 1 := IntWalk.i64_in _ (by omega)
              have hw2 : IntKind.i64.wrap ((k : Int) + 1) = (k : Int) + 1 := IntWalk.i64_in _ (by omega)
              have hw3 : IntKind.i64.wrap (-lk) = -lk := IntWalk.i64_in _ (by omega)
              have hQa := (hQ5.alloc (.cells #[.int .i64 ((i : Int) + 1), .int .i64 ((k : Int) + 1), .int .i64 (-lk)] 63)).drew
              have hsza := hQa.bel.size
              have hbd : Below wr.heap.size wr (wr.alloc (.cells #[.int .i64 ((i : Int) + 1), .int .i64 ((k : Int) + 1), .int .i64 (-lk)] 63)).drew := by go_grown
              refine wp_regionE (fun w' => w'.cell? ⟨X, 0, none⟩ = some (.int .i64 N2) ∧ w'.cell? ⟨X, 1, none⟩ = some (.slice A1 bs.length c1) ∧ w'.cell? ⟨w.heap.size, 0, none⟩ = some (.slice (some ⟨bl, ol, none⟩) L.length cl) ∧ w'.cell? ⟨bl, ol + k, none⟩ = some (.int .i64 lk)) 16 (by kernel_rfl) ?_
              change wpE _ _ _ _ _ _ 17 #[false, false, false, false, false, false, false, false, false, false, false, false, false, false, false, false, false] _ _
              have hS0 : wr.drew.cell? ⟨X, 0, none⟩ = some (.int .i64 N2) ∧ wr.drew.cell? ⟨X, 1, none⟩ = some (.slice A1 bs.length c1) ∧ wr.drew.cell? ⟨w.heap.size, 0, none⟩ = some (.slice (some ⟨bl, ol, none⟩) L.length cl) ∧ wr.drew.cell? ⟨bl, ol + k, none⟩ = some (.int .i64 lk) := ⟨x0, x1, p0, y0⟩
              refine wpE_take' (v := ?_) 0 [16] (of_decide_eq_true (by kernel_rfl)) (by kernel_rfl) (by kernel_rfl) (by kernel_rfl) (by kernel_rfl) (fun _ _ _ h => h) (by kernel_rfl) ?_ hS0 ?_
              rotate_left
              · intro w' hSw
                simp only [List.getElem_toArray, List.getElem_cons_succ, List.getElem_cons_zero]
                go_simp
                all_goals with_reducible rfl
              simp only [List.getElem_toArray, List.getElem_cons_succ, List.getElem_cons_zero, Act.put, List.setIfInBounds_toArray, List.set_cons_zero, List.set_cons_succ]
              refine wpE_take' (v := ?_) 1 [16] (of_decide_eq_true (by kernel_rfl)) (by kernel_rfl) (by kernel_rfl) (by kernel_rfl) (by kernel_rfl) (fun _ _ _ h => h) (by kernel_rfl) ?_ hS0 ?_
              rotate_left
              · intro w' hSw
                simp only [List.getElem_toArray, List.getElem_cons_succ, List.getElem_cons_zero]
                go_simp
                all_goals with_reducible rfl
              simp only [List.getElem_toArray, List.getElem_cons_succ, List.getElem_cons_zero, Act.put, List.setIfInBounds_toArray, List.set_cons_zero, List.set_cons_succ]
              refine wpE_take' (v := ?_) 2 [16] (of_decide_eq_true (by kernel_rfl)) (by kernel_rfl) (by kernel_rfl) (by kernel_rfl) (by kernel_rfl) (fun _ _ _ h => h) (by kernel_rfl) ?_ hS0 ?_
              rotate_left
              · intro w' hSw
                simp only [List.getElem_toArray, List.getElem_cons_succ, List.getElem_cons_zero]
                go_simp
                all_goals with_reducible rfl
              simp only [List.getElem_toArray, List.getElem_cons_succ, List.getElem_cons_zero, Act.put, List.setIfInBounds_toArray, List.set_cons_zero, List.set_cons_succ]
              refine wpE_take' (v := ?_) 3 [16] (of_decide_eq_true (by kernel_rfl)) (by kernel_rfl) (by kernel_rfl) (by kernel_rfl) (by kernel_rfl) (fun _ _ _ h => h) (by kernel_rfl) ?_ hS0 ?_
              rotate_left
              · intro w' hSw
                simp only [List.getElem_toArray, List.getElem_cons_succ, List.getElem_cons_zero]
                go_simp
                all_goals with_reducible rfl
              simp only [List.getElem_toArray, List.getElem_cons_succ, List.getElem_cons_zero, Act.put, List.setIfInBounds_toArray, List.set_cons_zero, List.set_cons_succ]
              refine wpE_take' (v := ?_) 4 [16] (of_decide_eq_true (by kernel_rfl)) (by kernel_rfl) (by kernel_rfl) (by kernel_rfl) (by kernel_rfl) (fun _ _ _ h => h) (by kernel_rfl) ?_ hS0 ?_
              rotate_left
              · intro w' hSw
                simp only [List.getElem_toArray, List.getElem_cons_succ, List.getElem_cons_zero]
                go_simp
                all_goals with_reducible rfl
              simp only [List.getElem_toArray, List.getElem_cons_succ, List.getElem_cons_zero, Act.put, List.setIfInBounds_toArray, List.set_cons_zero, List.set_cons_succ]
              refine wpE_take' (v := ?_) 5 [16] (of_decide_eq_true (by kernel_rfl)) (by kernel_rfl) (by kernel_rfl) (by kernel_rfl) (by kernel_rfl) (fun _ _ _ h => h) (by kernel_rfl) ?_ hS0 ?_
              rotate_left
              · intro w' hSw
                simp only [List.getElem_toArray, List.getElem_cons_succ, List.getElem_cons_zero]
                go_simp
                all_goals with_reducible rfl
              simp only [List.getElem_toArray, List.getElem_cons_succ, List.getElem_cons_zero, Act.put, List.setIfInBounds_toArray, List.set_cons_zero, List.set_cons_succ]
              refine wpE_take' (v := ?_) 6 [16] (of_decide_eq_true (by kernel_rfl)) (by kernel_rfl) (by kernel_rfl) (by kernel_rfl) (by kernel_rfl) (fun _ _ _ h => h) (by kernel_rfl) ?_ hS0 ?_
              rotate_left
              · intro w' hSw
                simp only [List.getElem_toArray, List.getElem_cons_succ, List.getElem_cons_zero]
                go_simp
                all_goals with_reducible rfl
              simp only [List.getElem_toArray, List.getElem_cons_succ, List.getElem_cons_zero, Act.put, List.setIfInBounds_toArray, List.set_cons_zero, List.set_cons_succ]
              refine wpE_take' (v := ?_) 7 [16] (of_decide_eq_true (by kernel_rfl)) (by kernel_rfl) (by kernel_rfl) (by kernel_rfl) (by kernel_rfl) (fun _ _ _ h => h) (by kernel_rfl) ?_ hS0 ?_
              rotate_left
              · intro w' hSw
                simp only [List.getElem_toArray, List.getElem_cons_succ, List.getElem_cons_zero]
                go_simp
                all_goals with_reducible rfl
              simp only [List.getElem_toArray, List.getElem_cons_succ, List.getElem_cons_zero, Act.put, List.setIfInBounds_toArray, List.set_cons_zero, List.set_cons_succ]
              refine wpE_take' (v := ?_) 8 [16] (of_decide_eq_true (by kernel_rfl)) (by kernel_rfl) (by kernel_rfl) (by kernel_rfl) (by kernel_rfl) (fun _ _ _ h => h) (by kernel_rfl) ?_ hS0 ?_
              rotate_left
              · intro w' hSw
                simp only [List.getElem_toArray, List.getElem_cons_succ, List.getElem_cons_zero]
                go_simp
                all_goals with_reducible rfl
              simp only [List.getElem_toArray, List.getElem_cons_succ, List.getElem_cons_zero, Act.put, List.setIfInBounds_toArray, List.set_cons_zero, List.set_cons_succ]
              refine wpE_take' (v := ?_) 9 [16] (of_decide_eq_true (by kernel_rfl)) (by kernel_rfl) (by kernel_rfl) (by kernel_rfl) (by kernel_rfl) (fun _ _ _ h => h) (by kernel_rfl) ?_ hS0 ?_
              rotate_left
              · intro w' hSw
                simp only [List.getElem_toArray, List.getElem_cons_succ, List.getElem_cons_zero]
                go_simp
                all_goals with_reducible rfl
              simp only [List.getElem_toArray, List.getElem_cons_succ, List.getElem_cons_zero, Act.put, List.setIfInBounds_toArray, List.set_cons_zero, List.set_cons_succ]
              refine wpE_take' (v := ?_) 10 [16] (of_decide_eq_true (by kernel_rfl)) (by kernel_rfl) (by kernel_rfl) (by kernel_rfl) (by kernel_rfl) (fun _ _ _ h => h) (by kernel_rfl) ?_ hS0 ?_
              rotate_left
              · intro w' hSw
                simp only [List.getElem_toArray, List.getElem_cons_succ, List.getElem_cons_zero]
                go_simp
                all_goals with_reducible rfl
              simp only [List.getElem_toArray, List.getElem_cons_succ, List.getElem_cons_zero, Act.put, List.setIfInBounds_toArray, List.set_cons_zero, List.set_cons_succ]
              refine wpE_take' (v := ?_) 11 [16] (of_decide_eq_true (by kernel_rfl)) (by kernel_rfl) (by kernel_rfl) (by kernel_rfl) (by kernel_rfl) (fun _ _ _ h => h) (by kernel_rfl) ?_ hS0 ?_
              rotate_left
              · intro w' hSw
                simp only [List.getElem_toArray, List.getElem_cons_succ, List.getElem_cons_zero]
                go_simp
                all_goals with_reducible rfl
              simp only [List.getElem_toArray, List.getElem_cons_succ, List.getElem_cons_zero, Act.put, List.setIfInBounds_toArray, List.set_cons_zero, List.set_cons_succ]
              refine wpE_take' (v := ?_) 12 [16] (of_decide_eq_true (by kernel_rfl)) (by kernel_rfl) (by kernel_rfl) (by kernel_rfl) (by kernel_rfl) (fun _ _ _ h => h) (by kernel_rfl) ?_ hS0 ?_
              rotate_left
              · intro w' hSw
                simp only [List.getElem_toArray, List.getElem_cons_succ, List.getElem_cons_zero]
                go_simp
                all_goals with_reducible rfl
              simp only [List.getElem_toArray, List.getElem_cons_succ, List.getElem_cons_zero, Act.put, List.setIfInBounds_toArray, List.set_cons_zero, List.set_cons_succ]
              refine wpE_step' 13 (of_decide_eq_true (by kernel_rfl)) (by kernel_rfl) (by kernel_rfl) (fun K hK => ?_)
              simp only [List.getElem_toArray, List.getElem_cons_succ, List.getElem_cons_zero]
              go_simp
              refine hK.out _ _ (.inr ⟨hQa.c0, hQa.c1, ((bcell hbd).1 _ _ hexD).trans p0, ((bcell hbd).1 _ _ hbll).trans y0⟩) ?_
              clear hK K
              simp only [Act.put, List.setIfInBounds_toArray, List.set_cons_zero, List.set_cons_succ]
              refine wpE_step' 14 (of_decide_eq_true (by kernel_rfl)) (by kernel_rfl) (by kernel_rfl) (fun K hK => ?_)
              simp only [List.getElem_toArray, List.getElem_cons_succ, List.getElem_cons_zero]
              refine app_wp _ (.tmp 48) (.tmp 60) _ rfl W.heap.size 63 i0 _ 3 24 Try.underlying27 hi0 hz0 hz1 hz2 rfl (by omega) (.slice A1 bs.length c1) bs.length (bdCs bs) rfl hQa.own (some ⟨wr.heap.size, 0, none⟩) 1 _ (bdCs [(⟨(i : Int) + 1, (k : Int) + 1, -lk⟩ : Bd)]) rfl rfl (NewsAt.block (cs := #[.int .i64 ((i : Int) + 1), .int .i64 ((k : Int) + 1), .int .i64 (-lk)]) (at_new (w := wr) rfl)) (bdCs_one _) (by omega) (by omega) hsza ?_
              intro A5 c5 w5 hown5 hg5 hat5
              have hown6 : OwnB W.heap.size w5 (.slice A5 (bs ++ [(⟨(i : Int) + 1, (k : Int) + 1, -lk⟩ : Bd)]).length c5) (bs ++ [(⟨(i : Int) + 1, (k : Int) + 1, -lk⟩ : Bd)]) := by unfold OwnB; rw [bdCs_append, List.length_append]; exact hown5
              have hat6 := hat_len (⟨(i : Int) + 1, (k : Int) + 1, -lk⟩ : Bd) hat5
              obtain ⟨z0, z1, zf, hQ7, hb7⟩ := hQa.app hg5 hown6 hat6
              have HQ7 := hide (pq_len (List.length_append) hQ7)
              clear hown5 hown6 hat5 hat6 hQ7 hg5 hS0
              have hD7 := hD.below hb7
              have y7 := hD7.rl.cell k (by omega)
              rw [Hlk.out] at y7
              refine hK.out _ _ (.inr ⟨z0, z1, hD7.c0, y7⟩) ?_
              clear hK K
              simp only [Act.put, List.setIfInBounds_toArray, List.set_cons_zero, List.set_cons_succ]
              have hS0 : w5.cell? ⟨X, 0, none⟩ = some (.int .i64 N2) ∧ w5.cell? ⟨X, 1, none⟩ = some (.slice A1 bs.length c1) ∧ w5.cell? ⟨w.heap.size, 0, none⟩ = some (.slice (some ⟨bl, ol, none⟩) L.length cl) ∧ w5.cell? ⟨bl, ol + k, none⟩ = some (.int .i64 lk) := ⟨z0, z1, hD7.c0, y7⟩
              refine wpE_take' (v := ?_) 15 [16] (of_decide_eq_true (by kernel_rfl)) (by kernel_rfl) (by kernel_rfl) (by kernel_rfl) (by kernel_rfl) (fun _ _ _ h => h) (by kernel_rfl) ?_ hS0 ?_
              rotate_left
              · intro w' hSw
                simp only [List.getElem_toArray, List.getElem_cons_succ, List.getElem_cons_zero]
                go_simp
                all_goals with_reducible rfl
              simp only [List.getElem_toArray, List.getElem_cons_succ, List.getElem_cons_zero, Act.put, List.setIfInBounds_toArray, List.set_cons_zero, List.set_cons_succ]
              refine wpE_step' 16 (of_decide_eq_true (by kernel_rfl)) (by kernel_rfl) (by kernel_rfl) (fun K hK => ?_)
              simp only [List.getElem_toArray, List.getElem_cons_succ, List.getElem_cons_zero]
              go_simp
              refine hK.out _ _ (.inl rfl) ?_
              clear hK K
              simp only [Act.put, List.setIfInBounds_toArray, List.set_cons_zero, List.set_cons_succ]
              refine wpE_done (by kernel_rfl) ?_ _
              have HQ8 := HQ7.out
              have hbl8 : (bs ++ [(⟨(i : Int) + 1, (k : Int) + 1, -lk⟩ : Bd)]).length ≤ 15 + (k + 1) := by simp; omega
              clear hS0 z0 z1 zf hD7 y7 hb7 HQ7 hQa hsza hbd hD5 x0 x1 p0 y0 hw1 hw2 hw3
              simp only [List.length_singleton] at HQ8
              generalize w5.setCell ⟨X, 1, none⟩ (.slice A5 (bs.length + 1) c5) = W8 at HQ8 ⊢
              go_wp2_with fail
              go_roundg (i - (k + 1))
              case measure => go_light; omega
              case rel => go_light; exact ⟨k + 1, _, A5, c5, by omega, rfl, by go_num, HQ8, hbl8, HB2.out⟩
          · obtain rfl : k = i := by omega
            have hki' : ¬ (k : Int) < (k : Int) := by omega
            have HB2 : Hid (bs ++ [(⟨(L.length : Int) + 1, (k : Int) + 1, -l⟩ : Bd)] = prB L F (k + 1)) := by unfold Hid; rw [HB.out, ← Hl.out]; simp [prB]
            have x1 := hQ.c1
            have hQa := hQ.alloc (.cells #[.int .i64 ((L.length : Int) + 1), .int .i64 ((k : Int) + 1), .int .i64 (-l)] 63)
            have hsza := hQa.bel.size
            have x2 := hQa.c1
            clear p0 p1 hD1
            go_upto_region 16 with (at_builtin; refine app_list _ rfl (.tmp 65) (.tmp 73) _ rfl W.heap.size 63 i0 _ 3 24 Try.underlying27 hi0 hz0 hz1 hz2 rfl (by omega) (.slice A1 bs.length c1) bs.length (bdCs bs) rfl hQa.own (some ⟨wr.heap.size, 0, none⟩) 1 _ (bdCs [(⟨(L.length : Int) + 1, (k : Int) + 1, -l⟩ : Bd)]) rfl rfl (NewsAt.block (cs := #[.int .i64 ((L.length : Int) + 1), .int .i64 ((k : Int) + 1), .int .i64 (-l)]) (at_new rfl)) (bdCs_one _) (by omega) (by omega) hsza ?_; intro A5 c5 w5 hown5 hg5 hat5; have hown6 : OwnB W.heap.size w5 (.slice A5 (bs ++ [(⟨(L.length : Int) + 1, (k : Int) + 1, -l⟩ : Bd)]).length c5) (bs ++ [(⟨(L.length : Int) + 1, (k : Int) + 1, -l⟩ : Bd)]) := (by unfold OwnB; rw [bdCs_append, List.length_append]; exact hown5); have hat6 := hat_len (⟨(L.length : Int) + 1, (k : Int) + 1, -l⟩ : Bd) hat5; obtain ⟨z0, z1, zf, hQ5, hb5⟩ := hQa.app hg5 hown6 hat6; have HQ5 := hide (pq_len (List.length_append) hQ5); clear hown5 hown6 hat5 hat6 hQ5 hg5)
            have HQ6 := HQ5.out
            clear z0 z1 zf hb5 HQ5 hQa hsza x1 x2 hQ
            simp only [List.length_singleton] at HQ6 ⊢
            generalize w5.setCell ⟨X, 1, none⟩ (.slice A5 (bs.length + 1) c5) = W6 at HQ6 ⊢
            go_wp2_with fail
            go_roundg (L.length - (k + 1))
            case measure => go_light; omega
            case rel => go_light; exact ⟨k + 1, _, A5, c5, by omega, rfl, by go_num, HQ6, HB2.out⟩
      · have hie : i = L.length := by omega
        have hlt' : ¬ (i : Int) < (L.length : Int) := by omega
        have HB2 : Hid (prPlan L F = ⟨N2, bs⟩) := by unfold Hid prPlan; rw [HN2.out, HB.out, hie]
        have Hto2 : Hid (toldP ⟨N2, bs⟩ = ⟨N2, bs⟩) := by unfold Hid; rw [← HB2.out]; exact Hto.out
        have Hok2 : Hid (planOk ⟨N2, bs⟩ = true) := by unfold Hid; rw [← HB2.out]; exact Hok.out
        obtain rfl : ⟨N2, bs⟩ = q := by rw [← Hq1.out]; exact HB2.out.symm
        obtain ⟨gq, hrq⟩ := OwnB.readsA hQ.own
        have hbl : bs.length ≤ 14 := by rw [HB.out]; exact prB_len4 L F (by omega)
        have hY1 := hY.below hQ.bel
        obtain ⟨x0, x1⟩ : _ ∧ _ := ⟨hQ.c0, hQ.c1⟩
        clear hie HB
        go_wp2_with (go_at_call 47; go_fit (told_q ⟨N2, bs⟩ ⟨N2, bs⟩ true Hto2.out Hok2.out A1 gq 0 c1 _ _ (by dsimp only; omega) (Nat.le_refl _) hrq); rintro e w5 ⟨A6, c6, g6, rfl, hr6, own6, hb6⟩; have hY5 := hY1.below hb6; have z0 := hY5.z0; have z1 := hY5.z1; have zf0 := hY5.zf 0; have zf1 := hY5.zf 1)
        have hbel5 : Below w.heap.size w w5 := bthen (hD.below hQ.bel).bel hb6
        have hYl := hY1.ex
        have ne : (Value.slice A6 bs.length c6).ownBlock ≠ some (w.heap.size + 1) := fun e => by have := (own6.lt _ e).1; omega
        obtain ⟨r0, r1, ho2, hb7⟩ := hY5.fin (n := N2) hbel5 (own_less own6 (hD.below hQ.bel).bel.size) ne
        refine bodyPost_ret (v := .tuple #[.agg #[.int .i64 N2, .slice A6 bs.length c6], .bool true]) (by simp [results, Try.results11, go_sem, r0, r1]) rfl ?_
        obtain ⟨g, hr⟩ := OwnB.readsA ho2
        first | exact ⟨A6, c6, g, rfl, hr, ho2, hb7⟩ | exact ⟨A6, c6, rfl, ⟨g, hr⟩, ho2, hb7⟩
  · have hq2 : (⟨0, []⟩ : Pl) = q ∧ false = r := by
      unfold planV at hq
      have e : (projOk L F && decide (L.length ≤ 4)) = false := by
        rw [Bool.eq_false_iff]; intro h; simp only [Bool.and_eq_true, decide_eq_true_eq] at h; exact hc h
      rw [e] at hq
      exact ⟨congrArg Prod.fst hq, congrArg Prod.snd hq⟩
    obtain ⟨rfl, rfl⟩ := hq2
    obtain ⟨rp, hrp⟩ : ∃ rp, projOk L F = rp := ⟨_, rfl⟩
    have Hrp := hide hrp
    have Hc : Hid (rp = true → (4 : Int) < (L.length : Int)) := fun h => by
      have : ¬ L.length ≤ 4 := fun h4 => hc ⟨hrp.trans h, h4⟩
      omega
    clear hq hc hrp
    go_enter Try.func11, Try.ntmps11
    go_upto_region 1 with fail
    generalize (w.alloc (.cells #[.slice AL L.length cl, .slice AF F.length cf] 25)).alloc (.cells #[.int .i64 0, .slice none 0 0] 29) = W at hD hY ⊢
    have p0 := hD.c0
    have p1 := hD.c1
    cases rp
    all_goals
      try (have h4z := Hc.out rfl)
      go_wp2_with (go_at_call 45; go_fit (projectOk_c L F AL AF bl ol cl bf of' cf _ _ hll hlf (Nat.le_refl _) hD.rl hD.rf); rintro e w2 ⟨rfl, hb⟩; rw [Hrp.out]; replace hY := hY.below hb; have z0 := hY.z0; have z1 := hY.z1; have zf0 := hY.zf 0; have zf1 := hY.zf 1; replace hD := hD.below hb; clear p0 p1; have p0 := hD.c0; have p1 := hD.c1)
      obtain ⟨r0, r1, ho2, hb7⟩ := hY.fin (n := 0) (A := none) (c := 0) (bs := []) hD.bel (World.ownsRow_nil _ _ _ _) (by simp [Value.ownBlock])
      simp only [List.length_nil] at r0 r1 ho2 hb7
      refine bodyPost_ret (v := .tuple #[.agg #[.int .i64 0, .slice none 0 0], .bool false]) (by simp [results, Try.results11, go_sem, r0, r1]) rfl ?_
      first | exact ⟨none, 0, 0, rfl, BdsR.nil _ _ _, ho2, hb7⟩ | exact ⟨none, 0, rfl, ⟨0, BdsR.nil _ _ _⟩, ho2, hb7⟩
end Go.Proofs.Ytmgikoaeomieeaa
