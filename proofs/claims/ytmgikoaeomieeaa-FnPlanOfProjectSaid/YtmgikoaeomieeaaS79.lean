/-
  spec: the plan of a project.
-/
import Derived.Test.YtmgikoaeomieeaaS70
import Derived.Test.YtmgikoaeomieeaaL74
namespace Go.Proofs.Ytmgikoaeomieeaa
set_option linter.unusedVariables false
set_option linter.unusedSimpArgs false
open Go.RowKit Pp


set_option maxHeartbeats 4000000 in
set_option maxRecDepth 100000 in
theorem sPlanOfProject_q (L F : List Int) (q : Pl) (r : Bool) (hq : planV L F = (q, r)) (AL AF : Option Addr) (bl ol cl bf of' cf B : Nat) (w : World) (hll : L.length ≤ 2000000) (hlf : F.length ≤ 2000000) (hB : B ≤ w.heap.size) (hl : IntsR w B bl ol AL L) (hf : IntsR w B bf of' AF F) :
    Calls Try.prog 12 #[.agg #[.slice AL L.length cl, .slice AF F.length cf]] w fun e w' => ∃ A1 c1 g1, e = .returned (.tuple #[.agg #[.int .i64 q.n, .slice A1 q.bs.length c1], .bool r]) ∧ BdsR w' w'.heap.size g1 0 A1 q.bs ∧ OwnB w.heap.size w' (.slice A1 q.bs.length c1) q.bs ∧ Below w.heap.size w w' := by
  obtain ⟨i0, hi0, hz0, hz1, hz2⟩ := info_parts infoB
  have hD := (pj_new (t := 25) (cl := cl) (cf := cf) hB hl hf).alloc (.cells #[.int .i64 0, .slice none 0 0] 29)
  have hY : ZB w ((w.alloc (.cells #[.slice AL L.length cl, .slice AF F.length cf] 25)).alloc (.cells #[.int .i64 0, .slice none 0 0] 29)) (w.heap.size + 1) := zb_at (by simp) (by simp)
  clear hl hf hB
  by_cases hc : projOk L F = true ∧ L.length ≤ 4
  · obtain ⟨hp, h4⟩ := hc
    have hq2 : prPlan L F = q ∧ true = r := by unfold planV at hq; rw [hp, decide_eq_true h4] at hq; exact ⟨congrArg Prod.fst hq, congrArg Prod.snd hq⟩
    obtain ⟨hq1, rfl⟩ := hq2
    have Hq1 := hide hq1
    have hok := pr_ok hp h4
    have hle := (projOk_iff.1 hp).2.1
    have h4z : ¬ (4 : Int) < (L.length : Int) := by omega
    have Hp := hide hp
    have Hle := hide hle
    have Hok := hide hok
    clear hp hle hok hq hq1
    go_enter Try.func12, Try.ntmps12
    go_upto_region 1 with fail
    generalize (w.alloc (.cells #[.slice AL L.length cl, .slice AF F.length cf] 25)).alloc (.cells #[.int .i64 0, .slice none 0 0] 29) = W at hD hY ⊢
    have p0 := hD.c0
    have p1 := hD.c1
    go_upto_region 5 with (go_at_call 48; go_fit (sProjectOk_c L F AL AF bl ol cl bf of' cf _ _ hll hlf (Nat.le_refl _) hD.rl hD.rf); rintro e w2 ⟨rfl, hb⟩; rw [Hp.out]; replace hY := hY.below hb; replace hD := hD.below hb; clear p0 p1; have p0 := hD.c0; have p1 := hD.c1)
    have hQ0 : PQ w2 (w2.alloc (.cells #[.int .i64 ((L.length : Int) + 1 + 1), .slice none 0 0] 29)) w2.heap.size ((L.length : Int) + 1 + 1) none 0 [] := pq_new (Below.refl _ _)
    clear p0 p1 hb
    generalize w2.alloc (.cells #[.int .i64 ((L.length : Int) + 1 + 1), .slice none 0 0] 29) = W1 at hQ0 ⊢
    generalize w2 = W at hD hY hQ0 ⊢
    generalize W.heap.size = X at hQ0 ⊢
    obtain ⟨N2, hN2⟩ : ∃ N2 : Int, (L.length : Int) + 1 + 1 = N2 := ⟨_, rfl⟩
    rw [hN2] at hQ0
    have HN2 : Hid ((L.length : Int) + 2 = N2) := by unfold Hid; omega
    clear hN2
    go_wp2_with fail
    go_loopg [6] L.length (fun gh s wr => ∃ (i : Nat) (bs : List Bd) (A1 : Option Addr) (c1 : Nat), i ≤ L.length ∧ gh = L.length - i ∧ s = .int .i64 i ∧ PQ W wr X N2 A1 c1 bs ∧ Hid (bs = prB L F i))
    case atStart => exact ⟨0, [], none, 0, Nat.zero_le _, rfl, rfl, hQ0, rfl⟩
    case round =>
      clear hQ0
      obtain ⟨i, bs, A1, c1, hi, rfl, rfl, hQ, HB⟩ := hrel
      have hD1 := hD.below hQ.bel
      have p0 := hD1.c0
      by_cases hlt : i < L.length
      · have hlt' : (i : Int) < (L.length : Int) := by omega
        obtain rfl := hD1.rl.addr (by omega)
        have hbl := prB_len4 L F (show i ≤ 4 by omega)
        rw [← HB.out] at hbl
        obtain ⟨l, hl⟩ : ∃ l, L.getD i 0 = l := ⟨_, rfl⟩
        have hLi := long_at Hp.out hlt
        rw [hl] at hLi
        have Hl := hide hl
        have x1 := hQ.c1
        have hQa := hQ.alloc (.cells #[.int .i64 ((i : Int) + 1), .int .i64 0, .int .i64 0] 63)
        have hsza := hQa.bel.size
        have x2 := hQa.c1
        clear hl hD1
        go_upto_region 9 with (at_builtin; refine app_list _ rfl (.tmp 33) (.tmp 37) _ rfl W.heap.size 63 i0 _ 3 24 Try.underlying27 hi0 hz0 hz1 hz2 rfl (by omega) (.slice A1 bs.length c1) bs.length (bdCs bs) rfl hQa.own (some ⟨wr.heap.size, 0, none⟩) 1 _ (bdCs [(⟨(i : Int) + 1, 0, 0⟩ : Bd)]) rfl rfl (NewsAt.block (cs := #[.int .i64 ((i : Int) + 1), .int .i64 (0), .int .i64 (0)]) (at_new rfl)) (bdCs_one _) (by omega) (by omega) hsza ?_; intro A5 c5 w5 hown5 hg5 hat5; have hown6 : OwnB W.heap.size w5 (.slice A5 (bs ++ [(⟨(i : Int) + 1, 0, 0⟩ : Bd)]).length c5) (bs ++ [(⟨(i : Int) + 1, 0, 0⟩ : Bd)]) := (by unfold OwnB; rw [bdCs_append, List.length_append]; exact hown5); have hat6 := hat_len (⟨(i : Int) + 1, 0, 0⟩ : Bd) hat5; obtain ⟨z0, z1, zf, hQ5, hb5⟩ := hQa.app hg5 hown6 hat6; have HQ5 := hide (pq_len (List.length_append) hQ5); clear hown5 hown6 hat5 hat6 hQ5 hg5)
        have HQ6 := HQ5.out
        have HB6 : Hid (bs ++ [(⟨(i : Int) + 1, 0, 0⟩ : Bd)] = prB L F i ++ [(⟨(i : Int) + 1, 0, 0⟩ : Bd)] ++ afB L F i 0) := by unfold Hid; rw [← HB.out]; simp [afB]
        have hbl6 : (bs ++ [(⟨(i : Int) + 1, 0, 0⟩ : Bd)]).length ≤ 15 := by simp; omega
        clear z0 z1 zf hb5 HQ5 hQa hsza x1 x2 hQ p0
        simp only [List.length_singleton] at HQ6 ⊢
        generalize w5.setCell ⟨X, 1, none⟩ (.slice A5 (bs.length + 1) c5) = W6 at HQ6 ⊢
        generalize bs ++ [(⟨(i : Int) + 1, 0, 0⟩ : Bd)] = bs6 at HQ6 HB6 hbl6
        have hib : (i : Int) + 1 ≤ 5 := by omega
        go_wp2_with fail
        go_loopg [7] i (fun gh s wi => ∃ (k : Nat) (bs : List Bd) (A1 : Option Addr) (c1 : Nat), k ≤ i ∧ gh = i - k ∧ s = .int .i64 k ∧ PQ W wi X N2 A1 c1 bs ∧ bs.length ≤ 15 + k ∧ Hid (bs = prB L F i ++ [(⟨(i : Int) + 1, 0, 0⟩ : Bd)] ++ afB L F i k))
        case atStart => exact ⟨0, bs6, A5, c5, Nat.zero_le _, rfl, rfl, HQ6, hbl6, HB6.out⟩
        case round =>
          clear HQ6 HB6 hbl6 HB hbl
          obtain ⟨k, bs, A1, c1, hk, rfl, rfl, hQ, hbl, HB⟩ := hrel
          have hD1 := hD.below hQ.bel
          have p0 := hD1.c0
          by_cases hki : k < i
          · have hki' : (k : Int) < (i : Int) := by omega
            have hkL : (k : Int) < (L.length : Int) := by omega
            have hiF : i < F.length := by have := Hle.out; omega
            have hiF' : (i : Int) < (F.length : Int) := by omega
            have hk0 : ¬ (k : Int) < 0 := by omega
            have hk64 : (k : Int) < 64 := by omega
            have hbits := proj_bits Hp.out hiF
            have p1 := hD1.c1
            obtain rfl := hD1.rf.addr (by omega)
            have u0 := hD1.rf.cell i hiF
            have ha' : aft F i k = decide (F.getD i 0 / 2 ^ k % 2 = 1) := rfl
            obtain ⟨u, hu⟩ : ∃ u, F.getD i 0 = u := ⟨_, rfl⟩
            rw [hu] at u0 hbits ha'
            have hd0 : 0 ≤ u / 2 ^ k := Int.ediv_nonneg hbits.1 (Int.le_of_lt (Int.pow_pos (by omega)))
            have hd1 : u / 2 ^ k ≤ 63 := Int.le_trans (Int.ediv_le_self _ hbits.1) hbits.2
            obtain ⟨bb, hbb⟩ : ∃ bb, u / 2 ^ k % 2 = bb := ⟨_, rfl⟩
            rw [hbb] at ha'
            by_cases ha : bb = 1
            · have hLk := long_at Hp.out (show k < L.length by omega)
              rw [decide_eq_true ha] at ha'
              have HB2 : Hid (bs ++ [(⟨(i : Int) + 1, (k : Int) + 1, -L.getD k 0⟩ : Bd)] = prB L F i ++ [(⟨(i : Int) + 1, 0, 0⟩ : Bd)] ++ afB L F i (k + 1)) := by unfold Hid; rw [HB.out]; simp [afB, ha']
              subst ha
              clear ha' hu
              go_upto_region 13 with fail
              clear hbb u0 p1
              have hQ5 := hQ
              have hD5 := hD1
              clear hQ hD1
              have hbll := hD5.rl.lt (by omega)
              have hexX := hQ5.ex
              have hexD := hD5.ex
              obtain ⟨x0, x1⟩ : _ ∧ _ := ⟨hQ5.c0, hQ5.c1⟩
              have y0 := hD5.rl.cell k (by omega)
              obtain ⟨lk, hlk⟩ : ∃ lk, L.getD k 0 = lk := ⟨_, rfl⟩
              rw [hlk] at y0 hLk HB2
              have Hlk := hide hlk
              clear hlk
              have hw1 : IntKind.i64.wrap ((i : Int) + 1) = (i : Int) + 1 := IntWalk.i64_in _ (by omega)
              have hw2 : IntKind.i64.wrap ((k : Int) + 1) = (k : Int) + 1 := IntWalk.i64_in _ (by omega)
              have hw3 : IntKind.i64.wrap (-lk) = -lk := IntWalk.i64_in _ (by omega)
              have hQa := (hQ5.alloc (.cells #[.int .i64 ((i : Int) + 1), .int .i64 ((k : Int) + 1), .int .i64 (-lk)] 63)).drew
              have hsza := hQa.bel.size
              have hbd : Below wr.heap.size wr (wr.alloc (.cells #[.int .i64 ((i : Int) + 1), .int .i64 ((k : Int) + 1), .int .i64 (-lk)] 63)).drew := by go_grown
              refine wp_regionE (fun w' => w'.cell? ⟨X, 0, none⟩ = some (.int .i64 N2) ∧ w'.cell? ⟨X, 1, none⟩ = some (.slice A1 bs.length c1) ∧ w'.cell? ⟨w.heap.size, 0, none⟩ = some (.slice (some ⟨bl, ol, none⟩) L.length cl) ∧ w'.cell? ⟨bl, ol + k, none⟩ = some (.int .i64 lk)) 16 (by kernel_rfl) ?_
              change wpE _ _ _ _ _ _ 17 #[false, false, false, false, false, false, false, false, false, false, false, false, false, false, false, false, false] _ _
              have hS0 : wr.drew.cell? ⟨X, 0, none⟩ = some (.int .i64 N2) ∧ wr.drew.cell? ⟨X, 1, none⟩ = some (.slice A1 bs.length c1) ∧ wr.drew.cell? ⟨w.heap.size, 0, none⟩ = some (.slice (some ⟨bl, ol, none⟩) L.length cl) ∧ wr.drew.cell? ⟨bl, ol + k, none⟩ = some (.int .i64 lk) := ⟨x0, x1, p0, y0⟩
              refine wpE_take' (v := ?_) 0 [16] (of_decide_eq_true (by kernel_rfl)) (by kernel_rfl) (by kernel_rfl) (by kernel_rfl) (by kernel_rfl) (fun _ _ _ h => h) (by kernel_rfl) ?_ hS0 ?_
              rotate_left
              · intro w' hSw
                simp only [List.getElem_toArray, List.getElem_cons_succ, List.getElem_cons_zero]
                go_simp
                all_goals with_reducible rfl
              simp only [List.getElem_toArray, List.getElem_cons_succ, List.getElem_cons_zero, Act.put, List.setIfInBounds_toArray, List.set_cons_zero, List.set_cons_succ]
              refine wpE_take' (v := ?_) 1 [16] (of_decide_eq_true (by kernel_rfl)) (by kernel_rfl) (by kernel_rfl) (by kernel_rfl) (by kernel_rfl) (fun _ _ _ h => h) (by kernel_rfl) ?_ hS0 ?_
              rotate_left
              · intro w' hSw
                simp only [List.getElem_toArray, List.getElem_cons_succ, List.getElem_cons_zero]
                go_simp
                all_goals with_reducible rfl
              simp only [List.getElem_toArray, List.getElem_cons_succ, List.getElem_cons_zero, Act.put, List.setIfInBounds_toArray, List.set_cons_zero, List.set_cons_succ]
              refine wpE_take' (v := ?_) 2 [16] (of_decide_eq_true (by kernel_rfl)) (by kernel_rfl) (by kernel_rfl) (by kernel_rfl) (by kernel_rfl) (fun _ _ _ h => h) (by kernel_rfl) ?_ hS0 ?_
              rotate_left
              · intro w' hSw
                simp only [List.getElem_toArray, List.getElem_cons_succ, List.getElem_cons_zero]
                go_simp
                all_goals with_reducible rfl
              simp only [List.getElem_toArray, List.getElem_cons_succ, List.getElem_cons_zero, Act.put, List.setIfInBounds_toArray, List.set_cons_zero, List.set_cons_succ]
              refine wpE_take' (v := ?_) 3 [16] (of_decide_eq_true (by kernel_rfl)) (by kernel_rfl) (by kernel_rfl) (by kernel_rfl) (by kernel_rfl) (fun _ _ _ h => h) (by kernel_rfl) ?_ hS0 ?_
              rotate_left
              · intro w' hSw
                simp only [List.getElem_toArray, List.getElem_cons_succ, List.getElem_cons_zero]
                go_simp
                all_goals with_reducible rfl
              simp only [List.getElem_toArray, List.getElem_cons_succ, List.getElem_cons_zero, Act.put, List.setIfInBounds_toArray, List.set_cons_zero, List.set_cons_succ]
              refine wpE_take' (v := ?_) 4 [16] (of_decide_eq_true (by kernel_rfl)) (by kernel_rfl) (by kernel_rfl) (by kernel_rfl) (by kernel_rfl) (fun _ _ _ h => h) (by kernel_rfl) ?_ hS0 ?_
              rotate_left
              · intro w' hSw
                simp only [List.getElem_toArray, List.getElem_cons_succ, List.getElem_cons_zero]
                go_simp
                all_goals with_reducible rfl
              simp only [List.getElem_toArray, List.getElem_cons_succ, List.getElem_cons_zero, Act.put, List.setIfInBounds_toArray, List.set_cons_zero, List.set_cons_succ]
              refine wpE_take' (v := ?_) 5 [16] (of_decide_eq_true (by kernel_rfl)) (by kernel_rfl) (by kernel_rfl) (by kernel_rfl) (by kernel_rfl) (fun _ _ _ h => h) (by kernel_rfl) ?_ hS0 ?_
              rotate_left
              · intro w' hSw
                simp only [List.getElem_toArray, List.getElem_cons_succ, List.getElem_cons_zero]
                go_simp
                all_goals with_reducible rfl
              simp only [List.getElem_toArray, List.getElem_cons_succ, List.getElem_cons_zero, Act.put, List.setIfInBounds_toArray, List.set_cons_zero, List.set_cons_succ]
              refine wpE_take' (v := ?_) 6 [16] (of_decide_eq_true (by kernel_rfl)) (by kernel_rfl) (by kernel_rfl) (by kernel_rfl) (by kernel_rfl) (fun _ _ _ h => h) (by kernel_rfl) ?_ hS0 ?_
              rotate_left
              · intro w' hSw
                simp only [List.getElem_toArray, List.getElem_cons_succ, List.getElem_cons_zero]
                go_simp
                all_goals with_reducible rfl
              simp only [List.getElem_toArray, List.getElem_cons_succ, List.getElem_cons_zero, Act.put, List.setIfInBounds_toArray, List.set_cons_zero, List.set_cons_succ]
              refine wpE_take' (v := ?_) 7 [16] (of_decide_eq_true (by kernel_rfl)) (by kernel_rfl) (by kernel_rfl) (by kernel_rfl) (by kernel_rfl) (fun _ _ _ h => h) (by kernel_rfl) ?_ hS0 ?_
              rotate_left
              · intro w' hSw
                simp only [List.getElem_toArray, List.getElem_cons_succ, List.getElem_cons_zero]
                go_simp
                all_goals with_reducible rfl
              simp only [List.getElem_toArray, List.getElem_cons_succ, List.getElem_cons_zero, Act.put, List.setIfInBounds_toArray, List.set_cons_zero, List.set_cons_succ]
              refine wpE_take' (v := ?_) 8 [16] (of_decide_eq_true (by kernel_rfl)) (by kernel_rfl) (by kernel_rfl) (by kernel_rfl) (by kernel_rfl) (fun _ _ _ h => h) (by kernel_rfl) ?_ hS0 ?_
              rotate_left
              · intro w' hSw
                simp only [List.getElem_toArray, List.getElem_cons_succ, List.getElem_cons_zero]
                go_simp
                all_goals with_reducible rfl
              simp only [List.getElem_toArray, List.getElem_cons_succ, List.getElem_cons_zero, Act.put, List.setIfInBounds_toArray, List.set_cons_zero, List.set_cons_succ]
              refine wpE_take' (v := ?_) 9 [16] (of_decide_eq_true (by kernel_rfl)) (by kernel_rfl) (by kernel_rfl) (by kernel_rfl) (by kernel_rfl) (fun _ _ _ h => h) (by kernel_rfl) ?_ hS0 ?_
              rotate_left
              · intro w' hSw
                simp only [List.getElem_toArray, List.getElem_cons_succ, List.getElem_cons_zero]
                go_simp
                all_goals with_reducible rfl
              simp only [List.getElem_toArray, List.getElem_cons_succ, List.getElem_cons_zero, Act.put, List.setIfInBounds_toArray, List.set_cons_zero, List.set_cons_succ]
              refine wpE_take' (v := ?_) 10 [16] (of_decide_eq_true (by kernel_rfl)) (by kernel_rfl) (by kernel_rfl) (by kernel_rfl) (by kernel_rfl) (fun _ _ _ h => h) (by kernel_rfl) ?_ hS0 ?_
              rotate_left
              · intro w' hSw
                simp only [List.getElem_toArray, List.getElem_cons_succ, List.getElem_cons_zero]
                go_simp
                all_goals with_reducible rfl
              simp only [List.getElem_toArray, List.getElem_cons_succ, List.getElem_cons_zero, Act.put, List.setIfInBounds_toArray, List.set_cons_zero, List.set_cons_succ]
              refine wpE_take' (v := ?_) 11 [16] (of_decide_eq_true (by kernel_rfl)) (by kernel_rfl) (by kernel_rfl) (by kernel_rfl) (by kernel_rfl) (fun _ _ _ h => h) (by kernel_rfl) ?_ hS0 ?_
              rotate_left
              · intro w' hSw
                simp only [List.getElem_toArray, List.getElem_cons_succ, List.getElem_cons_zero]
                go_simp
                all_goals with_reducible rfl
              simp only [List.getElem_toArray, List.getElem_cons_succ, List.getElem_cons_zero, Act.put, List.setIfInBounds_toArray, List.set_cons_zero, List.set_cons_succ]
              refine wpE_take' (v := ?_) 12 [16] (of_decide_eq_true (by kernel_rfl)) (by kernel_rfl) (by kernel_rfl) (by kernel_rfl) (by kernel_rfl) (fun _ _ _ h => h) (by kernel_rfl) ?_ hS0 ?_
              rotate_left
              · intro w' hSw
                simp only [List.getElem_toArray, List.getElem_cons_succ, List.getElem_cons_zero]
                go_simp
                all_goals with_reducible rfl
              simp only [List.getElem_toArray, List.getElem_cons_succ, List.getElem_cons_zero, Act.put, List.setIfInBounds_toArray, List.set_cons_zero, List.set_cons_succ]
              refine wpE_step' 13 (of_decide_eq_true (by kernel_rfl)) (by kernel_rfl) (by kernel_rfl) (fun K hK => ?_)
              simp only [List.getElem_toArray, List.getElem_cons_succ, List.getElem_cons_zero]
              go_simp
              refine hK.out _ _ (.inr ⟨hQa.c0, hQa.c1, ((bcell hbd).1 _ _ hexD).trans p0, ((bcell hbd).1 _ _ hbll).trans y0⟩) ?_
              clear hK K
              simp only [Act.put, List.setIfInBounds_toArray, List.set_cons_zero, List.set_cons_succ]
              refine wpE_step' 14 (of_decide_eq_true (by kernel_rfl)) (by kernel_rfl) (by kernel_rfl) (fun K hK => ?_)
              simp only [List.getElem_toArray, List.getElem_cons_succ, List.getElem_cons_zero]
              refine app_wp _ (.tmp 55) (.tmp 67) _ rfl W.heap.size 63 i0 _ 3 24 Try.underlying27 hi0 hz0 hz1 hz2 rfl (by omega) (.slice A1 bs.length c1) bs.length (bdCs bs) rfl hQa.own (some ⟨wr.heap.size, 0, none⟩) 1 _ (bdCs [(⟨(i : Int) + 1, (k : Int) + 1, -lk⟩ : Bd)]) rfl rfl (NewsAt.block (cs := #[.int .i64 ((i : Int) + 1), .int .i64 ((k : Int) + 1), .int .i64 (-lk)]) (at_new (w := wr) rfl)) (bdCs_one _) (by omega) (by omega) hsza ?_
              intro A5 c5 w5 hown5 hg5 hat5
              have hown6 : OwnB W.heap.size w5 (.slice A5 (bs ++ [(⟨(i : Int) + 1, (k : Int) + 1, -lk⟩ : Bd)]).length c5) (bs ++ [(⟨(i : Int) + 1, (k : Int) + 1, -lk⟩ : Bd)]) := by unfold OwnB; rw [bdCs_append, List.length_append]; exact hown5
              have hat6 := hat_len (⟨(i : Int) + 1, (k : Int) + 1, -lk⟩ : Bd) hat5
              obtain ⟨z0, z1, zf, hQ7, hb7⟩ := hQa.app hg5 hown6 hat6
              have HQ7 := hide (pq_len (List.length_append) hQ7)
              clear hown5 hown6 hat5 hat6 hQ7 hg5 hS0
              have hD7 := hD.below hb7
              have y7 := hD7.rl.cell k (by omega)
              rw [Hlk.out] at y7
              refine hK.out _ _ (.inr ⟨z0, z1, hD7.c0, y7⟩) ?_
              clear hK K
              simp only [Act.put, List.setIfInBounds_toArray, List.set_cons_zero, List.set_cons_succ]
              have hS0 : w5.cell? ⟨X, 0, none⟩ = some (.int .i64 N2) ∧ w5.cell? ⟨X, 1, none⟩ = some (.slice A1 bs.length c1) ∧ w5.cell? ⟨w.heap.size, 0, none⟩ = some (.slice (some ⟨bl, ol, none⟩) L.length cl) ∧ w5.cell? ⟨bl, ol + k, none⟩ = some (.int .i64 lk) := ⟨z0, z1, hD7.c0, y7⟩
              refine wpE_take' (v := ?_) 15 [16] (of_decide_eq_true (by kernel_rfl)) (by kernel_rfl) (by kernel_rfl) (by kernel_rfl) (by kernel_rfl) (fun _ _ _ h => h) (by kernel_rfl) ?_ hS0 ?_
              rotate_left
              · intro w' hSw
                simp only [List.getElem_toArray, List.getElem_cons_succ, List.getElem_cons_zero]
                go_simp
                all_goals with_reducible rfl
              simp only [List.getElem_toArray, List.getElem_cons_succ, List.getElem_cons_zero, Act.put, List.setIfInBounds_toArray, List.set_cons_zero, List.set_cons_succ]
              refine wpE_step' 16 (of_decide_eq_true (by kernel_rfl)) (by kernel_rfl) (by kernel_rfl) (fun K hK => ?_)
              simp only [List.getElem_toArray, List.getElem_cons_succ, List.getElem_cons_zero]
              go_simp
              refine hK.out _ _ (.inl rfl) ?_
              clear hK K
              simp only [Act.put, List.setIfInBounds_toArray, List.set_cons_zero, List.set_cons_succ]
              refine wpE_done (by kernel_rfl) ?_ _
              have HQ8 := HQ7.out
              have hbl8 : (bs ++ [(⟨(i : Int) + 1, (k : Int) + 1, -lk⟩ : Bd)]).length ≤ 15 + (k + 1) := by simp; omega
              clear hS0 z0 z1 zf hD7 y7 hb7 HQ7 hQa hsza hbd hD5 x0 x1 p0 y0 hw1 hw2 hw3
              simp only [List.length_singleton] at HQ8
              generalize w5.setCell ⟨X, 1, none⟩ (.slice A5 (bs.length + 1) c5) = W8 at HQ8 ⊢
              go_wp2_with fail
              go_roundg (i - (k + 1))
              case measure => go_light; omega
              case rel => go_light; exact ⟨k + 1, _, A5, c5, by omega, rfl, by go_num, HQ8, hbl8, HB2.out⟩
            · have hab : (bb == 1) = false := by simpa using ha
              rw [decide_eq_false ha] at ha'
              have HB2 : Hid (bs = prB L F i ++ [(⟨(i : Int) + 1, 0, 0⟩ : Bd)] ++ afB L F i (k + 1)) := by unfold Hid; rw [HB.out]; simp [afB, ha']
              clear ha ha' hu
              go_wp2_with fail
              clear hbb u0 p0 p1 hD1
              go_roundg (i - (k + 1))
              case measure => go_light; omega
              case rel => go_light; exact ⟨k + 1, bs, A1, c1, by omega, rfl, by go_num, hQ, by omega, HB2⟩
          · obtain rfl : k = i := by omega
            have hki' : ¬ (k : Int) < (k : Int) := by omega
            have HB2 : Hid (bs ++ [(⟨(L.length : Int) + 1, (k : Int) + 1, -l⟩ : Bd)] = prB L F (k + 1)) := by unfold Hid; rw [HB.out, ← Hl.out]; simp [prB]
            go_upto_region 14 with fail
            have hQ5 := hQ
            have hD5 := hD1
            clear hQ hD1
            have hbll := hD5.rl.lt (by omega)
            have hexX := hQ5.ex
            have hexD := hD5.ex
            obtain ⟨x0, x1⟩ : _ ∧ _ := ⟨hQ5.c0, hQ5.c1⟩
            have y0 := hD5.rl.cell k hlt
            rw [Hl.out] at y0
            have hw2 : IntKind.i64.wrap ((k : Int) + 1) = (k : Int) + 1 := IntWalk.i64_in _ (by omega)
            have hw3 : IntKind.i64.wrap (-l) = -l := IntWalk.i64_in _ (by omega)
            have hQa := (hQ5.alloc (.cells #[.int .i64 ((L.length : Int) + 1), .int .i64 ((k : Int) + 1), .int .i64 (-l)] 63)).drew
            have hsza := hQa.bel.size
            have hbd : Below wr.heap.size wr (wr.alloc (.cells #[.int .i64 ((L.length : Int) + 1), .int .i64 ((k : Int) + 1), .int .i64 (-l)] 63)).drew := by go_grown
            refine wp_regionE (fun w' => w'.cell? ⟨X, 0, none⟩ = some (.int .i64 N2) ∧ w'.cell? ⟨X, 1, none⟩ = some (.slice A1 bs.length c1) ∧ w'.cell? ⟨w.heap.size, 0, none⟩ = some (.slice (some ⟨bl, ol, none⟩) L.length cl) ∧ w'.cell? ⟨bl, ol + k, none⟩ = some (.int .i64 l)) 15 (by kernel_rfl) ?_
            change wpE _ _ _ _ _ _ 16 #[false, false, false, false, false, false, false, false, false, false, false, false, false, false, false, false] _ _
            have hS0 : wr.drew.cell? ⟨X, 0, none⟩ = some (.int .i64 N2) ∧ wr.drew.cell? ⟨X, 1, none⟩ = some (.slice A1 bs.length c1) ∧ wr.drew.cell? ⟨w.heap.size, 0, none⟩ = some (.slice (some ⟨bl, ol, none⟩) L.length cl) ∧ wr.drew.cell? ⟨bl, ol + k, none⟩ = some (.int .i64 l) := ⟨x0, x1, p0, y0⟩
            refine wpE_take' (v := ?_) 0 [15] (of_decide_eq_true (by kernel_rfl)) (by kernel_rfl) (by kernel_rfl) (by kernel_rfl) (by kernel_rfl) (fun _ _ _ h => h) (by kernel_rfl) ?_ hS0 ?_
            rotate_left
            · intro w' hSw
              simp only [List.getElem_toArray, List.getElem_cons_succ, List.getElem_cons_zero]
              go_simp
              all_goals with_reducible rfl
            simp only [List.getElem_toArray, List.getElem_cons_succ, List.getElem_cons_zero, Act.put, List.setIfInBounds_toArray, List.set_cons_zero, List.set_cons_succ]
            refine wpE_take' (v := ?_) 1 [15] (of_decide_eq_true (by kernel_rfl)) (by kernel_rfl) (by kernel_rfl) (by kernel_rfl) (by kernel_rfl) (fun _ _ _ h => h) (by kernel_rfl) ?_ hS0 ?_
            rotate_left
            · intro w' hSw
              simp only [List.getElem_toArray, List.getElem_cons_succ, List.getElem_cons_zero]
              go_simp
              all_goals with_reducible rfl
            simp only [List.getElem_toArray, List.getElem_cons_succ, List.getElem_cons_zero, Act.put, List.setIfInBounds_toArray, List.set_cons_zero, List.set_cons_succ]
            refine wpE_take' (v := ?_) 2 [15] (of_decide_eq_true (by kernel_rfl)) (by kernel_rfl) (by kernel_rfl) (by kernel_rfl) (by kernel_rfl) (fun _ _ _ h => h) (by kernel_rfl) ?_ hS0 ?_
            rotate_left
            · intro w' hSw
              simp only [List.getElem_toArray, List.getElem_cons_succ, List.getElem_cons_zero]
              go_simp
              all_goals with_reducible rfl
            simp only [List.getElem_toArray, List.getElem_cons_succ, List.getElem_cons_zero, Act.put, List.setIfInBounds_toArray, List.set_cons_zero, List.set_cons_succ]
            refine wpE_take' (v := ?_) 3 [15] (of_decide_eq_true (by kernel_rfl)) (by kernel_rfl) (by kernel_rfl) (by kernel_rfl) (by kernel_rfl) (fun _ _ _ h => h) (by kernel_rfl) ?_ hS0 ?_
            rotate_left
            · intro w' hSw
              simp only [List.getElem_toArray, List.getElem_cons_succ, List.getElem_cons_zero]
              go_simp
              all_goals with_reducible rfl
            simp only [List.getElem_toArray, List.getElem_cons_succ, List.getElem_cons_zero, Act.put, List.setIfInBounds_toArray, List.set_cons_zero, List.set_cons_succ]
            refine wpE_take' (v := ?_) 4 [15] (of_decide_eq_true (by kernel_rfl)) (by kernel_rfl) (by kernel_rfl) (by kernel_rfl) (by kernel_rfl) (fun _ _ _ h => h) (by kernel_rfl) ?_ hS0 ?_
            rotate_left
            · intro w' hSw
              simp only [List.getElem_toArray, List.getElem_cons_succ, List.getElem_cons_zero]
              go_simp
              all_goals with_reducible rfl
            simp only [List.getElem_toArray, List.getElem_cons_succ, List.getElem_cons_zero, Act.put, List.setIfInBounds_toArray, List.set_cons_zero, List.set_cons_succ]
            refine wpE_take' (v := ?_) 5 [15] (of_decide_eq_true (by kernel_rfl)) (by kernel_rfl) (by kernel_rfl) (by kernel_rfl) (by kernel_rfl) (fun _ _ _ h => h) (by kernel_rfl) ?_ hS0 ?_
            rotate_left
            · intro w' hSw
              simp only [List.getElem_toArray, List.getElem_cons_succ, List.getElem_cons_zero]
              go_simp
              all_goals with_reducible rfl
            simp only [List.getElem_toArray, List.getElem_cons_succ, List.getElem_cons_zero, Act.put, List.setIfInBounds_toArray, List.set_cons_zero, List.set_cons_succ]
            refine wpE_take' (v := ?_) 6 [15] (of_decide_eq_true (by kernel_rfl)) (by kernel_rfl) (by kernel_rfl) (by kernel_rfl) (by kernel_rfl) (fun _ _ _ h => h) (by kernel_rfl) ?_ hS0 ?_
            rotate_left
            · intro w' hSw
              simp only [List.getElem_toArray, List.getElem_cons_succ, List.getElem_cons_zero]
              go_simp
              all_goals with_reducible rfl
            simp only [List.getElem_toArray, List.getElem_cons_succ, List.getElem_cons_zero, Act.put, List.setIfInBounds_toArray, List.set_cons_zero, List.set_cons_succ]
            refine wpE_take' (v := ?_) 7 [15] (of_decide_eq_true (by kernel_rfl)) (by kernel_rfl) (by kernel_rfl) (by kernel_rfl) (by kernel_rfl) (fun _ _ _ h => h) (by kernel_rfl) ?_ hS0 ?_
            rotate_left
            · intro w' hSw
              simp only [List.getElem_toArray, List.getElem_cons_succ, List.getElem_cons_zero]
              go_simp
              all_goals with_reducible rfl
            simp only [List.getElem_toArray, List.getElem_cons_succ, List.getElem_cons_zero, Act.put, List.setIfInBounds_toArray, List.set_cons_zero, List.set_cons_succ]
            refine wpE_take' (v := ?_) 8 [15] (of_decide_eq_true (by kernel_rfl)) (by kernel_rfl) (by kernel_rfl) (by kernel_rfl) (by kernel_rfl) (fun _ _ _ h => h) (by kernel_rfl) ?_ hS0 ?_
            rotate_left
            · intro w' hSw
              simp only [List.getElem_toArray, List.getElem_cons_succ, List.getElem_cons_zero]
              go_simp
              all_goals with_reducible rfl
            simp only [List.getElem_toArray, List.getElem_cons_succ, List.getElem_cons_zero, Act.put, List.setIfInBounds_toArray, List.set_cons_zero, List.set_cons_succ]
            refine wpE_take' (v := ?_) 9 [15] (of_decide_eq_true (by kernel_rfl)) (by kernel_rfl) (by kernel_rfl) (by kernel_rfl) (by kernel_rfl) (fun _ _ _ h => h) (by kernel_rfl) ?_ hS0 ?_
            rotate_left
            · intro w' hSw
              simp only [List.getElem_toArray, List.getElem_cons_succ, List.getElem_cons_zero]
              go_simp
              all_goals with_reducible rfl
            simp only [List.getElem_toArray, List.getElem_cons_succ, List.getElem_cons_zero, Act.put, List.setIfInBounds_toArray, List.set_cons_zero, List.set_cons_succ]
            refine wpE_take' (v := ?_) 10 [15] (of_decide_eq_true (by kernel_rfl)) (by kernel_rfl) (by kernel_rfl) (by kernel_rfl) (by kernel_rfl) (fun _ _ _ h => h) (by kernel_rfl) ?_ hS0 ?_
            rotate_left
            · intro w' hSw
              simp only [List.getElem_toArray, List.getElem_cons_succ, List.getElem_cons_zero]
              go_simp
              all_goals with_reducible rfl
            simp only [List.getElem_toArray, List.getElem_cons_succ, List.getElem_cons_zero, Act.put, List.setIfInBounds_toArray, List.set_cons_zero, List.set_cons_succ]
            refine wpE_take' (v := ?_) 11 [15] (of_decide_eq_true (by kernel_rfl)) (by kernel_rfl) (by kernel_rfl) (by kernel_rfl) (by kernel_rfl) (fun _ _ _ h => h) (by kernel_rfl) ?_ hS0 ?_
            rotate_left
            · intro w' hSw
              simp only [List.getElem_toArray, List.getElem_cons_succ, List.getElem_cons_zero]
              go_simp
              all_goals with_reducible rfl
            simp only [List.getElem_toArray, List.getElem_cons_succ, List.getElem_cons_zero, Act.put, List.setIfInBounds_toArray, List.set_cons_zero, List.set_cons_succ]
            refine wpE_step' 12 (of_decide_eq_true (by kernel_rfl)) (by kernel_rfl) (by kernel_rfl) (fun K hK => ?_)
            simp only [List.getElem_toArray, List.getElem_cons_succ, List.getElem_cons_zero]
            go_simp
            refine hK.out _ _ (.inr ⟨hQa.c0, hQa.c1, ((bcell hbd).1 _ _ hexD).trans p0, ((bcell hbd).1 _ _ hbll).trans y0⟩) ?_
            clear hK K
            simp only [Act.put, List.setIfInBounds_toArray, List.set_cons_zero, List.set_cons_succ]
            refine wpE_step' 13 (of_decide_eq_true (by kernel_rfl)) (by kernel_rfl) (by kernel_rfl) (fun K hK => ?_)
            simp only [List.getElem_toArray, List.getElem_cons_succ, List.getElem_cons_zero]
            refine app_wp _ (.tmp 71) (.tmp 82) _ rfl W.heap.size 63 i0 _ 3 24 Try.underlying27 hi0 hz0 hz1 hz2 rfl (by omega) (.slice A1 bs.length c1) bs.length (bdCs bs) rfl hQa.own (some ⟨wr.heap.size, 0, none⟩) 1 _ (bdCs [(⟨(L.length : Int) + 1, (k : Int) + 1, -l⟩ : Bd)]) rfl rfl (NewsAt.block (cs := #[.int .i64 ((L.length : Int) + 1), .int .i64 ((k : Int) + 1), .int .i64 (-l)]) (at_new (w := wr) rfl)) (bdCs_one _) (by omega) (by omega) hsza ?_
            intro A5 c5 w5 hown5 hg5 hat5
            have hown6 : OwnB W.heap.size w5 (.slice A5 (bs ++ [(⟨(L.length : Int) + 1, (k : Int) + 1, -l⟩ : Bd)]).length c5) (bs ++ [(⟨(L.length : Int) + 1, (k : Int) + 1, -l⟩ : Bd)]) := by unfold OwnB; rw [bdCs_append, List.length_append]; exact hown5
            have hat6 := hat_len (⟨(L.length : Int) + 1, (k : Int) + 1, -l⟩ : Bd) hat5
            obtain ⟨z0, z1, zf, hQ7, hb7⟩ := hQa.app hg5 hown6 hat6
            have HQ7 := hide (pq_len (List.length_append) hQ7)
            clear hown5 hown6 hat5 hat6 hQ7 hg5 hS0
            have hD7 := hD.below hb7
            have y7 := hD7.rl.cell k (by omega)
            rw [Hl.out] at y7
            refine hK.out _ _ (.inr ⟨z0, z1, hD7.c0, y7⟩) ?_
            clear hK K
            simp only [Act.put, List.setIfInBounds_toArray, List.set_cons_zero, List.set_cons_succ]
            have hS0 : w5.cell? ⟨X, 0, none⟩ = some (.int .i64 N2) ∧ w5.cell? ⟨X, 1, none⟩ = some (.slice A1 bs.length c1) ∧ w5.cell? ⟨w.heap.size, 0, none⟩ = some (.slice (some ⟨bl, ol, none⟩) L.length cl) ∧ w5.cell? ⟨bl, ol + k, none⟩ = some (.int .i64 l) := ⟨z0, z1, hD7.c0, y7⟩
            refine wpE_take' (v := ?_) 14 [15] (of_decide_eq_true (by kernel_rfl)) (by kernel_rfl) (by kernel_rfl) (by kernel_rfl) (by kernel_rfl) (fun _ _ _ h => h) (by kernel_rfl) ?_ hS0 ?_
            rotate_left
            · intro w' hSw
              simp only [List.getElem_toArray, List.getElem_cons_succ, List.getElem_cons_zero]
              go_simp
              all_goals with_reducible rfl
            simp only [List.getElem_toArray, List.getElem_cons_succ, List.getElem_cons_zero, Act.put, List.setIfInBounds_toArray, List.set_cons_zero, List.set_cons_succ]
            refine wpE_step' 15 (of_decide_eq_true (by kernel_rfl)) (by kernel_rfl) (by kernel_rfl) (fun K hK => ?_)
            simp only [List.getElem_toArray, List.getElem_cons_succ, List.getElem_cons_zero]
            go_simp
            refine hK.out _ _ (.inl rfl) ?_
            clear hK K
            simp only [Act.put, List.setIfInBounds_toArray, List.set_cons_zero, List.set_cons_succ]
            refine wpE_done (by kernel_rfl) ?_ _
            have HQ8 := HQ7.out
            clear hS0 z0 z1 zf hD7 y7 hb7 HQ7 hQa hsza hbd hD5 x0 x1 p0 y0 hw2 hw3
            simp only [List.length_singleton] at HQ8
            generalize w5.setCell ⟨X, 1, none⟩ (.slice A5 (bs.length + 1) c5) = W8 at HQ8 ⊢
            go_wp2_with fail
            go_roundg (L.length - (k + 1))
            case measure => go_light; omega
            case rel => go_light; exact ⟨k + 1, _, A5, c5, by omega, rfl, by go_num, HQ8, HB2.out⟩
      · have hie : i = L.length := by omega
        have hlt' : ¬ (i : Int) < (L.length : Int) := by omega
        have HB2 : Hid (prPlan L F = ⟨N2, bs⟩) := by unfold Hid prPlan; rw [HN2.out, HB.out, hie]
        have Hok2 : Hid (planOk ⟨N2, bs⟩ = true) := by unfold Hid; rw [← HB2.out]; exact Hok.out
        obtain rfl : ⟨N2, bs⟩ = q := by rw [← Hq1.out]; exact HB2.out.symm
        obtain ⟨gq, hrq⟩ := OwnB.readsA hQ.own
        have hbl : bs.length ≤ 14 := by rw [HB.out]; exact prB_len4 L F (by omega)
        have hY1 := hY.below hQ.bel
        have hYl := hY.ex
        obtain ⟨x0, x1⟩ : _ ∧ _ := ⟨hQ.c0, hQ.c1⟩
        clear hie HB hD1
        go_wp2_with (go_at_call 49; go_fit (sPlanOk_c ⟨N2, bs⟩ A1 gq 0 c1 _ _ (by dsimp only; omega) (Nat.le_refl _) hrq); rintro e w5 ⟨rfl, hb6⟩; rw [Hok2.out]; have hQ5 := hQ.below hb6; have hY5 := hY1.below hb6; have z0 := hY5.z0; have z1 := hY5.z1; have zf0 := hY5.zf 0; have zf1 := hY5.zf 1; have q0 := hQ5.c0; have q1 := hQ5.c1)
        have hbel5 : Below w.heap.size w w5 := (hD.below hQ5.bel).bel
        have ne : (Value.slice A1 bs.length c1).ownBlock ≠ some (w.heap.size + 1) := fun e => by have := (hQ5.own.lt _ e).1; omega
        obtain ⟨r0, r1, ho2, hb7⟩ := hY5.fin (n := N2) hbel5 (own_less hQ5.own hD.bel.size) ne
        refine bodyPost_ret (v := .tuple #[.agg #[.int .i64 N2, .slice A1 bs.length c1], .bool true]) (by simp [results, Try.results12, go_sem, r0, r1]) rfl ?_
        obtain ⟨g, hr⟩ := OwnB.readsA ho2
        first | exact ⟨A1, c1, g, rfl, hr, ho2, hb7⟩ | exact ⟨A1, c1, rfl, ⟨g, hr⟩, ho2, hb7⟩
  · have hq2 : (⟨0, []⟩ : Pl) = q ∧ false = r := by
      unfold planV at hq
      have e : (projOk L F && decide (L.length ≤ 4)) = false := by
        rw [Bool.eq_false_iff]; intro h; simp only [Bool.and_eq_true, decide_eq_true_eq] at h; exact hc h
      rw [e] at hq
      exact ⟨congrArg Prod.fst hq, congrArg Prod.snd hq⟩
    obtain ⟨rfl, rfl⟩ := hq2
    obtain ⟨rp, hrp⟩ : ∃ rp, projOk L F = rp := ⟨_, rfl⟩
    have Hrp := hide hrp
    have Hc : Hid (rp = true → (4 : Int) < (L.length : Int)) := fun h => by
      have : ¬ L.length ≤ 4 := fun h4 => hc ⟨hrp.trans h, h4⟩
      omega
    clear hq hc hrp
    go_enter Try.func12, Try.ntmps12
    go_upto_region 1 with fail
    generalize (w.alloc (.cells #[.slice AL L.length cl, .slice AF F.length cf] 25)).alloc (.cells #[.int .i64 0, .slice none 0 0] 29) = W at hD hY ⊢
    have p0 := hD.c0
    have p1 := hD.c1
    cases rp
    all_goals
      try (have h4z := Hc.out rfl)
      go_wp2_with (go_at_call 48; go_fit (sProjectOk_c L F AL AF bl ol cl bf of' cf _ _ hll hlf (Nat.le_refl _) hD.rl hD.rf); rintro e w2 ⟨rfl, hb⟩; rw [Hrp.out]; replace hY := hY.below hb; have z0 := hY.z0; have z1 := hY.z1; have zf0 := hY.zf 0; have zf1 := hY.zf 1; replace hD := hD.below hb; clear p0 p1; have p0 := hD.c0; have p1 := hD.c1)
      obtain ⟨r0, r1, ho2, hb7⟩ := hY.fin (n := 0) (A := none) (c := 0) (bs := []) hD.bel (World.ownsRow_nil _ _ _ _) (by simp [Value.ownBlock])
      simp only [List.length_nil] at r0 r1 ho2 hb7
      refine bodyPost_ret (v := .tuple #[.agg #[.int .i64 0, .slice none 0 0], .bool false]) (by simp [results, Try.results12, go_sem, r0, r1]) rfl ?_
      first | exact ⟨none, 0, 0, rfl, BdsR.nil _ _ _, ho2, hb7⟩ | exact ⟨none, 0, rfl, ⟨0, BdsR.nil _ _ _⟩, ho2, hb7⟩
end Go.Proofs.Ytmgikoaeomieeaa
