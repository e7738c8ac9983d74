/-
  The draws of the reference: deals.
-/
import Derived.Test.YtdijfkpccbkdfaaD17a
import Derived.Test.YtdijfkpccbkdfaaD3
import Derived.Test.YtdijfkpccbkdfaaD1
import Derived.Test.YtdijfkpccbkdfaaS21
import Derived.Test.YtdijfkpccbkdfaaZ1
import Derived.Deep.CutBlock
namespace Go.Proofs.Ytdijfkpccbkdfaa
set_option linter.unusedVariables false
set_option linter.unusedSimpArgs false
open Go.RowKit Pp

set_option maxHeartbeats 4000000 in
set_option maxRecDepth 100000 in
theorem deal_c (g : Nat) (K m : Int) (w : World) (hK : 0 ≤ K ∧ K ≤ 10000000) (hm : 0 ≤ m ∧ m ≤ 100) (hR : RdO w g K) :
    Calls Try.prog 83 #[.pointer (some ⟨g, 0, none⟩), .int .i64 m] w fun e w' =>
      ∃ n A c bs A2 c2 ps, e = .returned (.agg #[.int .i64 n, .slice A bs.length c, .slice A2 ps.length c2]) ∧ (0 ≤ n ∧ n ≤ 7) ∧ bs.length ≤ 6 ∧ ps.length ≤ 3 ∧ Hid (∀ x ∈ ps, SmP x) ∧ ps.length ≤ c2 ∧ (∃ b, BdsR w' w'.heap.size b 0 A bs ∧ (0 < bs.length → w.heap.size < b)) ∧ (∃ b, CsR w' w'.heap.size b 0 A2 ps.length (prCs ps) ∧ (0 < ps.length → w.heap.size < b)) ∧ RdO w' g (K + 200) ∧ w.grownBy w' (some g) := by
  obtain ⟨hK0, hK1⟩ := hK
  obtain ⟨hm0, hm1⟩ := hm
  have hg := hR.lt
  obtain ⟨i0, hi0, hz0, hz1, hz2⟩ := info_parts infoPm
  go_enter Try.func83, Try.ntmps83
  go_wp2_with fail
  go_at_call 102
  refine (plan_c g K 0 _ ⟨hK0, by omega⟩ ⟨Int.le_refl 0, by decide⟩ (hR.alloc _)).mono ?_
  rintro e w1 ⟨n, A, c, bs, rfl, ⟨hn0, hn7⟩, hlen, hsm, hown, hR1, G1⟩
  go_upto_region 2 with fail
  have hJ := ds_new (n := n) (t := 25) G1 hg hR1 hown
  generalize w1.alloc (.cells #[.int .i64 n, .slice A bs.length c] 25) = wa at hJ ⊢
  generalize w1.heap.size = P at hJ ⊢
  clear hown hR1 G1 hR
  have p1 := hJ.js.c1
  have pf := hJ.js.cf 1
  go_upto_if 16 with fail
  go_cut [] (fun wx => ∃ A' c' bz, bz.length ≤ 6 ∧ Hid (∀ x ∈ bz, Sm x) ∧ DS w wx g P (K + 100) n A' c' bz)
  case first =>
    by_cases h6 : 6 < bs.length
    · have h6' : (6 : Int) < (bs.length : Int) := by omega
      have h66 : (6 : Nat) ≤ bs.length := by omega
      obtain ⟨q, hrd⟩ := hJ.js.reads
      obtain rfl := hrd.addr (by omega)
      obtain ⟨f, _, _, _, hcap, _⟩ := own_row hJ.js.own
      have hJ2 := hJ.take h66
      have hsm2 : ∀ x ∈ bs.take 6, Sm x := fun x hx => hsm x (List.mem_of_mem_take hx)
      have hlb : (bs.take 6).length = 6 := by simp; omega
      have Hlb := hide hlb
      clear hlb
      go_wp2_with fail
      go_meet
      case rel => exact ⟨_, c, bs.take 6, by rw [Hlb.out]; omega, hsm2, hJ2⟩
    · have h6' : ¬ (6 : Int) < (bs.length : Int) := by omega
      go_wp2_with fail
      go_meet
      case rel => exact ⟨A, c, bs, by omega, hsm, hJ⟩
  case rest =>
    clear hJ hsm p1 pf hlen
    obtain ⟨A', c, bz, hlb, hsm2, hJ2⟩ := hcut
    go_upto_block 0 with fail
    go_cut [] (fun wx => ∃ bs3, bs3.length = bz.length ∧ DS w wx g P (K + 112) n A' c bs3)
    case first =>
--BEGIN l1
      go_wp2_with fail
      go_loopg [6] bz.length (fun gh s wr => ∃ (k : Nat) (bs3 : List Bd), k ≤ bz.length ∧ gh = bz.length - k ∧ s = .int .i64 k ∧ bs3.length = bz.length ∧ Hid (∀ x ∈ bs3, Sm x) ∧ DS w wr g P (K + 100 + 2 * k) n A' c bs3)
      case atStart => exact ⟨0, bz, Nat.zero_le _, rfl, rfl, rfl, hsm2, hJ2.more (by omega)⟩
      case round =>
        clear hJ2 hsm2
        obtain ⟨k, bs3, hk, rfl, rfl, hl2, HS, hJ⟩ := hrel
        have p1 := hJ.js.c1
        by_cases hlk : k < bs3.length
        · have hlk' : (k : Int) < (bs3.length : Int) := by omega
          have hk0 : (0 : Int) ≤ (k : Int) := by omega
          obtain ⟨q, hrd⟩ := hJ.js.reads
          obtain rfl := hrd.addr (by omega)
          have hx := List.getElem?_eq_getElem hlk
          have hxs := HS.out _ (List.getElem_mem hlk)
          generalize bs3[k] = x at hx hxs
          go_upto_region 8 with (go_at_call 93; go_fit (pick_ds 2 _ hJ (by omega) (by omega)); rintro e w4 ⟨v, rfl, c1, c2, _, hJ2, G2, hs2⟩; have c2' := c2 (by omega))
          ·
            have p1' : w4.cell? ⟨P, 1, none⟩ = some (.slice (some ⟨q, 0, none⟩) bz.length c) := by rw [← hl2]; exact hJ2.js.c1
            obtain ⟨q', hrd4⟩ := hJ2.js.reads
            have e := hrd4.addr (by omega)
            cases e
            have m2 : w4.cell? ⟨q, k * 3 + 2, none⟩ = some (.int .i64 x.m) := by have := hrd4.c2 k x hx; rwa [Nat.zero_add] at this
            have hkb : k < bz.length := by omega
            have hkb' : (k : Int) < (bz.length : Int) := by omega
            refine wp_regionE (fun w' => w'.cell? ⟨P, 1, none⟩ = some (.slice (some ⟨q, 0, none⟩) bz.length c) ∧ w'.cell? ⟨q, k * 3 + 2, none⟩ = some (.int .i64 x.m)) 15 (by kernel_rfl) ?_
            change wpE _ _ _ _ _ _ 16 #[false, false, false, false, false, false, false, false, false, false, false, false, false, false, false, false] _ _
            have hS0 : w4.drew.cell? ⟨P, 1, none⟩ = some (.slice (some ⟨q, 0, none⟩) bz.length c) ∧ w4.drew.cell? ⟨q, k * 3 + 2, none⟩ = some (.int .i64 x.m) := ⟨p1', m2⟩
            refine wpE_take' (v := ?_) 0 [1, 13, 14, 15] (of_decide_eq_true (by kernel_rfl)) (by kernel_rfl) (by kernel_rfl) (by kernel_rfl) (by kernel_rfl) (fun _ _ _ h => h) (by kernel_rfl) ?_ hS0 ?_
            rotate_left
            · intro w' hSw
              simp only [List.getElem_toArray, List.getElem_cons_succ, List.getElem_cons_zero]
              go_simp
              all_goals with_reducible rfl
            simp only [List.getElem_toArray, List.getElem_cons_succ, List.getElem_cons_zero, Act.put, List.setIfInBounds_toArray, List.set_cons_zero, List.set_cons_succ]
            refine wpE_take' (v := ?_) 1 [13, 14, 15] (of_decide_eq_true (by kernel_rfl)) (by kernel_rfl) (by kernel_rfl) (by kernel_rfl) (by kernel_rfl) (fun _ _ _ h => h) (by kernel_rfl) ?_ hS0 ?_
            rotate_left
            · intro w' hSw
              simp only [List.getElem_toArray, List.getElem_cons_succ, List.getElem_cons_zero]
              go_simp
              all_goals with_reducible rfl
            simp only [List.getElem_toArray, List.getElem_cons_succ, List.getElem_cons_zero, Act.put, List.setIfInBounds_toArray, List.set_cons_zero, List.set_cons_succ]
            refine wpE_take' (v := ?_) 2 [13, 14, 15] (of_decide_eq_true (by kernel_rfl)) (by kernel_rfl) (by kernel_rfl) (by kernel_rfl) (by kernel_rfl) (fun _ _ _ h => h) (by kernel_rfl) ?_ hS0 ?_
            rotate_left
            · intro w' hSw
              simp only [List.getElem_toArray, List.getElem_cons_succ, List.getElem_cons_zero]
              go_simp
              all_goals with_reducible rfl
            simp only [List.getElem_toArray, List.getElem_cons_succ, List.getElem_cons_zero, Act.put, List.setIfInBounds_toArray, List.set_cons_zero, List.set_cons_succ]
            refine wpE_take' (v := ?_) 3 [4, 6, 7, 8, 11, 12, 13, 14, 15] (of_decide_eq_true (by kernel_rfl)) (by kernel_rfl) (by kernel_rfl) (by kernel_rfl) (by kernel_rfl) (fun _ _ _ h => h) (by kernel_rfl) ?_ hS0 ?_
            rotate_left
            · intro w' hSw
              simp only [List.getElem_toArray, List.getElem_cons_succ, List.getElem_cons_zero]
              go_simp
              all_goals with_reducible rfl
            simp only [List.getElem_toArray, List.getElem_cons_succ, List.getElem_cons_zero, Act.put, List.setIfInBounds_toArray, List.set_cons_zero, List.set_cons_succ]
            refine wpE_take' (v := ?_) 4 [6, 7, 8, 11, 12, 13, 14, 15] (of_decide_eq_true (by kernel_rfl)) (by kernel_rfl) (by kernel_rfl) (by kernel_rfl) (by kernel_rfl) (fun _ _ _ h => h) (by kernel_rfl) ?_ hS0 ?_
            rotate_left
            · intro w' hSw
              simp only [List.getElem_toArray, List.getElem_cons_succ, List.getElem_cons_zero]
              go_simp
              all_goals with_reducible rfl
            simp only [List.getElem_toArray, List.getElem_cons_succ, List.getElem_cons_zero, Act.put, List.setIfInBounds_toArray, List.set_cons_zero, List.set_cons_succ]
            refine wpE_take' (v := ?_) 5 [6, 7, 8, 11, 12, 13, 14, 15] (of_decide_eq_true (by kernel_rfl)) (by kernel_rfl) (by kernel_rfl) (by kernel_rfl) (by kernel_rfl) (fun _ _ _ h => h) (by kernel_rfl) ?_ hS0 ?_
            rotate_left
            · intro w' hSw
              simp only [List.getElem_toArray, List.getElem_cons_succ, List.getElem_cons_zero]
              go_simp
              all_goals with_reducible rfl
            simp only [List.getElem_toArray, List.getElem_cons_succ, List.getElem_cons_zero, Act.put, List.setIfInBounds_toArray, List.set_cons_zero, List.set_cons_succ]
            refine wpE_take' (v := ?_) 6 [7, 8, 11, 12, 13, 14, 15] (of_decide_eq_true (by kernel_rfl)) (by kernel_rfl) (by kernel_rfl) (by kernel_rfl) (by kernel_rfl) (fun _ _ _ h => h) (by kernel_rfl) ?_ hS0 ?_
            rotate_left
            · intro w' hSw
              simp only [List.getElem_toArray, List.getElem_cons_succ, List.getElem_cons_zero]
              go_simp
              all_goals with_reducible rfl
            simp only [List.getElem_toArray, List.getElem_cons_succ, List.getElem_cons_zero, Act.put, List.setIfInBounds_toArray, List.set_cons_zero, List.set_cons_succ]
            refine wpE_take' (v := ?_) 7 [8, 11, 12, 13, 14, 15] (of_decide_eq_true (by kernel_rfl)) (by kernel_rfl) (by kernel_rfl) (by kernel_rfl) (by kernel_rfl) (fun _ _ _ h => h) (by kernel_rfl) ?_ hS0 ?_
            rotate_left
            · intro w' hSw
              simp only [List.getElem_toArray, List.getElem_cons_succ, List.getElem_cons_zero]
              go_simp
              all_goals with_reducible rfl
            simp only [List.getElem_toArray, List.getElem_cons_succ, List.getElem_cons_zero, Act.put, List.setIfInBounds_toArray, List.set_cons_zero, List.set_cons_succ]
            refine wpE_take' (v := ?_) 8 [11, 12, 13, 14, 15] (of_decide_eq_true (by kernel_rfl)) (by kernel_rfl) (by kernel_rfl) (by kernel_rfl) (by kernel_rfl) (fun _ _ _ h => h) (by kernel_rfl) ?_ hS0 ?_
            rotate_left
            · intro w' hSw
              simp only [List.getElem_toArray, List.getElem_cons_succ, List.getElem_cons_zero]
              go_simp
              all_goals with_reducible rfl
            simp only [List.getElem_toArray, List.getElem_cons_succ, List.getElem_cons_zero, Act.put, List.setIfInBounds_toArray, List.set_cons_zero, List.set_cons_succ]
            refine wpE_take' (v := ?_) 9 [10, 11, 12, 13, 14, 15] (of_decide_eq_true (by kernel_rfl)) (by kernel_rfl) (by kernel_rfl) (by kernel_rfl) (by kernel_rfl) (fun _ _ _ h => h) (by kernel_rfl) ?_ hS0 ?_
            rotate_left
            · intro w' hSw
              simp only [List.getElem_toArray, List.getElem_cons_succ, List.getElem_cons_zero]
              go_simp
              all_goals with_reducible rfl
            simp only [List.getElem_toArray, List.getElem_cons_succ, List.getElem_cons_zero, Act.put, List.setIfInBounds_toArray, List.set_cons_zero, List.set_cons_succ]
            refine wpE_step' 10 (of_decide_eq_true (by kernel_rfl)) (by kernel_rfl) (by kernel_rfl) (fun K hK => ?_)
            simp only [List.getElem_toArray, List.getElem_cons_succ, List.getElem_cons_zero]
            go_simp
            go_at_call 93
            refine (pick_ds 12 _ hJ2.drew (by omega) (by omega)).mono ?_
            rintro e w5 ⟨v5, rfl, d1, d2, _, hJ5, G5, hs5⟩
            have d2' := d2 (by omega)
            have p5 : w5.cell? ⟨P, 1, none⟩ = some (.slice (some ⟨q, 0, none⟩) bz.length c) := by rw [← hl2]; exact hJ5.js.c1
            obtain ⟨q', hrd5⟩ := hJ5.js.reads
            have e := hrd5.addr (by omega)
            cases e
            have m5 : w5.cell? ⟨q, k * 3 + 2, none⟩ = some (.int .i64 x.m) := by have := hrd5.c2 k x hx; rwa [Nat.zero_add] at this
            have hxm := hxs.2.2
            obtain ⟨mv, hmv⟩ : ∃ mv, min (x.m + v5) 99 = mv := ⟨_, rfl⟩
            have hmin : (if (99 : Int) < IntKind.i64.wrap (x.m + v5) then (99 : Int) else IntKind.i64.wrap (x.m + v5)) = mv := by rw [IntWalk.i64_left, IntWalk.wrap64_in _ (by omega)]; split <;> omega
            have hmv2 : -1000 ≤ mv ∧ mv ≤ 1000 := by omega
            clear hmv
            obtain ⟨hJ6, mf⟩ := hJ5.put hx mv
            have HS6 : Hid (∀ y ∈ bs3.set k ⟨x.f, x.t, mv⟩, Sm y) := by
              intro y hy
              rcases List.mem_or_eq_of_mem_set hy with h | rfl
              · exact HS.out y h
              · exact ⟨hxs.1, hxs.2.1, hmv2⟩
            refine hK.out _ _ (.inr ⟨p5, m5⟩) ?_
            clear hK K
            simp only [Act.put, List.setIfInBounds_toArray, List.set_cons_zero, List.set_cons_succ]
            refine wpE_step' 11 (of_decide_eq_true (by kernel_rfl)) (by kernel_rfl) (by kernel_rfl) (fun K hK => ?_)
            simp only [List.getElem_toArray, List.getElem_cons_succ, List.getElem_cons_zero]
            go_simp
            refine hK.out _ _ (.inr ⟨p5, m5⟩) ?_
            clear hK K
            simp only [Act.put, List.setIfInBounds_toArray, List.set_cons_zero, List.set_cons_succ]
            refine wpE_step' 12 (of_decide_eq_true (by kernel_rfl)) (by kernel_rfl) (by kernel_rfl) (fun K hK => ?_)
            simp only [List.getElem_toArray, List.getElem_cons_succ, List.getElem_cons_zero]
            go_simp
            refine hK.out _ _ (.inr ⟨p5, m5⟩) ?_
            clear hK K
            simp only [Act.put, List.setIfInBounds_toArray, List.set_cons_zero, List.set_cons_succ]
            refine wpE_step' 13 (of_decide_eq_true (by kernel_rfl)) (by kernel_rfl) (by kernel_rfl) (fun K hK => ?_)
            simp only [List.getElem_toArray, List.getElem_cons_succ, List.getElem_cons_zero]
            go_simp
            refine hK.out _ _ (.inr ⟨p5, m5⟩) ?_
            clear hK K
            simp only [Act.put, List.setIfInBounds_toArray, List.set_cons_zero, List.set_cons_succ]
            refine wpE_step' 14 (of_decide_eq_true (by kernel_rfl)) (by kernel_rfl) (by kernel_rfl) (fun K hK => ?_)
            simp only [List.getElem_toArray, List.getElem_cons_succ, List.getElem_cons_zero]
            go_simp
            refine hK.out _ _ (.inr ⟨p5, m5⟩) ?_
            clear hK K
            simp only [Act.put, List.setIfInBounds_toArray, List.set_cons_zero, List.set_cons_succ]
            refine wpE_step' 15 (of_decide_eq_true (by kernel_rfl)) (by kernel_rfl) (by kernel_rfl) (fun K hK => ?_)
            simp only [List.getElem_toArray, List.getElem_cons_succ, List.getElem_cons_zero]
            go_simp
            refine hK.out _ _ (.inl rfl) ?_
            clear hK K
            simp only [Act.put, List.setIfInBounds_toArray, List.set_cons_zero, List.set_cons_succ]
            refine wpE_done (by kernel_rfl) ?_ _
            go_wp2_with fail
            go_roundg (bz.length - (k + 1))
            case measure => go_light; omega
            case rel => go_light; exact ⟨k + 1, _, by omega, rfl, rfl, by rw [List.length_set]; exact hl2, HS6, hJ6.more (by simp; omega)⟩
          · go_roundg (bz.length - (k + 1))
            case measure => go_light; omega
            case rel => go_light; exact ⟨k + 1, bs3, by omega, rfl, rfl, hl2, HS, hJ2.more (by omega)⟩
        · obtain rfl : k = bz.length := by omega
          have hlk' : ¬ (bz.length : Int) < (bz.length : Int) := by omega
          go_wp2_with fail
          go_meet
          case rel => exact ⟨bs3, hl2, hJ.more (by omega)⟩
--END l1
    case rest =>
      clear hJ2 hsm2
      obtain ⟨bs3, hl3, hJ⟩ := hcut
      have hlb3 : bs3.length ≤ 6 := by omega
      clear hl3 hlb
      have p0 := hJ.js.c0
      have p1 := hJ.js.c1
      have hQ := dq_new (t := 28) hJ
      go_upto_region 10 with fail
      generalize wc.alloc (.cells #[.int .i64 n, .slice A' bs3.length c, .slice none 0 0] 28) = wd at hQ ⊢
      generalize wc.heap.size = D at hQ ⊢
      clear hJ p0 p1
      go_upto_block 2 with (go_at_call 93; go_fit (pick_dq 3 _ hQ (by omega) (by omega)); rintro e w4 ⟨v, rfl, c1, c2, _, hQ2, G2, hs2⟩; have c2' := c2 (by omega))
      obtain ⟨jn, rfl⟩ := Int.eq_ofNat_of_zero_le c1
      go_cut [] (fun wx => ∃ A2 c2 ps, ps.length ≤ 2 ∧ Hid (∀ x ∈ ps, SmP x) ∧ DQ w wx g P D (K + 140) n A' c bs3 A2 c2 ps)
      case first =>
        clear c2 c1 hQ G2 hs2
        go_wp2_with fail
        go_loopg [8] (jn + 1) (fun gh s wr => ∃ (j : Nat) (A2 : Option Addr) (c2 : Nat) (ps : List Pr), gh = j + 1 ∧ s = .int .i64 j ∧ j ≤ 2 ∧ ps.length + j ≤ 2 ∧ Hid (∀ x ∈ ps, SmP x) ∧ DQ w wr g P D (K + 134 - 10 * j) n A' c bs3 A2 c2 ps)
        case atStart => exact ⟨jn, none, 0, [], rfl, rfl, by omega, by simp; omega, by simp [Hid], hQ2.more (by omega)⟩
        case round =>
          clear hQ2 c2'
          obtain ⟨j, A2, c2, ps, rfl, rfl, hj2, hpj, HP, hQ⟩ := hrel
          have p0 := hQ.ds.js.c0
          by_cases hj : j = 0
          · subst hj
            go_wp2_with fail
            go_meet
            case rel => exact ⟨A2, c2, ps, by omega, HP, hQ.more (by omega)⟩
          · have hj0 : (0 : Int) < (j : Int) := by omega
            by_cases hn : 1 < n
            · go_upto_region 14 with (go_at_call 93; go_fit (pick_dq 7 _ hQ (by omega) (by omega)); rintro e w5 ⟨low, rfl, c1, c2, _, hQ5, _, _⟩; have c2' := c2 (by omega))
              clear hQ p0 c2
              go_cut [10] (fun s wx => ∃ (X : Nat) (A3 : Option Addr) (c3 : Nat) (ps3 : List Pr), s = .pointer (some ⟨X, 0, none⟩) ∧ ps3.length = ps.length + 1 ∧ Hid (∀ x ∈ ps3, SmP x) ∧ XQ wx D X n A' c bs3 A3 c3 ps3 ∧ DQ w wx g P D (K + 134 - 10 * j + 4) n A' c bs3 A2 c2 ps)
              case first =>
--BEGIN l2
                have hJ : DR w w5.drew g P D (K + 134 - 10 * j + 1) n A' c bs3 A2 c2 ps (.slice none 0 0) 0 [] := ⟨hQ5.drew, ⟨rfl, .inl ⟨rfl, rfl⟩⟩⟩
                refine wp_regionE (fun w' => w'.cell? ⟨P, 0, none⟩ = some (.int .i64 n) ∧ w'.cell? ⟨P, 1, none⟩ = some (.slice A' bs3.length c) ∧ w'.cell? ⟨D, 2, none⟩ = some (.slice A2 ps.length c2)) 23 (by kernel_rfl) ?_
                change wpE _ _ _ _ _ _ 24 #[false, false, false, false, false, false, false, false, false, false, false, false, false, false, false, false, false, false, false, false, false, false, false, false] _ _
                have hS0 := hJ.cells
                refine wpE_take' (v := ?_) 0 [23] (of_decide_eq_true (by kernel_rfl)) (by kernel_rfl) (by kernel_rfl) (by kernel_rfl) (by kernel_rfl) (fun _ _ _ h => h) (by kernel_rfl) ?_ hS0 ?_
                rotate_left
                · intro w' hSw
                  simp only [List.getElem_toArray, List.getElem_cons_succ, List.getElem_cons_zero]
                  go_simp
                  all_goals with_reducible rfl
                simp only [List.getElem_toArray, List.getElem_cons_succ, List.getElem_cons_zero, Act.put, List.setIfInBounds_toArray, List.set_cons_zero, List.set_cons_succ]
                refine wpE_take' (v := ?_) 2 [23] (of_decide_eq_true (by kernel_rfl)) (by kernel_rfl) (by kernel_rfl) (by kernel_rfl) (by kernel_rfl) (fun _ _ _ h => h) (by kernel_rfl) ?_ hS0 ?_
                rotate_left
                · intro w' hSw
                  simp only [List.getElem_toArray, List.getElem_cons_succ, List.getElem_cons_zero]
                  go_simp
                  all_goals with_reducible rfl
                simp only [List.getElem_toArray, List.getElem_cons_succ, List.getElem_cons_zero, Act.put, List.setIfInBounds_toArray, List.set_cons_zero, List.set_cons_succ]
                refine wpE_take' (v := ?_) 3 [23] (of_decide_eq_true (by kernel_rfl)) (by kernel_rfl) (by kernel_rfl) (by kernel_rfl) (by kernel_rfl) (fun _ _ _ h => h) (by kernel_rfl) ?_ hS0 ?_
                rotate_left
                · intro w' hSw
                  simp only [List.getElem_toArray, List.getElem_cons_succ, List.getElem_cons_zero]
                  go_simp
                  all_goals with_reducible rfl
                simp only [List.getElem_toArray, List.getElem_cons_succ, List.getElem_cons_zero, Act.put, List.setIfInBounds_toArray, List.set_cons_zero, List.set_cons_succ]
                refine wpE_take' (v := ?_) 5 [23] (of_decide_eq_true (by kernel_rfl)) (by kernel_rfl) (by kernel_rfl) (by kernel_rfl) (by kernel_rfl) (fun _ _ _ h => h) (by kernel_rfl) ?_ hS0 ?_
                rotate_left
                · intro w' hSw
                  simp only [List.getElem_toArray, List.getElem_cons_succ, List.getElem_cons_zero]
                  go_simp
                  all_goals with_reducible rfl
                simp only [List.getElem_toArray, List.getElem_cons_succ, List.getElem_cons_zero, Act.put, List.setIfInBounds_toArray, List.set_cons_zero, List.set_cons_succ]
                refine wpE_take' (v := ?_) 6 [23] (of_decide_eq_true (by kernel_rfl)) (by kernel_rfl) (by kernel_rfl) (by kernel_rfl) (by kernel_rfl) (fun _ _ _ h => h) (by kernel_rfl) ?_ hS0 ?_
                rotate_left
                · intro w' hSw
                  simp only [List.getElem_toArray, List.getElem_cons_succ, List.getElem_cons_zero]
                  go_simp
                  all_goals with_reducible rfl
                simp only [List.getElem_toArray, List.getElem_cons_succ, List.getElem_cons_zero, Act.put, List.setIfInBounds_toArray, List.set_cons_zero, List.set_cons_succ]
                refine wpE_take' (v := ?_) 7 [23] (of_decide_eq_true (by kernel_rfl)) (by kernel_rfl) (by kernel_rfl) (by kernel_rfl) (by kernel_rfl) (fun _ _ _ h => h) (by kernel_rfl) ?_ hS0 ?_
                rotate_left
                · intro w' hSw
                  simp only [List.getElem_toArray, List.getElem_cons_succ, List.getElem_cons_zero]
                  go_simp
                  all_goals with_reducible rfl
                simp only [List.getElem_toArray, List.getElem_cons_succ, List.getElem_cons_zero, Act.put, List.setIfInBounds_toArray, List.set_cons_zero, List.set_cons_succ]
                refine wpE_take' (v := ?_) 9 [23] (of_decide_eq_true (by kernel_rfl)) (by kernel_rfl) (by kernel_rfl) (by kernel_rfl) (by kernel_rfl) (fun _ _ _ h => h) (by kernel_rfl) ?_ hS0 ?_
                rotate_left
                · intro w' hSw
                  simp only [List.getElem_toArray, List.getElem_cons_succ, List.getElem_cons_zero]
                  go_simp
                  all_goals with_reducible rfl
                simp only [List.getElem_toArray, List.getElem_cons_succ, List.getElem_cons_zero, Act.put, List.setIfInBounds_toArray, List.set_cons_zero, List.set_cons_succ]
                refine wpE_take' (v := ?_) 10 [23] (of_decide_eq_true (by kernel_rfl)) (by kernel_rfl) (by kernel_rfl) (by kernel_rfl) (by kernel_rfl) (fun _ _ _ h => h) (by kernel_rfl) ?_ hS0 ?_
                rotate_left
                · intro w' hSw
                  simp only [List.getElem_toArray, List.getElem_cons_succ, List.getElem_cons_zero]
                  go_simp
                  all_goals with_reducible rfl
                simp only [List.getElem_toArray, List.getElem_cons_succ, List.getElem_cons_zero, Act.put, List.setIfInBounds_toArray, List.set_cons_zero, List.set_cons_succ]
                refine wpE_take' (v := ?_) 11 [23] (of_decide_eq_true (by kernel_rfl)) (by kernel_rfl) (by kernel_rfl) (by kernel_rfl) (by kernel_rfl) (fun _ _ _ h => h) (by kernel_rfl) ?_ hS0 ?_
                rotate_left
                · intro w' hSw
                  simp only [List.getElem_toArray, List.getElem_cons_succ, List.getElem_cons_zero]
                  go_simp
                  all_goals with_reducible rfl
                simp only [List.getElem_toArray, List.getElem_cons_succ, List.getElem_cons_zero, Act.put, List.setIfInBounds_toArray, List.set_cons_zero, List.set_cons_succ]
                refine wpE_take' (v := ?_) 13 [23] (of_decide_eq_true (by kernel_rfl)) (by kernel_rfl) (by kernel_rfl) (by kernel_rfl) (by kernel_rfl) (fun _ _ _ h => h) (by kernel_rfl) ?_ hS0 ?_
                rotate_left
                · intro w' hSw
                  simp only [List.getElem_toArray, List.getElem_cons_succ, List.getElem_cons_zero]
                  go_simp
                  all_goals with_reducible rfl
                simp only [List.getElem_toArray, List.getElem_cons_succ, List.getElem_cons_zero, Act.put, List.setIfInBounds_toArray, List.set_cons_zero, List.set_cons_succ]
                refine wpE_take' (v := ?_) 14 [23] (of_decide_eq_true (by kernel_rfl)) (by kernel_rfl) (by kernel_rfl) (by kernel_rfl) (by kernel_rfl) (fun _ _ _ h => h) (by kernel_rfl) ?_ hS0 ?_
                rotate_left
                · intro w' hSw
                  simp only [List.getElem_toArray, List.getElem_cons_succ, List.getElem_cons_zero]
                  go_simp
                  all_goals with_reducible rfl
                simp only [List.getElem_toArray, List.getElem_cons_succ, List.getElem_cons_zero, Act.put, List.setIfInBounds_toArray, List.set_cons_zero, List.set_cons_succ]
                refine wpE_take' (v := ?_) 15 [23] (of_decide_eq_true (by kernel_rfl)) (by kernel_rfl) (by kernel_rfl) (by kernel_rfl) (by kernel_rfl) (fun _ _ _ h => h) (by kernel_rfl) ?_ hS0 ?_
                rotate_left
                · intro w' hSw
                  simp only [List.getElem_toArray, List.getElem_cons_succ, List.getElem_cons_zero]
                  go_simp
                  all_goals with_reducible rfl
                simp only [List.getElem_toArray, List.getElem_cons_succ, List.getElem_cons_zero, Act.put, List.setIfInBounds_toArray, List.set_cons_zero, List.set_cons_succ]
                refine wpF_start 22 10 (fun wx => DR w wx g P D (K + 134 - 10 * j + 1) n A' c bs3 A2 c2 ps (.slice none 0 0) 0 []) (fun z wx => BZ wx D (.slice none 0 0) (.slice A2 ps.length c2) z) (of_decide_eq_true (by kernel_rfl)) rfl hJ (fun fl z hB => ?_)
                simp only [Act.put, List.setIfInBounds_toArray, List.set_cons_zero, List.set_cons_succ]
                apply wpF_step (f := 22) (fl := fl) (z := z) (J := fun wx => DR w wx g P D (K + 134 - 10 * j + 1) n A' c bs3 A2 c2 ps (.slice none 0 0) 0 []) (B := fun z wx => BZ wx D (.slice none 0 0) (.slice A2 ps.length c2) z) 1
                case hi => exact of_decide_eq_true (by kernel_rfl)
                case hg => kernel_rfl
                case hr0 => kernel_rfl
                case hr1 => kernel_rfl
                case hL => kernel_rfl
                case hJ => exact hJ
                case hB => exact hB
                case hF =>
                  refine floats_of (of_decide_eq_true (by kernel_rfl)) (by kernel_rfl) (by kernel_rfl) (fun wx hJ => hJ.cells) ?_
                  (try clear hS0); clear hJ hB
                  intro z wx hJ K hK
                  simp only [List.getElem_toArray, List.getElem_cons_succ, List.getElem_cons_zero]
                  go_simp
                  exact hK.out _ _ (hJ.alloc _) hJ.bz
                (try clear hS0); clear hJ hB
                intro fl z wx hJ hB K hK
                simp only [List.getElem_toArray, List.getElem_cons_succ, List.getElem_cons_zero]
                go_simp
                refine hK.out _ _ (.inr (hJ.empty rfl).cells) ?_
                clear hK K
                have hE : (Value.slice A2 ps.length c2).ownBlock ≠ some wx.heap.size := fun e => by have := (hJ.q.own.lt _ e).2; omega
                replace hB := fun h => (hB h).fresh (v' := .slice (some ⟨wx.heap.size, 0, none⟩) 0 0) (.cells #[] 40) rfl
                replace hJ := hJ.empty (t := 40) rfl
                simp only [Act.put, List.setIfInBounds_toArray, List.set_cons_zero, List.set_cons_succ]
                generalize wx.alloc (.cells #[] 40) = wx' at hJ hB ⊢
                generalize wx.heap.size = E at hJ hB hE ⊢
                clear wx
                apply wpF_step (f := 22) (fl := fl) (z := z) (J := fun wx => DR w wx g P D (K + 134 - 10 * j + 1) n A' c bs3 A2 c2 ps (.slice (some ⟨E, 0, none⟩) 0 0) 0 []) (B := fun z wx => BZ wx D (.slice (some ⟨E, 0, none⟩) 0 0) (.slice A2 ps.length c2) z) 4
                case hi => exact of_decide_eq_true (by kernel_rfl)
                case hg => kernel_rfl
                case hr0 => kernel_rfl
                case hr1 => kernel_rfl
                case hL => kernel_rfl
                case hJ => exact hJ
                case hB => exact hB
                case hF =>
                  refine floats_of (of_decide_eq_true (by kernel_rfl)) (by kernel_rfl) (by kernel_rfl) (fun wx hJ => hJ.cells) ?_
                  (try clear hS0); clear hJ hB
                  intro z wx hJ K hK
                  simp only [List.getElem_toArray, List.getElem_cons_succ, List.getElem_cons_zero]
                  go_simp
                  exact hK.out _ _ (hJ.alloc _) hJ.bz
                (try clear hS0); clear hJ hB
                intro fl z wx hJ hB K hK
                simp only [List.getElem_toArray, List.getElem_cons_succ, List.getElem_cons_zero]
                refine app_wp _ (.tmp 62) (.tmp 64) _ rfl (D + 1) 40 i0 _ 4 32 Try.underlying26 hi0 hz0 hz1 hz2 rfl (by omega) (.slice (some ⟨E, 0, none⟩) 0 0) 0 [] rfl hJ.own A2 ps.length c2 (prCs ps) rfl (prCs_length ps) (own_news hJ.q.own) (prCs_one ps) (by omega) (by omega) (by have := hJ.q.ex; omega) ?_
                intro A4 c4 w4 hown4 hg4 hat4
                simp only [Nat.zero_add, List.nil_append] at hown4 hat4 ⊢
                have hE4 : ∀ k, (Value.slice A4 ps.length c4).ownBlock = some k → (Value.slice A2 ps.length c2).ownBlock ≠ some k := fun k e e2 => by
                  rcases hat4 with h | h <;> rw [h] at e
                  · rw [← e] at e2; exact hE e2
                  · have := (hJ.q.own.lt _ e2).2; have e3 := Option.some.inj e; omega
                replace hB := fun h => (hB h).app hg4 hat4
                replace hJ := hJ.app hg4 (fun k e => by rw [← e]; exact hE) hown4
                refine hK.out _ _ (.inr hJ.cells) ?_
                clear hK K hown4 hg4 hat4 hE
                simp only [Act.put, List.setIfInBounds_toArray, List.set_cons_zero, List.set_cons_succ]
                apply wpF_step (f := 22) (fl := fl) (z := z) (J := fun wx => DR w wx g P D (K + 134 - 10 * j + 1) n A' c bs3 A2 c2 ps (.slice A4 ps.length c4) ps.length (prCs ps)) (B := fun z wx => BZ wx D (.slice A4 ps.length c4) (.slice A2 ps.length c2) z) 8
                case hi => exact of_decide_eq_true (by kernel_rfl)
                case hg => kernel_rfl
                case hr0 => kernel_rfl
                case hr1 => kernel_rfl
                case hL => kernel_rfl
                case hJ => exact hJ
                case hB => exact hB
                case hF =>
                  refine floats_of (of_decide_eq_true (by kernel_rfl)) (by kernel_rfl) (by kernel_rfl) (fun wx hJ => hJ.cells) ?_
                  (try clear hS0); clear hJ hB
                  intro z wx hJ K hK
                  simp only [List.getElem_toArray, List.getElem_cons_succ, List.getElem_cons_zero]
                  go_simp
                  exact hK.out _ _ (hJ.alloc _) hJ.bz
                (try clear hS0); clear hJ hB
                intro fl z wx hJ hB K hK
                simp only [List.getElem_toArray, List.getElem_cons_succ, List.getElem_cons_zero]
                go_simp
                go_at_call 93
                refine (pick_dq n _ hJ.q (by omega) (by omega)).mono ?_
                rintro e wy ⟨v1, rfl, d1v1, d2v1, -, hQy, hGy, -⟩
                replace d2v1 := d2v1 (by omega)
                replace hB := fun h => (hB h).picked hGy hJ.gD
                replace hJ := hJ.picked hQy hGy
                refine hK.out _ _ (.inr hJ.cells) ?_
                clear hK K hQy hGy wx
                simp only [Act.put, List.setIfInBounds_toArray, List.set_cons_zero, List.set_cons_succ]
                apply wpF_step (f := 22) (fl := fl) (z := z) (J := fun wx => DR w wx g P D (K + 134 - 10 * j + 1 + 1) n A' c bs3 A2 c2 ps (.slice A4 ps.length c4) ps.length (prCs ps)) (B := fun z wx => BZ wx D (.slice A4 ps.length c4) (.slice A2 ps.length c2) z) 12
                case hi => exact of_decide_eq_true (by kernel_rfl)
                case hg => kernel_rfl
                case hr0 => kernel_rfl
                case hr1 => kernel_rfl
                case hL => kernel_rfl
                case hJ => exact hJ
                case hB => exact hB
                case hF =>
                  refine floats_of (of_decide_eq_true (by kernel_rfl)) (by kernel_rfl) (by kernel_rfl) (fun wx hJ => hJ.cells) ?_
                  (try clear hS0); clear hJ hB
                  intro z wx hJ K hK
                  simp only [List.getElem_toArray, List.getElem_cons_succ, List.getElem_cons_zero]
                  go_simp
                  exact hK.out _ _ (hJ.alloc _) hJ.bz
                (try clear hS0); clear hJ hB
                intro fl z wx hJ hB K hK
                simp only [List.getElem_toArray, List.getElem_cons_succ, List.getElem_cons_zero]
                go_simp
                go_at_call 93
                refine (pick_dq n _ hJ.q (by omega) (by omega)).mono ?_
                rintro e wy ⟨v2, rfl, d1v2, d2v2, -, hQy, hGy, -⟩
                replace d2v2 := d2v2 (by omega)
                replace hB := fun h => (hB h).picked hGy hJ.gD
                replace hJ := hJ.picked hQy hGy
                refine hK.out _ _ (.inr hJ.cells) ?_
                clear hK K hQy hGy wx
                simp only [Act.put, List.setIfInBounds_toArray, List.set_cons_zero, List.set_cons_succ]
                apply wpF_step (f := 22) (fl := fl) (z := z) (J := fun wx => DR w wx g P D (K + 134 - 10 * j + 1 + 1 + 1) n A' c bs3 A2 c2 ps (.slice A4 ps.length c4) ps.length (prCs ps)) (B := fun z wx => BZ wx D (.slice A4 ps.length c4) (.slice A2 ps.length c2) z) 16
                case hi => exact of_decide_eq_true (by kernel_rfl)
                case hg => kernel_rfl
                case hr0 => kernel_rfl
                case hr1 => kernel_rfl
                case hL => kernel_rfl
                case hJ => exact hJ
                case hB => exact hB
                case hF =>
                  refine floats_of (of_decide_eq_true (by kernel_rfl)) (by kernel_rfl) (by kernel_rfl) (fun wx hJ => hJ.cells) ?_
                  (try clear hS0); clear hJ hB
                  intro z wx hJ K hK
                  simp only [List.getElem_toArray, List.getElem_cons_succ, List.getElem_cons_zero]
                  go_simp
                  exact hK.out _ _ (hJ.alloc _) hJ.bz
                (try clear hS0); clear hJ hB
                intro fl z wx hJ hB K hK
                simp only [List.getElem_toArray, List.getElem_cons_succ, List.getElem_cons_zero]
                go_simp
                go_at_call 93
                refine (pick_dq 6 _ hJ.q (by omega) (by omega)).mono ?_
                rintro e wy ⟨v3, rfl, d1v3, d2v3, -, hQy, hGy, -⟩
                replace d2v3 := d2v3 (by omega)
                replace hB := fun h => (hB h).picked hGy hJ.gD
                replace hJ := hJ.picked hQy hGy
                refine hK.out _ _ (.inr hJ.cells) ?_
                clear hK K hQy hGy wx
                simp only [Act.put, List.setIfInBounds_toArray, List.set_cons_zero, List.set_cons_succ]
                have hwrap : IntKind.i64.wrap (low + v3) = low + v3 := by rw [IntWalk.i64_left, IntWalk.wrap64_in _ (by omega)]
                have hS0 := hJ.cells
                apply wpF_take (z := z) 17 [23]
                case hi => exact of_decide_eq_true (by kernel_rfl)
                case hl0 => kernel_rfl
                case hl1 => kernel_rfl
                case hs => kernel_rfl
                case hf0 => kernel_rfl
                case hf1 => kernel_rfl
                case hr0 => kernel_rfl
                case hr1 => kernel_rfl
                case hQ => exact fun _ _ _ h => h
                case hg => kernel_rfl
                case hS => exact hS0
                case hy =>
                  intro w' hSw
                  simp only [List.getElem_toArray, List.getElem_cons_succ, List.getElem_cons_zero]
                  go_simp
                  all_goals with_reducible rfl
                simp only [List.getElem_toArray, List.getElem_cons_succ, List.getElem_cons_zero, Act.put, List.setIfInBounds_toArray, List.set_cons_zero, List.set_cons_succ]
                apply wpF_take (z := z) 18 [23]
                case hi => exact of_decide_eq_true (by kernel_rfl)
                case hl0 => kernel_rfl
                case hl1 => kernel_rfl
                case hs => kernel_rfl
                case hf0 => kernel_rfl
                case hf1 => kernel_rfl
                case hr0 => kernel_rfl
                case hr1 => kernel_rfl
                case hQ => exact fun _ _ _ h => h
                case hg => kernel_rfl
                case hS => exact hS0
                case hy =>
                  intro w' hSw
                  simp only [List.getElem_toArray, List.getElem_cons_succ, List.getElem_cons_zero]
                  go_simp
                  all_goals with_reducible rfl
                simp only [List.getElem_toArray, List.getElem_cons_succ, List.getElem_cons_zero, Act.put, List.setIfInBounds_toArray, List.set_cons_zero, List.set_cons_succ]
                apply wpF_step (f := 22) (fl := fl) (z := z) (J := fun wx => DR w wx g P D (K + 134 - 10 * j + 1 + 1 + 1 + 1) n A' c bs3 A2 c2 ps (.slice A4 ps.length c4) ps.length (prCs ps)) (B := fun z wx => BZ wx D (.slice A4 ps.length c4) (.slice A2 ps.length c2) z) 19
                case hi => exact of_decide_eq_true (by kernel_rfl)
                case hg => kernel_rfl
                case hr0 => kernel_rfl
                case hr1 => kernel_rfl
                case hL => kernel_rfl
                case hJ => exact hJ
                case hB => exact hB
                case hF =>
                  refine floats_of (of_decide_eq_true (by kernel_rfl)) (by kernel_rfl) (by kernel_rfl) (fun wx hJ => hJ.cells) ?_
                  (try clear hS0); clear hJ hB
                  intro z wx hJ K hK
                  simp only [List.getElem_toArray, List.getElem_cons_succ, List.getElem_cons_zero]
                  go_simp
                  exact hK.out _ _ (hJ.alloc _) hJ.bz
                (try clear hS0); clear hJ hB
                intro fl z wx hJ hB K hK
                simp only [List.getElem_toArray, List.getElem_cons_succ, List.getElem_cons_zero]
                go_simp
                have hJ2 := dv_new hJ [.int .i64 v1, .int .i64 v2, .int .i64 low, .int .i64 (low + v3)] 40
                refine hK.out _ _ (.inr hJ2.cells) ?_
                clear hK K
                replace hB := fun h => (hB h).below (show Below wx.heap.size wx (wx.alloc (.cells #[.int .i64 v1, .int .i64 v2, .int .i64 low, .int .i64 (low + v3)] 40)) by go_grown)
                clear hJ
                have hJ := hJ2
                clear hJ2
                simp only [Act.put, List.setIfInBounds_toArray, List.set_cons_zero, List.set_cons_succ]
                change wpE _ _ _ _ _ _ _ _ _ (wx.alloc (.cells #[.int .i64 v1, .int .i64 v2, .int .i64 low, .int .i64 (low + v3)] 40))
                change DV w (wx.alloc (.cells #[.int .i64 v1, .int .i64 v2, .int .i64 low, .int .i64 (low + v3)] 40)) g P D _ n A' c bs3 A2 c2 ps _ _ _ _ _ at hJ
                generalize wx.alloc (.cells #[.int .i64 v1, .int .i64 v2, .int .i64 low, .int .i64 (low + v3)] 40) = wx' at hJ hB ⊢
                generalize wx.heap.size = V at hJ hB ⊢
                clear wx
                apply wpF_step (f := 22) (fl := fl) (z := z) (J := fun wx => DV w wx g P D (K + 134 - 10 * j + 1 + 1 + 1 + 1) n A' c bs3 A2 c2 ps (.slice A4 ps.length c4) ps.length (prCs ps) V [.int .i64 v1, .int .i64 v2, .int .i64 low, .int .i64 (low + v3)]) (B := fun z wx => BZ wx D (.slice A4 ps.length c4) (.slice A2 ps.length c2) z) 20
                case hi => exact of_decide_eq_true (by kernel_rfl)
                case hg => kernel_rfl
                case hr0 => kernel_rfl
                case hr1 => kernel_rfl
                case hL => kernel_rfl
                case hJ => exact hJ
                case hB => exact hB
                case hF =>
                  refine floats_of (of_decide_eq_true (by kernel_rfl)) (by kernel_rfl) (by kernel_rfl) (fun wx hJ => hJ.cells) ?_
                  (try clear hS0); clear hJ hB
                  intro z wx hJ K hK
                  simp only [List.getElem_toArray, List.getElem_cons_succ, List.getElem_cons_zero]
                  go_simp
                  exact hK.out _ _ (hJ.alloc _) hJ.bz
                (try clear hS0); clear hJ hB
                intro fl z wx hJ hB K hK
                simp only [List.getElem_toArray, List.getElem_cons_succ, List.getElem_cons_zero]
                refine app_wp _ (.tmp 65) (.tmp 80) _ rfl (D + 1) 40 i0 _ 4 32 Try.underlying26 hi0 hz0 hz1 hz2 rfl (by omega) (.slice A4 ps.length c4) ps.length (prCs ps) rfl hJ.d.own (some ⟨V, 0, none⟩) 1 _ [.int .i64 v1, .int .i64 v2, .int .i64 low, .int .i64 (low + v3)] rfl rfl hJ.cb.news (by simp [Value.oneCell']) (by omega) (by omega) (by have := hJ.d.q.ex; omega) ?_
                intro A5 c5 w5 hown5 hg5 hat5
                replace hB := fun h => (hB h).app hg5 hat5
                have hap : prCs ps ++ [.int .i64 v1, .int .i64 v2, .int .i64 low, .int .i64 (low + v3)] = prCs (ps ++ [⟨v1, v2, low, low + v3⟩]) := (prCs_append ps [⟨v1, v2, low, low + v3⟩]).symm
                rw [hap] at hown5
                have hJ2 := hJ.d.app hg5 hE4 hown5
                clear hJ
                have hJ := hJ2
                clear hJ2 hown5 hg5 hat5 hap hE4
                refine hK.out _ _ (.inr hJ.cells) ?_
                clear hK K wx
                simp only [Act.put, List.setIfInBounds_toArray, List.set_cons_zero, List.set_cons_succ]
                have hS0 := hJ.cells
                apply wpF_take (z := z) 21 [23]
                case hi => exact of_decide_eq_true (by kernel_rfl)
                case hl0 => kernel_rfl
                case hl1 => kernel_rfl
                case hs => kernel_rfl
                case hf0 => kernel_rfl
                case hf1 => kernel_rfl
                case hr0 => kernel_rfl
                case hr1 => kernel_rfl
                case hQ => exact fun _ _ _ h => h
                case hg => kernel_rfl
                case hS => exact hS0
                case hy =>
                  intro w' hSw
                  simp only [List.getElem_toArray, List.getElem_cons_succ, List.getElem_cons_zero]
                  go_simp
                  all_goals with_reducible rfl
                simp only [List.getElem_toArray, List.getElem_cons_succ, List.getElem_cons_zero, Act.put, List.setIfInBounds_toArray, List.set_cons_zero, List.set_cons_succ]
                apply wpF_end (f := 22) (fl := fl) (z := z) (J := fun wx => DR w wx g P D (K + 134 - 10 * j + 1 + 1 + 1 + 1) n A' c bs3 A2 c2 ps (.slice A5 (ps.length + 1) c5) (ps.length + 1) (prCs (ps ++ [⟨v1, v2, low, low + v3⟩]))) (B := fun z wx => BZ wx D (.slice A5 (ps.length + 1) c5) (.slice A2 ps.length c2) z)
                case hr0 => kernel_rfl
                case hL => kernel_rfl
                case hJ => exact hJ
                case hB => exact hB
                case hF =>
                  refine floats_of (of_decide_eq_true (by kernel_rfl)) (by kernel_rfl) (by kernel_rfl) (fun wx hJ => hJ.cells) ?_
                  (try clear hS0); clear hJ hB
                  intro z wx hJ K hK
                  simp only [List.getElem_toArray, List.getElem_cons_succ, List.getElem_cons_zero]
                  go_simp
                  exact hK.out _ _ (hJ.alloc _) hJ.bz
                (try clear hS0); clear hJ hB
                intro z wx hJ hB
                obtain ⟨X, rfl, hX, hv, hu⟩ := hB
                have x0 := hX.x0
                have x1 := hX.x1
                have x2 := hX.x2
                have xf0 := hX.xf 0
                have xf1 := hX.xf 1
                have xf2 := hX.xf 2
                have hlq : (ps ++ [(⟨v1, v2, low, low + v3⟩ : Pr)]).length = ps.length + 1 := by simp
                obtain ⟨hQ7, hX7⟩ := hJ.put hlq hX hv hu
                have HP7 : Hid (∀ x ∈ ps ++ [(⟨v1, v2, low, low + v3⟩ : Pr)], SmP x) := by
                  intro x hx
                  rcases List.mem_append.1 hx with h | h
                  · exact HP.out x h
                  · rw [List.mem_singleton] at h; subst h; exact ⟨⟨by dsimp only; omega, by dsimp only; omega⟩, by dsimp only; omega, by dsimp only; omega⟩
                have Hlq := hide hlq
                clear hlq hJ hX hv hu
                refine wpE_step' 23 (of_decide_eq_true (by kernel_rfl)) (by kernel_rfl) (by kernel_rfl) (fun K hK => ?_)
                simp only [List.getElem_toArray, List.getElem_cons_succ, List.getElem_cons_zero]
                go_simp
                refine hK.out _ _ (.inl rfl) ?_
                clear hK K
                simp only [Act.put, List.setIfInBounds_toArray, List.set_cons_zero, List.set_cons_succ]
                refine wpE_done (by kernel_rfl) ?_ _
                clear x0 x1 x2 xf0 xf1 xf2
                generalize ((wx.setCell ⟨X, 0, none⟩ (.int .i64 n)).setCell ⟨X, 1, none⟩ (.slice A' bs3.length c)).setCell ⟨X, 2, none⟩ (.slice A5 (ps.length + 1) c5) = W7 at hQ7 hX7 ⊢
                go_wp2_with fail
                go_meet
                case rel => exact ⟨X, A5, c5, _, rfl, Hlq.out, HP7, hX7, hQ7.more (by omega)⟩
--END l2
              case rest =>
                clear hQ5
                obtain ⟨X, A3, c3, ps3, rfl, hl3, HP3, hX, hQ⟩ := hcut
--BEGIN l3
                obtain ⟨b, hrd⟩ := hQ.ds.js.reads
                obtain ⟨b2, hrp⟩ := own_csR hX.own
                have x0 := hX.x0
                have x1 := hX.x1
                have x2 := hX.x2
                have hl6 : bs3.length ≤ 2000000 := by omega
                have hl63 : ps3.length ≤ 2000000 := by omega
                have hl4 : ps3.length ≤ 2 := by omega
                have hpj3 : ps3.length + (j - 1) ≤ 2 := by omega
                have hpj4 : ps.length + (j - 1) ≤ 2 := by omega
                obtain ⟨j', rfl⟩ : ∃ j', j = j' + 1 := ⟨j - 1, by omega⟩
                clear hl3
                cases hr : dealOk ⟨n, bs3⟩ ps3
                · have Hr := hide hr
                  clear hr
                  go_wp2_with (go_at_call 41; go_fit (sDealOk_c n bs3 ps3 A' A3 b 0 c b2 0 c3 _ _ hl6 hl63 (Nat.le_refl _) hrd hrp); rintro e w6 ⟨rfl, hb6⟩; rw [Hr.out]; have hQ6 := hQ.below hb6)
                  go_roundg (j' + 1)
                  case measure => go_light; omega
                  case rel => go_light; exact ⟨j', A2, c2, ps, rfl, by go_num, by omega, by omega, HP, hQ6.more (by omega)⟩
                · have Hr := hide hr
                  clear hr
                  go_upto_region 16 with (go_at_call 41; go_fit (sDealOk_c n bs3 ps3 A' A3 b 0 c b2 0 c3 _ _ hl6 hl63 (Nat.le_refl _) hrd hrp); rintro e w6 ⟨rfl, hb6⟩; rw [Hr.out])
                  have hQ6 := hQ.below hb6
                  have hX6 := hX.below hb6
                  clear hQ hX x0 x1 x2 hrd hrp hb6
                  have x0 := hX6.x0
                  have x1 := hX6.x1
                  have x2 := hX6.x2
                  have d0 := hQ6.d0
                  have d1 := hQ6.d1
                  have d2 := hQ6.d2
                  have df0 := hQ6.df 0
                  have df1 := hQ6.df 1
                  have df2 := hQ6.df 2
                  have hlo := hX6.lo
                  have hQ7 := hQ6.put hX6.own
                  clear hQ6 hX6
                  go_wp2_with fail
                  go_roundg (j' + 1)
                  case measure => go_light; omega
                  case rel => go_light; exact ⟨j', A3, c3, ps3, rfl, by go_num, by omega, by omega, HP3, hQ7.more (by omega)⟩
--END l3
            · go_wp2_with fail
              go_meet
              case rel => exact ⟨A2, c2, ps, by omega, HP, hQ.more (by omega)⟩
      case rest =>
        obtain ⟨A2, c2, ps, hlp, HP, hQ⟩ := hcut
--BEGIN l4
        clear hQ2 G2 hs2 c1 c2' 
        have hlt := hQ.ds.js.lt
        go_upto_if 88 with (go_at_call 103; go_fit (odd_c g (K + 140) m _ (by omega) (by omega) hQ.ds.js.rd); rintro e w5 ⟨bo, rfl, hR5, G5, -⟩)
        replace hQ := hQ.pick hR5 G5
        clear G5 hR5
        go_cut [] (fun wx => ∃ n' A'' c'' bs' A2' c2' ps', bs'.length ≤ 6 ∧ ps'.length ≤ 3 ∧ Hid (∀ x ∈ ps', SmP x) ∧ (n' = 0 ∨ n' = n) ∧ FD w wx g D (K + 142) n' A'' c'' bs' A2' c2' ps')
        case first =>
          cases bo
          · go_wp2_with fail
            go_meet
            case rel => exact ⟨n, A', c, bs3, A2, c2, ps, hlb3, by omega, HP, .inr rfl, (hQ.more (by omega)).fd⟩
          · go_upto_block 4 with (go_at_call 93; go_fit (pick_dq 3 _ hQ (by omega) (by omega)); rintro e w6 ⟨v, rfl, c1, c2', -, hQ6, -, -⟩)
            replace c2' := c2' (by omega)
            clear hQ
            have hQ := hQ6
            clear hQ6
            have d0 := hQ.d0
            have d1 := hQ.d1
            have d2 := hQ.d2
            have df0 := hQ.df 0
            have df1 := hQ.df 1
            by_cases hv0 : v = 0
            · subst hv0
              have hF := (hQ.more (show K + 140 + 1 + 1 ≤ K + 142 by omega)).bare
              go_wp2_with fail
              go_meet
              case rel => exact ⟨0, none, 0, [], A2, c2, ps, by simp, by omega, HP, .inl rfl, hF⟩
            · by_cases hv1 : v = 1
              · subst hv1
                go_wp2_with (at_builtin; refine app_list _ rfl (.tmp 104) (.tmp 106) _ rfl (D + 1) 40 i0 _ 4 32 Try.underlying26 hi0 hz0 hz1 hz2 rfl (by omega) (.slice A2 ps.length c2) ps.length (prCs ps) rfl (hQ.own.alloc _) _ 1 _ [.int .i64 0, .int .i64 0, .int .i64 0, .int .i64 1] rfl rfl (NewsAt.block (cs := #[.int .i64 0, .int .i64 0, .int .i64 0, .int .i64 1]) (at_new rfl)) (by simp [Value.oneCell']) (by omega) (by omega) (by have := hQ.ex; simp only [World.size_alloc]; omega) ?_; intro A5 c5 w5 hown5 hg5 hat5; have hown6 := hown5; rw [show prCs ps ++ [.int .i64 0, .int .i64 0, .int .i64 0, .int .i64 1] = prCs (ps ++ [⟨0, 0, 0, 1⟩]) from (prCs_append ps [⟨0, 0, 0, 1⟩]).symm] at hown6; obtain ⟨k2, kf2, hQ7⟩ := (hQ.alloc _).app (ps3 := ps ++ [⟨0, 0, 0, 1⟩]) hg5 (by simpa using hown6))
                go_meet
                case rel => exact ⟨n, A', c, bs3, A5, c5, ps ++ [⟨0, 0, 0, 1⟩], hlb3, by simp; omega, smP_snoc HP ⟨⟨by decide, by decide⟩, by decide, by decide⟩, .inr rfl, by simpa using (hQ7.more (show K + 140 + 1 + 1 ≤ K + 142 by omega)).fd⟩
              · have hv0' : (v == 0) = false := by simp [hv0]
                have hv1' : (v == 1) = false := by simp [hv1]
                clear hv0 hv1
                go_wp2_with (at_builtin; refine app_list _ rfl (.tmp 92) (.tmp 94) _ rfl (D + 1) 40 i0 _ 4 32 Try.underlying26 hi0 hz0 hz1 hz2 rfl (by omega) (.slice A2 ps.length c2) ps.length (prCs ps) rfl (hQ.own.alloc _) _ 1 _ [.int .i64 0, .int .i64 1, .int .i64 3, .int .i64 2] rfl rfl (NewsAt.block (cs := #[.int .i64 0, .int .i64 1, .int .i64 3, .int .i64 2]) (at_new rfl)) (by simp [Value.oneCell']) (by omega) (by omega) (by have := hQ.ex; simp only [World.size_alloc]; omega) ?_; intro A5 c5 w5 hown5 hg5 hat5; have hown6 := hown5; rw [show prCs ps ++ [.int .i64 0, .int .i64 1, .int .i64 3, .int .i64 2] = prCs (ps ++ [⟨0, 1, 3, 2⟩]) from (prCs_append ps [⟨0, 1, 3, 2⟩]).symm] at hown6; obtain ⟨k2, kf2, hQ7⟩ := (hQ.alloc _).app (ps3 := ps ++ [⟨0, 1, 3, 2⟩]) hg5 (by simpa using hown6))
                go_meet
                case rel => exact ⟨n, A', c, bs3, A5, c5, ps ++ [⟨0, 1, 3, 2⟩], hlb3, by simp; omega, smP_snoc HP ⟨⟨by decide, by decide⟩, by decide, by decide⟩, .inr rfl, by simpa using (hQ7.more (show K + 140 + 1 + 1 ≤ K + 142 by omega)).fd⟩
        case rest =>
          clear hQ HP
          obtain ⟨n', A'', c'', bs', A2', c2', ps', hbl', hpl', HP, hn', hF⟩ := hcut
          have z0 := hF.z0
          have z1 := hF.z1
          have z2 := hF.z2
          have zf0 := hF.zf 0
          have zf1 := hF.zf 1
          have zf2 := hF.zf 2
          have d0 := hF.d0
          have d1 := hF.d1
          have d2 := hF.d2
          have hlo := hF.lo
          have hcp := hF.cp
          obtain ⟨r0, r1, r2, q1, q2, q3, q4⟩ := hF.fin
          clear hF
          go_wp2_with fail
          refine bodyPost_ret (v := .agg #[.int .i64 n', .slice A'' bs'.length c'', .slice A2' ps'.length c2']) (by simp [results, Try.results83, go_sem, r0, r1, r2]) rfl ?_
          exact ⟨n', A'', c'', bs', A2', c2', ps', rfl, by omega, hbl', hpl', HP, hcp, q1, q2, q3.more (by omega), q4⟩
--END l4
end Go.Proofs.Ytdijfkpccbkdfaa
