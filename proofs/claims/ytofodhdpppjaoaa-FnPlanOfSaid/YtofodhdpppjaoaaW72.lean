/-
  The law of PlanOf: its walk.
-/
import Derived.Test.YtofodhdpppjaoaaP56
import Derived.Test.YtofodhdpppjaoaaS84
import Derived.Test.YtofodhdpppjaoaaD71
import Derived.Test.YtofodhdpppjaoaaW2
namespace Go.Proofs.Ytofodhdpppjaoaa
set_option linter.unusedVariables false
set_option linter.unusedSimpArgs false
open Go Go.RowKit Pp

theorem planOf_16 (t : List Mk) : (planOf t).bs.length ≤ 16 := by
  unfold planOf
  split
  · split
    · rename_i hp
      unfold planOk at hp
      simp only [Bool.and_eq_true, decide_eq_true_eq] at hp
      exact hp.1.2
    · simp
  · simp
theorem planIs_zero {t : List Mk} (h : planIs t = false) : planOf t = ⟨0, []⟩ := by
  unfold planIs at h
  unfold planOf
  cases ht : termOf t with
  | none => rfl
  | some a => rw [ht] at h; dsimp only at h ⊢; rw [h]; rfl
theorem planIs_term {t : List Mk} (h : planIs t = true) : termOk t = true := by
  unfold planIs at h
  unfold termOk
  cases ht : termOf t with
  | none => rw [ht] at h; cases h
  | some a => rfl
set_option maxHeartbeats 4000000 in
set_option maxRecDepth 100000 in
theorem lawPlanOf_c (a0 : Option Addr) (len0 cap0 : Nat) (z0 : List Int) (w : World) (w0 : RowU w a0 len0 cap0 z0) :
    Calls Try.prog 5 #[.slice a0 len0 cap0] w fun e w' => e = .returned (.bool true) ∧ Below w.heap.size w w' := by
  obtain ⟨hlc, hAs, hby⟩ := w0.bytes
  clear w0
  by_cases hlen : (1048576 : Int) < (len0 : Int)
  · go_enter Try.func5, Try.ntmps5
    go_wp2_with fail
    go_ret
    exact ⟨rfl, Below.refl _ _⟩
  · go_enter Try.func5, Try.ntmps5
    go_upto_region 4 with (go_at_call 21; go_fit (drawPlanOf_c a0 len0 cap0 z0 _ (by omega) hlc hAs hby); rintro e w1 ⟨A1, c1, t, rfl, htl, htc, ⟨g1, hr1⟩, hW⟩)
    clear hlen hby hAs hlc
    have htl2 : t.length ≤ 2000000 := by omega
    obtain ⟨q, hq⟩ : ∃ q, planOf t = q := ⟨_, rfl⟩
    obtain ⟨r, hr⟩ : ∃ r, planIs t = r := ⟨_, rfl⟩
    have hl := planOf_16 t
    rw [hq] at hl
    have hql : q.bs.length ≤ 2000000 := by omega
    have hpl := fun h => plan_law (t := t) (hr.trans h)
    have hpf := fun h => plan_facts (t := t) (hr.trans h)
    have hpz := fun h => planIs_zero (t := t) (hr.trans h)
    have hpt := fun h => planIs_term (t := t) (hr.trans h)
    rw [hq] at hpl hpf hpz
    have Hq := hide hq
    have Hr := hide hr
    clear hq hr
    go_upto_region 5 with (go_at_call 10; go_fit (planOf_q t q r Hq.out Hr.out A1 g1 0 c1 _ _ (Nat.le_refl _) hr1 htl2); rintro e w3 ⟨A3, c3, g3, rfl, hr3, own3, hb3⟩)
    replace hW := bthen hW hb3
    replace hr1 := MkR.next hr1 hb3
    have hp := po_new (w0 := w) (t := 29) (n := q.n) (c := c3) hW hr3
    have hal : Below w3.heap.size w3 (w3.alloc (.cells #[.int .i64 q.n, .slice A3 q.bs.length c3] 29)) := by go_grown
    replace hr1 := MkR.next hr1 hal
    clear hr3 own3 hb3 hW hal
    generalize w3.alloc (.cells #[.int .i64 q.n, .slice A3 q.bs.length c3] 29) = W3 at hp hr1 ⊢
    generalize w3.heap.size = X3 at hp ⊢
    go_upto_region 6 with (go_at_call 14; go_fit (sPlanOf_q t q r Hq.out Hr.out A1 g1 0 c1 _ _ htc (Nat.le_refl _) hr1 htl2); rintro e w4 ⟨A4, c4, g4, rfl, hr4, own4, hb4⟩)
    replace hp := hp.below hb4
    replace hr1 := MkR.next hr1 hb4
    have hp2 := po_new (w0 := w) (t := 29) (n := q.n) (c := c4) hp.bel hr4
    have hal : Below w4.heap.size w4 (w4.alloc (.cells #[.int .i64 q.n, .slice A4 q.bs.length c4] 29)) := by go_grown
    replace hp := hp.below hal
    replace hr1 := MkR.next hr1 hal
    clear hr4 own4 hb4 hal
    generalize w4.alloc (.cells #[.int .i64 q.n, .slice A4 q.bs.length c4] 29) = W4 at hp hp2 hr1 ⊢
    generalize w4.heap.size = X4 at hp2 ⊢
    have p0 := hp.c0
    have p1 := hp.c1
    have q0 := hp2.c0
    have q1 := hp2.c1
    have hne : (r != r) = false := by simp
    go_upto_region 8 with (go_at_call 22; go_fit (samePlan_yes q.n q.bs A3 A4 g3 0 c3 g4 0 c4 _ _ hql (Nat.le_refl _) hp.rd hp2.rd); rintro e w5 ⟨rfl, hb5⟩)
    replace hp := hp.below hb5
    replace hr1 := MkR.next hr1 hb5
    clear p0 p1 q0 q1 hp2 hb5 hne
    have p0 := hp.c0
    have p1 := hp.c1
    cases r
    · obtain rfl := hpz rfl
      clear hpl hpf hpz hpt
      go_wp2_with (first
        | (go_at_call 22; go_fit (samePlan_yes 0 [] A3 none g3 0 c3 0 0 0 _ _ (by simp) (Nat.le_refl _) hp.rd (BdsR.nil _ _ _)); rintro e w6 ⟨rfl, hb6⟩)
        | (go_at_call 11; go_fit (alive_c _); rintro e w9 ⟨rfl, hb9⟩))
      go_ret
      exact ⟨rfl, bthen (bthen hp.bel hb6) hb9⟩
    · obtain ⟨f1, f2, f3⟩ := hpl rfl
      have g1' := (hpf rfl).1
      have hbk := back_law (hpt rfl)
      obtain ⟨x, hx⟩ : ∃ x, backTerm t = x := ⟨_, rfl⟩
      have hxl := backTerm_len (t := t)
      rw [hx] at hxl hbk f3
      have hxl2 : x.length ≤ 2000000 := by omega
      obtain ⟨q', hq'⟩ : ∃ q, planOf x = q := ⟨_, rfl⟩
      have hl' := planOf_16 x
      rw [hq'] at hl' f3
      have hql' : q'.bs.length ≤ 2000000 := by omega
      have hr' : planIs x = true := hbk.2.trans Hr.out
      obtain ⟨mv, hmv⟩ : ∃ mv, mostOf q' 0 1 = mv := ⟨_, rfl⟩
      rw [hmv] at f3
      have hcallD := fun wq hq => backTerm_q t A1 g1 0 c1 _ wq (Nat.le_refl _) hq htl2
      rw [hx] at hcallD
      obtain ⟨n1, hn1⟩ : ∃ n, cntK 1 t = n := ⟨_, rfl⟩
      obtain ⟨n3, hn3⟩ : ∃ n, cntK 3 t = n := ⟨_, rfl⟩
      obtain ⟨st, hst⟩ : ∃ s, stepsOf t = s := ⟨_, rfl⟩
      rw [hn1] at f1
      rw [hn3, hst] at f2
      have hn1l := cntK_le 1 t
      have hn3l := cntK_le 3 t
      rw [hn1] at hn1l
      rw [hn3] at hn3l
      have hstb : -1 ≤ st ∧ st ≤ 3000000 := by
        have := cntK_le 0 t
        rw [← hst]; unfold stepsOf; split <;> omega
      have Hd := hide hcallD
      have Hq' := hide hq'
      have Hr' := hide hr'
      have Hmv := hide hmv
      have Hmv1 := hide f3
      have Hg1 := hide g1'
      have Hn1 := hide hn1
      have Hn3 := hide hn3
      have Hst := hide hst
      have Hf1 := hide f1
      have Hf2 := hide f2
      obtain ⟨hst1, hst2⟩ := hstb
      clear hcallD hx hq' hr' hmv f3 g1' hbk hpl hpf hpz hpt hn1 hn3 hst f1 f2 p0 p1
      go_upto_block 0 with fail
      go_cut [8, 9] (fun s8 s9 wx => s8 = .int .i64 (n1 : Int) ∧ s9 = .int .i64 (n3 : Int) ∧ wx = w5)
      case first =>
        go_wp2_with fail
        go_loopg [8, 9, 10] t.length (fun gh s8 s9 s10 wr => ∃ (k m l : Nat), k ≤ t.length ∧ gh = t.length - k ∧ s10 = .int .i64 k ∧ s8 = .int .i64 m ∧ s9 = .int .i64 l ∧ m ≤ k ∧ l ≤ k ∧ Hid (cntK 1 (t.take k) = m ∧ cntK 3 (t.take k) = l) ∧ wr = w5)
        case atStart => exact ⟨0, 0, 0, Nat.zero_le _, rfl, rfl, rfl, rfl, Nat.le_refl _, Nat.le_refl _, ⟨rfl, rfl⟩, rfl⟩
        case round =>
          obtain ⟨k, m, l, hk, rfl, rfl, rfl, rfl, hmk, hlk, HM, rfl⟩ := hrel
          by_cases hlt : k < t.length
          · have hx := List.getElem?_eq_getElem hlt
            obtain rfl := hr1.addr (by omega)
            obtain ⟨d0, d1, d2⟩ := mk_cells hr1 hx
            simp only [Nat.zero_add] at d0 d1 d2
            have hct := cntK_take 1 hx
            have hct3 := cntK_take 3 hx
            rw [HM.out.1] at hct
            rw [HM.out.2] at hct3
            generalize t[k] = y at hx d0 d1 d2 hct hct3
            have hkz : (k : Int) < (t.length : Int) := by omega
            clear hx
            by_cases h1 : y.k = 1
            · have h1' : (y.k == 1) = true := by simpa using h1
              have h3' : (y.k == 3) = false := by rw [h1]; rfl
              rw [if_pos h1] at hct
              rw [if_neg (by omega)] at hct3
              have Hct := hide (And.intro hct hct3)
              clear hct hct3 h1
              go_wp2_with fail
              go_roundg (t.length - (k + 1))
              case measure => go_light; omega
              case rel => go_light; exact ⟨k + 1, m + 1, l, by omega, rfl, by go_num, by go_num, rfl, by omega, by omega, Hct.out, rfl⟩
            · have h1' : (y.k == 1) = false := by simpa using h1
              rw [if_neg h1] at hct
              by_cases h3 : y.k = 3
              · have h3' : (y.k == 3) = true := by simpa using h3
                rw [if_pos h3] at hct3
                have Hct := hide (And.intro hct hct3)
                clear hct hct3 h1 h3
                go_wp2_with fail
                go_roundg (t.length - (k + 1))
                case measure => go_light; omega
                case rel => go_light; exact ⟨k + 1, m, l + 1, by omega, rfl, by go_num, rfl, by go_num, by omega, by omega, Hct.out, rfl⟩
              · have h3' : (y.k == 3) = false := by simpa using h3
                rw [if_neg h3] at hct3
                have Hct := hide (And.intro hct hct3)
                clear hct hct3 h1 h3
                go_wp2_with fail
                go_roundg (t.length - (k + 1))
                case measure => go_light; omega
                case rel => go_light; exact ⟨k + 1, m, l, by omega, rfl, by go_num, rfl, rfl, by omega, by omega, Hct.out, rfl⟩
          · obtain rfl : k = t.length := by omega
            have E := hide (show m = n1 ∧ l = n3 by have := HM.out; rw [List.take_length, Hn1.out, Hn3.out] at this; omega)
            go_wp2_with fail
            go_meet
            case rel => exact ⟨by rw [E.out.1], by rw [E.out.2], rfl⟩
      case rest =>
        obtain ⟨rfl, rfl, rfl⟩ := hcut
        go_upto_region 20 with (first
          | (go_at_call 23; refine (Hd.out _ hr1).mono ?_; rintro e w7 ⟨A5, c5, rfl, own5, hb7⟩; obtain ⟨g5, hr5⟩ := OwnM.reads own5)
          | (go_at_call 10; go_fit (planOf_q x q' true Hq'.out Hr'.out A5 g5 0 c5 _ _ (Nat.le_refl _) hr5 hxl2); rintro e w8 ⟨A6, c6, g6, rfl, hr6, own6, hb8⟩))
        replace hp := (hp.below hb7).below hb8
        replace hr1 := MkR.next (MkR.next hr1 hb7) hb8
        have hp2 := po_new (w0 := w) (t := 29) (n := q'.n) (c := c6) hp.bel hr6
        have hal : Below w8.heap.size w8 (w8.alloc (.cells #[.int .i64 q'.n, .slice A6 q'.bs.length c6] 29)) := by go_grown
        replace hp := hp.below hal
        replace hr1 := MkR.next hr1 hal
        clear hr6 own6 hb8 hal hr5 own5 hb7
        generalize w8.alloc (.cells #[.int .i64 q'.n, .slice A6 q'.bs.length c6] 29) = W8 at hp hp2 hr1 ⊢
        generalize w8.heap.size = X8 at hp2 ⊢
        have p0 := hp.c0
        have p1 := hp.c1
        go_upto_region 21 with (go_at_call 24; go_fit (mostOf_c q 0 1 A3 g3 0 c3 _ _ hql (Nat.le_refl _) hp.rd); rintro e w9 ⟨rfl, hb9⟩; rw [Hmv1.out])
        replace hp := hp.below hb9
        replace hp2 := hp2.below hb9
        replace hr1 := MkR.next hr1 hb9
        clear p0 p1 hb9
        have q0 := hp2.c0
        have q1 := hp2.c1
        go_upto_region 22 with (go_at_call 24; go_fit (mostOf_c q' 0 1 A6 g6 0 c6 _ _ hql' (Nat.le_refl _) hp2.rd); rintro e w10 ⟨rfl, hb10⟩; rw [Hmv.out])
        replace hp := hp.below hb10
        replace hr1 := MkR.next hr1 hb10
        clear q0 q1 hb10 hp2
        have hw1 : IntKind.i64.wrap ((n1 : Int) + 2) = (n1 : Int) + 2 := IntWalk.i64_in _ (by omega)
        have hw2 : IntKind.i64.wrap (2 * st) = 2 * st := IntWalk.i64_in _ (by omega)
        have hw3 : IntKind.i64.wrap (2 * st + (n3 : Int)) = 2 * st + (n3 : Int) := IntWalk.i64_in _ (by omega)
        have hbe1 : (q.n == (n1 : Int) + 2) = true := by rw [Hf1.out]; simp
        have hbe2 : ((q.bs.length : Int) == 2 * st + (n3 : Int)) = true := by rw [Hf2.out]; simp
        refine wp_regionE (fun w' => w'.cell? ⟨X3, 0, none⟩ = some (.int .i64 q.n) ∧ w'.cell? ⟨X3, 1, none⟩ = some (.slice A3 q.bs.length c3)) 33 (by kernel_rfl) ?_
        change wpE _ _ _ _ _ _ 34 #[false, false, false, false, false, false, false, false, false, false, false, false, false, false, false, false, false, false, false, false, false, false, false, false, false, false, false, false, false, false, false, false, false, false] _ _
        have hdr : Below w10.heap.size w10 w10.drew := by go_grown
        replace hp := hp.below hdr
        replace hr1 := MkR.next hr1 hdr
        clear hdr
        generalize w10.drew = wd at hp hr1 ⊢
        have hS0 := And.intro hp.c0 hp.c1
        refine wpE_take' (v := ?_) 0 [33] (of_decide_eq_true (by kernel_rfl)) (by kernel_rfl) (by kernel_rfl) (by kernel_rfl) (by kernel_rfl) (fun _ _ _ h => h) (by kernel_rfl) ?_ hS0 ?_
        rotate_left
        · intro w' hSw
          simp only [List.getElem_toArray, List.getElem_cons_succ, List.getElem_cons_zero]
          go_simp
          all_goals with_reducible rfl
        simp only [List.getElem_toArray, List.getElem_cons_succ, List.getElem_cons_zero, Act.put, List.setIfInBounds_toArray, List.set_cons_zero, List.set_cons_succ]
        have p0 := hp.c0
        have p1 := hp.c1
        refine wpE_step' 1 (of_decide_eq_true (by kernel_rfl)) (by kernel_rfl) (by kernel_rfl) (fun K hK => ?_)
        simp only [List.getElem_toArray, List.getElem_cons_succ, List.getElem_cons_zero]
        go_simp
        go_at_call 25
        refine (planOk_c q A3 g3 0 c3 _ _ hql (Nat.le_refl _) hp.rd).mono ?_
        rintro e w11 ⟨rfl, hb11⟩
        rw [Hg1.out]
        replace hp := hp.below hb11
        replace hr1 := MkR.next hr1 hb11
        refine hK.out _ _ (.inr ⟨hp.c0, hp.c1⟩) ?_
        clear hK K hS0 p0 p1
        simp only [Act.put, List.setIfInBounds_toArray, List.set_cons_zero, List.set_cons_succ]
        have hS0 := And.intro hp.c0 hp.c1
        refine wpE_take' (v := ?_) 2 [33] (of_decide_eq_true (by kernel_rfl)) (by kernel_rfl) (by kernel_rfl) (by kernel_rfl) (by kernel_rfl) (fun _ _ _ h => h) (by kernel_rfl) ?_ hS0 ?_
        rotate_left
        · intro w' hSw
          simp only [List.getElem_toArray, List.getElem_cons_succ, List.getElem_cons_zero]
          go_simp
          all_goals with_reducible rfl
        simp only [List.getElem_toArray, List.getElem_cons_succ, List.getElem_cons_zero, Act.put, List.setIfInBounds_toArray, List.set_cons_zero, List.set_cons_succ]
        refine wpE_takeG' (v := ?_) 3 [33] (of_decide_eq_true (by kernel_rfl)) (by kernel_rfl) (by kernel_rfl) (by kernel_rfl) (by kernel_rfl) (fun _ _ _ h => h) rfl ?_ hS0 ?_
        rotate_left
        · intro w' hSw
          simp only [List.getElem_toArray, List.getElem_cons_succ, List.getElem_cons_zero]
          go_simp
          all_goals with_reducible rfl
        simp only [List.getElem_toArray, List.getElem_cons_succ, List.getElem_cons_zero, Act.put, List.setIfInBounds_toArray, List.set_cons_zero, List.set_cons_succ]
        refine wpE_takeG' (v := ?_) 4 [33] (of_decide_eq_true (by kernel_rfl)) (by kernel_rfl) (by kernel_rfl) (by kernel_rfl) (by kernel_rfl) (fun _ _ _ h => h) rfl ?_ hS0 ?_
        rotate_left
        · intro w' hSw
          simp only [List.getElem_toArray, List.getElem_cons_succ, List.getElem_cons_zero]
          go_simp
          all_goals with_reducible rfl
        simp only [List.getElem_toArray, List.getElem_cons_succ, List.getElem_cons_zero, Act.put, List.setIfInBounds_toArray, List.set_cons_zero, List.set_cons_succ]
        refine wpE_takeG' (v := ?_) 5 [33] (of_decide_eq_true (by kernel_rfl)) (by kernel_rfl) (by kernel_rfl) (by kernel_rfl) (by kernel_rfl) (fun _ _ _ h => h) rfl ?_ hS0 ?_
        rotate_left
        · intro w' hSw
          simp only [List.getElem_toArray, List.getElem_cons_succ, List.getElem_cons_zero]
          go_simp
          all_goals with_reducible rfl
        simp only [List.getElem_toArray, List.getElem_cons_succ, List.getElem_cons_zero, Act.put, List.setIfInBounds_toArray, List.set_cons_zero, List.set_cons_succ]
        refine wpE_takeG' (v := ?_) 6 [33] (of_decide_eq_true (by kernel_rfl)) (by kernel_rfl) (by kernel_rfl) (by kernel_rfl) (by kernel_rfl) (fun _ _ _ h => h) rfl ?_ hS0 ?_
        rotate_left
        · intro w' hSw
          simp only [List.getElem_toArray, List.getElem_cons_succ, List.getElem_cons_zero]
          go_simp
          all_goals with_reducible rfl
        simp only [List.getElem_toArray, List.getElem_cons_succ, List.getElem_cons_zero, Act.put, List.setIfInBounds_toArray, List.set_cons_zero, List.set_cons_succ]
        refine wpE_takeG' (v := ?_) 7 [33] (of_decide_eq_true (by kernel_rfl)) (by kernel_rfl) (by kernel_rfl) (by kernel_rfl) (by kernel_rfl) (fun _ _ _ h => h) rfl ?_ hS0 ?_
        rotate_left
        · intro w' hSw
          simp only [List.getElem_toArray, List.getElem_cons_succ, List.getElem_cons_zero]
          go_simp
          all_goals with_reducible rfl
        simp only [List.getElem_toArray, List.getElem_cons_succ, List.getElem_cons_zero, Act.put, List.setIfInBounds_toArray, List.set_cons_zero, List.set_cons_succ]
        refine wpE_take' (v := ?_) 8 [33] (of_decide_eq_true (by kernel_rfl)) (by kernel_rfl) (by kernel_rfl) (by kernel_rfl) (by kernel_rfl) (fun _ _ _ h => h) (by kernel_rfl) ?_ hS0 ?_
        rotate_left
        · intro w' hSw
          simp only [List.getElem_toArray, List.getElem_cons_succ, List.getElem_cons_zero]
          go_simp
          all_goals with_reducible rfl
        simp only [List.getElem_toArray, List.getElem_cons_succ, List.getElem_cons_zero, Act.put, List.setIfInBounds_toArray, List.set_cons_zero, List.set_cons_succ]
        refine wpE_take' (v := ?_) 9 [33] (of_decide_eq_true (by kernel_rfl)) (by kernel_rfl) (by kernel_rfl) (by kernel_rfl) (by kernel_rfl) (fun _ _ _ h => h) (by kernel_rfl) ?_ hS0 ?_
        rotate_left
        · intro w' hSw
          simp only [List.getElem_toArray, List.getElem_cons_succ, List.getElem_cons_zero]
          go_simp
          all_goals with_reducible rfl
        simp only [List.getElem_toArray, List.getElem_cons_succ, List.getElem_cons_zero, Act.put, List.setIfInBounds_toArray, List.set_cons_zero, List.set_cons_succ]
        refine wpE_takeG' (v := ?_) 10 [33] (of_decide_eq_true (by kernel_rfl)) (by kernel_rfl) (by kernel_rfl) (by kernel_rfl) (by kernel_rfl) (fun _ _ _ h => h) rfl ?_ hS0 ?_
        rotate_left
        · intro w' hSw
          simp only [List.getElem_toArray, List.getElem_cons_succ, List.getElem_cons_zero]
          go_simp
          all_goals with_reducible rfl
        simp only [List.getElem_toArray, List.getElem_cons_succ, List.getElem_cons_zero, Act.put, List.setIfInBounds_toArray, List.set_cons_zero, List.set_cons_succ]
        refine wpE_takeG' (v := ?_) 11 [33] (of_decide_eq_true (by kernel_rfl)) (by kernel_rfl) (by kernel_rfl) (by kernel_rfl) (by kernel_rfl) (fun _ _ _ h => h) rfl ?_ hS0 ?_
        rotate_left
        · intro w' hSw
          simp only [List.getElem_toArray, List.getElem_cons_succ, List.getElem_cons_zero]
          go_simp
          all_goals with_reducible rfl
        simp only [List.getElem_toArray, List.getElem_cons_succ, List.getElem_cons_zero, Act.put, List.setIfInBounds_toArray, List.set_cons_zero, List.set_cons_succ]
        refine wpE_takeG' (v := ?_) 12 [33] (of_decide_eq_true (by kernel_rfl)) (by kernel_rfl) (by kernel_rfl) (by kernel_rfl) (by kernel_rfl) (fun _ _ _ h => h) rfl ?_ hS0 ?_
        rotate_left
        · intro w' hSw
          simp only [List.getElem_toArray, List.getElem_cons_succ, List.getElem_cons_zero]
          go_simp
          all_goals with_reducible rfl
        simp only [List.getElem_toArray, List.getElem_cons_succ, List.getElem_cons_zero, Act.put, List.setIfInBounds_toArray, List.set_cons_zero, List.set_cons_succ]
        refine wpE_takeG' (v := ?_) 13 [33] (of_decide_eq_true (by kernel_rfl)) (by kernel_rfl) (by kernel_rfl) (by kernel_rfl) (by kernel_rfl) (fun _ _ _ h => h) rfl ?_ hS0 ?_
        rotate_left
        · intro w' hSw
          simp only [List.getElem_toArray, List.getElem_cons_succ, List.getElem_cons_zero]
          go_simp
          all_goals with_reducible rfl
        simp only [List.getElem_toArray, List.getElem_cons_succ, List.getElem_cons_zero, Act.put, List.setIfInBounds_toArray, List.set_cons_zero, List.set_cons_succ]
        refine wpE_takeG' (v := ?_) 16 [33] (of_decide_eq_true (by kernel_rfl)) (by kernel_rfl) (by kernel_rfl) (by kernel_rfl) (by kernel_rfl) (fun _ _ _ h => h) rfl ?_ hS0 ?_
        rotate_left
        · intro w' hSw
          simp only [List.getElem_toArray, List.getElem_cons_succ, List.getElem_cons_zero]
          go_simp
          all_goals with_reducible rfl
        simp only [List.getElem_toArray, List.getElem_cons_succ, List.getElem_cons_zero, Act.put, List.setIfInBounds_toArray, List.set_cons_zero, List.set_cons_succ]
        refine wpE_stepG' 14 (of_decide_eq_true (by kernel_rfl)) rfl (by kernel_rfl) (fun K hK => ?_)
        simp only [List.getElem_toArray, List.getElem_cons_succ, List.getElem_cons_zero]
        go_simp
        go_at_call 26
        refine (stepsOf_c t A1 g1 0 c1 _ _ (Nat.le_refl _) hr1 htl2).mono ?_
        rintro e w12 ⟨rfl, hb12⟩
        rw [Hst.out]
        replace hp := hp.below hb12
        refine hK.out _ _ (.inr ⟨hp.c0, hp.c1⟩) ?_
        clear hK K hS0
        simp only [Act.put, List.setIfInBounds_toArray, List.set_cons_zero, List.set_cons_succ]
        have hS0 := And.intro hp.c0 hp.c1
        refine wpE_takeG' (v := ?_) 15 [33] (of_decide_eq_true (by kernel_rfl)) (by kernel_rfl) (by kernel_rfl) (by kernel_rfl) (by kernel_rfl) (fun _ _ _ h => h) rfl ?_ hS0 ?_
        rotate_left
        · intro w' hSw
          simp only [List.getElem_toArray, List.getElem_cons_succ, List.getElem_cons_zero]
          go_simp
          all_goals with_reducible rfl
        simp only [List.getElem_toArray, List.getElem_cons_succ, List.getElem_cons_zero, Act.put, List.setIfInBounds_toArray, List.set_cons_zero, List.set_cons_succ]
        refine wpE_takeG' (v := ?_) 17 [33] (of_decide_eq_true (by kernel_rfl)) (by kernel_rfl) (by kernel_rfl) (by kernel_rfl) (by kernel_rfl) (fun _ _ _ h => h) rfl ?_ hS0 ?_
        rotate_left
        · intro w' hSw
          simp only [List.getElem_toArray, List.getElem_cons_succ, List.getElem_cons_zero]
          go_simp
          all_goals with_reducible rfl
        simp only [List.getElem_toArray, List.getElem_cons_succ, List.getElem_cons_zero, Act.put, List.setIfInBounds_toArray, List.set_cons_zero, List.set_cons_succ]
        refine wpE_takeG' (v := ?_) 18 [33] (of_decide_eq_true (by kernel_rfl)) (by kernel_rfl) (by kernel_rfl) (by kernel_rfl) (by kernel_rfl) (fun _ _ _ h => h) rfl ?_ hS0 ?_
        rotate_left
        · intro w' hSw
          simp only [List.getElem_toArray, List.getElem_cons_succ, List.getElem_cons_zero]
          go_simp
          all_goals with_reducible rfl
        simp only [List.getElem_toArray, List.getElem_cons_succ, List.getElem_cons_zero, Act.put, List.setIfInBounds_toArray, List.set_cons_zero, List.set_cons_succ]
        refine wpE_take' (v := ?_) 19 [33] (of_decide_eq_true (by kernel_rfl)) (by kernel_rfl) (by kernel_rfl) (by kernel_rfl) (by kernel_rfl) (fun _ _ _ h => h) (by kernel_rfl) ?_ hS0 ?_
        rotate_left
        · intro w' hSw
          simp only [List.getElem_toArray, List.getElem_cons_succ, List.getElem_cons_zero]
          go_simp
          all_goals with_reducible rfl
        simp only [List.getElem_toArray, List.getElem_cons_succ, List.getElem_cons_zero, Act.put, List.setIfInBounds_toArray, List.set_cons_zero, List.set_cons_succ]
        refine wpE_take' (v := ?_) 20 [33] (of_decide_eq_true (by kernel_rfl)) (by kernel_rfl) (by kernel_rfl) (by kernel_rfl) (by kernel_rfl) (fun _ _ _ h => h) (by kernel_rfl) ?_ hS0 ?_
        rotate_left
        · intro w' hSw
          simp only [List.getElem_toArray, List.getElem_cons_succ, List.getElem_cons_zero]
          go_simp
          all_goals with_reducible rfl
        simp only [List.getElem_toArray, List.getElem_cons_succ, List.getElem_cons_zero, Act.put, List.setIfInBounds_toArray, List.set_cons_zero, List.set_cons_succ]
        refine wpE_takeG' (v := ?_) 21 [33] (of_decide_eq_true (by kernel_rfl)) (by kernel_rfl) (by kernel_rfl) (by kernel_rfl) (by kernel_rfl) (fun _ _ _ h => h) rfl ?_ hS0 ?_
        rotate_left
        · intro w' hSw
          simp only [List.getElem_toArray, List.getElem_cons_succ, List.getElem_cons_zero]
          go_simp
          all_goals with_reducible rfl
        simp only [List.getElem_toArray, List.getElem_cons_succ, List.getElem_cons_zero, Act.put, List.setIfInBounds_toArray, List.set_cons_zero, List.set_cons_succ]
        refine wpE_take' (v := ?_) 22 [33] (of_decide_eq_true (by kernel_rfl)) (by kernel_rfl) (by kernel_rfl) (by kernel_rfl) (by kernel_rfl) (fun _ _ _ h => h) (by kernel_rfl) ?_ hS0 ?_
        rotate_left
        · intro w' hSw
          simp only [List.getElem_toArray, List.getElem_cons_succ, List.getElem_cons_zero]
          go_simp
          all_goals with_reducible rfl
        simp only [List.getElem_toArray, List.getElem_cons_succ, List.getElem_cons_zero, Act.put, List.setIfInBounds_toArray, List.set_cons_zero, List.set_cons_succ]
        refine wpE_take' (v := ?_) 23 [33] (of_decide_eq_true (by kernel_rfl)) (by kernel_rfl) (by kernel_rfl) (by kernel_rfl) (by kernel_rfl) (fun _ _ _ h => h) (by kernel_rfl) ?_ hS0 ?_
        rotate_left
        · intro w' hSw
          simp only [List.getElem_toArray, List.getElem_cons_succ, List.getElem_cons_zero]
          go_simp
          all_goals with_reducible rfl
        simp only [List.getElem_toArray, List.getElem_cons_succ, List.getElem_cons_zero, Act.put, List.setIfInBounds_toArray, List.set_cons_zero, List.set_cons_succ]
        refine wpE_takeG' (v := ?_) 24 [33] (of_decide_eq_true (by kernel_rfl)) (by kernel_rfl) (by kernel_rfl) (by kernel_rfl) (by kernel_rfl) (fun _ _ _ h => h) rfl ?_ hS0 ?_
        rotate_left
        · intro w' hSw
          simp only [List.getElem_toArray, List.getElem_cons_succ, List.getElem_cons_zero]
          go_simp
          all_goals with_reducible rfl
        simp only [List.getElem_toArray, List.getElem_cons_succ, List.getElem_cons_zero, Act.put, List.setIfInBounds_toArray, List.set_cons_zero, List.set_cons_succ]
        refine wpE_takeG' (v := ?_) 25 [33] (of_decide_eq_true (by kernel_rfl)) (by kernel_rfl) (by kernel_rfl) (by kernel_rfl) (by kernel_rfl) (fun _ _ _ h => h) rfl ?_ hS0 ?_
        rotate_left
        · intro w' hSw
          simp only [List.getElem_toArray, List.getElem_cons_succ, List.getElem_cons_zero]
          go_simp
          all_goals with_reducible rfl
        simp only [List.getElem_toArray, List.getElem_cons_succ, List.getElem_cons_zero, Act.put, List.setIfInBounds_toArray, List.set_cons_zero, List.set_cons_succ]
        refine wpE_takeG' (v := ?_) 26 [33] (of_decide_eq_true (by kernel_rfl)) (by kernel_rfl) (by kernel_rfl) (by kernel_rfl) (by kernel_rfl) (fun _ _ _ h => h) rfl ?_ hS0 ?_
        rotate_left
        · intro w' hSw
          simp only [List.getElem_toArray, List.getElem_cons_succ, List.getElem_cons_zero]
          go_simp
          all_goals with_reducible rfl
        simp only [List.getElem_toArray, List.getElem_cons_succ, List.getElem_cons_zero, Act.put, List.setIfInBounds_toArray, List.set_cons_zero, List.set_cons_succ]
        refine wpE_take' (v := ?_) 27 [33] (of_decide_eq_true (by kernel_rfl)) (by kernel_rfl) (by kernel_rfl) (by kernel_rfl) (by kernel_rfl) (fun _ _ _ h => h) (by kernel_rfl) ?_ hS0 ?_
        rotate_left
        · intro w' hSw
          simp only [List.getElem_toArray, List.getElem_cons_succ, List.getElem_cons_zero]
          go_simp
          all_goals with_reducible rfl
        simp only [List.getElem_toArray, List.getElem_cons_succ, List.getElem_cons_zero, Act.put, List.setIfInBounds_toArray, List.set_cons_zero, List.set_cons_succ]
        refine wpE_take' (v := ?_) 28 [33] (of_decide_eq_true (by kernel_rfl)) (by kernel_rfl) (by kernel_rfl) (by kernel_rfl) (by kernel_rfl) (fun _ _ _ h => h) (by kernel_rfl) ?_ hS0 ?_
        rotate_left
        · intro w' hSw
          simp only [List.getElem_toArray, List.getElem_cons_succ, List.getElem_cons_zero]
          go_simp
          all_goals with_reducible rfl
        simp only [List.getElem_toArray, List.getElem_cons_succ, List.getElem_cons_zero, Act.put, List.setIfInBounds_toArray, List.set_cons_zero, List.set_cons_succ]
        refine wpE_takeG' (v := ?_) 29 [33] (of_decide_eq_true (by kernel_rfl)) (by kernel_rfl) (by kernel_rfl) (by kernel_rfl) (by kernel_rfl) (fun _ _ _ h => h) rfl ?_ hS0 ?_
        rotate_left
        · intro w' hSw
          simp only [List.getElem_toArray, List.getElem_cons_succ, List.getElem_cons_zero]
          go_simp
          all_goals with_reducible rfl
        simp only [List.getElem_toArray, List.getElem_cons_succ, List.getElem_cons_zero, Act.put, List.setIfInBounds_toArray, List.set_cons_zero, List.set_cons_succ]
        refine wpE_takeG' (v := ?_) 30 [33] (of_decide_eq_true (by kernel_rfl)) (by kernel_rfl) (by kernel_rfl) (by kernel_rfl) (by kernel_rfl) (fun _ _ _ h => h) rfl ?_ hS0 ?_
        rotate_left
        · intro w' hSw
          simp only [List.getElem_toArray, List.getElem_cons_succ, List.getElem_cons_zero]
          go_simp
          all_goals with_reducible rfl
        simp only [List.getElem_toArray, List.getElem_cons_succ, List.getElem_cons_zero, Act.put, List.setIfInBounds_toArray, List.set_cons_zero, List.set_cons_succ]
        refine wpE_takeG' (v := ?_) 31 [33] (of_decide_eq_true (by kernel_rfl)) (by kernel_rfl) (by kernel_rfl) (by kernel_rfl) (by kernel_rfl) (fun _ _ _ h => h) rfl ?_ hS0 ?_
        rotate_left
        · intro w' hSw
          simp only [List.getElem_toArray, List.getElem_cons_succ, List.getElem_cons_zero]
          go_simp
          all_goals with_reducible rfl
        simp only [List.getElem_toArray, List.getElem_cons_succ, List.getElem_cons_zero, Act.put, List.setIfInBounds_toArray, List.set_cons_zero, List.set_cons_succ]
        refine wpE_take' (v := ?_) 32 [33] (of_decide_eq_true (by kernel_rfl)) (by kernel_rfl) (by kernel_rfl) (by kernel_rfl) (by kernel_rfl) (fun _ _ _ h => h) (by kernel_rfl) ?_ hS0 ?_
        rotate_left
        · intro w' hSw
          simp only [List.getElem_toArray, List.getElem_cons_succ, List.getElem_cons_zero]
          go_simp
          all_goals with_reducible rfl
        simp only [List.getElem_toArray, List.getElem_cons_succ, List.getElem_cons_zero, Act.put, List.setIfInBounds_toArray, List.set_cons_zero, List.set_cons_succ]
        clear hS0
        refine wpE_step' 33 (of_decide_eq_true (by kernel_rfl)) (by kernel_rfl) (by kernel_rfl) (fun K hK => ?_)
        simp only [List.getElem_toArray, List.getElem_cons_succ, List.getElem_cons_zero]
        go_simp
        refine hK.out _ _ (.inl rfl) ?_
        clear hK K
        simp only [Act.put, List.setIfInBounds_toArray, List.set_cons_zero, List.set_cons_succ]
        refine wpE_done (by kernel_rfl) ?_ _
        go_wp2_with fail
        go_ret
        exact ⟨rfl, hp.bel⟩
end Go.Proofs.Ytofodhdpppjaoaa
