/-
  The law of PlanFor: its walk.
-/
import Derived.Test.YtdijfkpccbkdfaaD19
import Derived.Test.YtdijfkpccbkdfaaW2
import Derived.Test.YtdijfkpccbkdfaaP9
import Derived.Test.YtdijfkpccbkdfaaL25
import Derived.Test.YtdijfkpccbkdfaaS25
import Derived.Test.YtdijfkpccbkdfaaI1a
import Derived.Test.YtdijfkpccbkdfaaL2d
import Derived.Test.YtdijfkpccbkdfaaZ1
import Derived.Deep.CutBlock
namespace Go.Proofs.Ytdijfkpccbkdfaa
set_option linter.unusedVariables false
set_option linter.unusedSimpArgs false
open Go.RowKit Pp

/-- A deal in a variable of the law's own, made in the law's world. -/
theorem pd_law {w0 W : World} {b o b2 o2 : Nat} {n : Int} {A A2 : Option Addr} {c c2 : Nat} {bs : List Bd} {ps : List Pr} {t : TypeId} (hW : Below w0.heap.size w0 W) (hrd : BdsR W W.heap.size b o A bs) (hrp : CsR W W.heap.size b2 o2 A2 ps.length (prCs ps)) :
    PD w0 (W.alloc (.cells #[.int .i64 n, .slice A bs.length c, .slice A2 ps.length c2] t)) W.heap.size b o n A c bs b2 o2 A2 c2 ps :=
  ⟨bthen hW (by go_grown), hW.size, rd_new hrd hrp⟩

set_option maxHeartbeats 4000000 in
set_option maxRecDepth 100000 in
theorem lawPlanFor_c (a0 : Option Addr) (len0 cap0 : Nat) (z0 : List Int) (w : World) (w0 : RowU w a0 len0 cap0 z0) :
    Calls Try.prog 3 #[.slice a0 len0 cap0] w fun e w' => e = .returned (.bool true) ∧ Below w.heap.size w w' := by
  obtain ⟨hlc, hAs, hby⟩ := w0.bytes
  clear w0
  by_cases hlen : (1048576 : Int) < (len0 : Int)
  · go_enter Try.func3, Try.ntmps3
    go_wp2_with fail
    go_ret
    exact ⟨rfl, Below.refl _ _⟩
  · go_enter Try.func3, Try.ntmps3
    go_upto_region 4 with (go_at_call 14; go_fit (drawPlanFor_c a0 len0 cap0 z0 _ (by omega) hlc hAs hby); rintro e w1 ⟨n, A, c, bs, A2, c2, ps, A3, c3, ls, b, b2, b3, rfl, hn, hlb, hlp, hll, HP, hrd, hrp, hrl, hW⟩)
    have hD := pd_law (n := n) (c := c) (c2 := c2) (t := 28) hW hrd hrp
    have hba : Below w1.heap.size w1 (w1.alloc (.cells #[.int .i64 n, .slice A bs.length c, .slice A2 ps.length c2] 28)) := by go_grown
    replace hrl := (hrl.below hba).more hba.size
    generalize w1.alloc (.cells #[.int .i64 n, .slice A bs.length c, .slice A2 ps.length c2] 28) = wa at hD hrl ⊢
    generalize w1.heap.size = D at hD ⊢
    clear hW hrd hrp hlen hby hAs hba
    have hlb' : bs.length ≤ 2000000 := by omega
    have hlp' : ps.length ≤ 2000000 := by omega
    have hll' : ls.length ≤ 2000000 := by omega
    have d0 := hD.r.c0
    have d1 := hD.r.c1
    have d2 := hD.r.c2
    obtain ⟨q, r, hq⟩ : ∃ q r, planForR ⟨n, bs⟩ ps ls = (q, r) := ⟨_, _, rfl⟩
    have Hq := hide hq
    have hlq : q.bs.length ≤ 16 := by
      unfold planForR at hq
      split at hq
      · rename_i hr
        injection hq with e1 e2
        subst e1
        have := planOk_iff.1 (planFor_ok (lastsOk_iff.1 hr))
        exact this.2.1
      · injection hq with e1 e2; subst e1; exact Nat.zero_le _
    have hlq' : q.bs.length ≤ 2000000 := by omega
    clear hq
    go_upto_region 5 with (go_at_call 15; go_fit (planFor_q n bs ps ls q r Hq.out A A2 A3 b 0 c b2 0 c2 b3 0 c3 _ _ hlb' hlp' hll' (Nat.le_refl _) hD.r.rd hD.r.rp hrl); rintro e w2 ⟨A4, c4, g4, rfl, hr4, _, hb2⟩)
    have hP := pb_new (n := q.n) (c := c4) (t := 25) (bthen hD.bel hb2) hr4
    replace hD := hD.below (bthen hb2 (show Below w2.heap.size w2 (w2.alloc (.cells #[.int .i64 q.n, .slice A4 q.bs.length c4] 25)) by go_grown)); replace hrl := (hrl.below (bthen hb2 (show Below w2.heap.size w2 (w2.alloc (.cells #[.int .i64 q.n, .slice A4 q.bs.length c4] 25)) by go_grown))).more (bthen hb2 (show Below w2.heap.size w2 (w2.alloc (.cells #[.int .i64 q.n, .slice A4 q.bs.length c4] 25)) by go_grown)).size; clear d0 d1 d2; have d0 := hD.r.c0; have d1 := hD.r.c1; have d2 := hD.r.c2
    generalize w2.alloc (.cells #[.int .i64 q.n, .slice A4 q.bs.length c4] 25) = wb at hP hD hrl d0 d1 d2 ⊢
    generalize w2.heap.size = X at hP ⊢
    clear hb2 hr4
    go_upto_region 6 with (go_at_call 16; go_fit (sPlanFor_q n bs ps ls q r Hq.out A A2 A3 b 0 c b2 0 c2 b3 0 c3 _ _ hlb' hlp' hll' (Nat.le_refl _) hD.r.rd hD.r.rp hrl); rintro e w3 ⟨A5, c5, g5, rfl, hr5, _, hb3⟩)
    have hQ := pb_new (n := q.n) (c := c5) (t := 25) (bthen hD.bel hb3) hr5
    have hb3' := bthen hb3 (show Below w3.heap.size w3 (w3.alloc (.cells #[.int .i64 q.n, .slice A5 q.bs.length c5] 25)) by go_grown)
    replace hD := hD.below (hb3'); replace hrl := (hrl.below (hb3')).more (hb3').size; clear d0 d1 d2; have d0 := hD.r.c0; have d1 := hD.r.c1; have d2 := hD.r.c2
    replace hP := hP.below hb3'
    generalize w3.alloc (.cells #[.int .i64 q.n, .slice A5 q.bs.length c5] 25) = wd at hP hQ hD hrl d0 d1 d2 ⊢
    generalize w3.heap.size = Y at hQ ⊢
    clear hb3 hr5 hb3'
    have p0 := hP.c0
    have p1 := hP.c1
    have q0 := hQ.c0
    have q1 := hQ.c1
    go_upto_region 8 with (go_at_call 17; go_fit (samePlan_yes q.n q.bs A4 A5 g4 0 c4 g5 0 c5 _ _ hlq' (Nat.le_refl _) hP.rd hQ.rd); rintro e w4 ⟨rfl, hb4⟩)
    replace hD := hD.below (hb4); replace hrl := (hrl.below (hb4)).more (hb4).size; clear d0 d1 d2; have d0 := hD.r.c0; have d1 := hD.r.c1; have d2 := hD.r.c2
    replace hP := hP.below hb4
    clear q0 q1 p0 p1 hQ hb4
    have p0 := hP.c0
    have p1 := hP.c1
    cases r
    · have hz : Hid (q = ⟨0, []⟩) := by
        have h := Hq.out
        unfold planForR at h
        split at h
        · injection h with _ e2; cases e2
        · injection h with e1 _; exact e1.symm
      obtain ⟨qn, qbs⟩ := q
      obtain ⟨rfl, rfl⟩ : qn = 0 ∧ qbs = [] := by have := hz.out; injection this with e1 e2; exact ⟨e1, e2⟩
      go_wp2_with (first
        | (go_at_call 17; go_fit (samePlan_yes 0 [] A4 none g4 0 c4 0 0 0 _ _ (by simp) (Nat.le_refl _) hP.rd (BdsR.nil _ _ _)); rintro e w5 ⟨rfl, hb5⟩; replace hP := hP.below hb5)
        | (go_at_call 18; go_fit (alive_c w5); rintro e w6 ⟨rfl, hb6⟩; replace hP := hP.below hb6))
      go_ret
      exact ⟨rfl, hP.bel⟩
    · have hz : lastsOk ⟨n, bs⟩ ps ls = true ∧ planFor ⟨n, bs⟩ ps ls = q := by
        have h := Hq.out
        unfold planForR at h
        split at h
        · rename_i hr; injection h with e1 _; exact ⟨hr, e1⟩
        · injection h with _ e2; cases e2
      obtain ⟨hz1, hz2⟩ := hz
      have hLO := lastsOk_iff.1 hz1
      clear hz1
      have HL := hide hLO
      have Hpok : Hid (planOk q = true) := by rw [← hz2]; exact planFor_ok hLO
      have Himp : Hid (implies q ⟨n, bs⟩ = true) := by rw [← hz2]; exact planFor_implies hLO
      have hlen2 : ((q.bs.length : Int) == (bs.length : Int) + 2 * (ls.length : Int)) = true := by
        have h := planFor_len hLO
        rw [hz2] at h
        rw [h]
        simp
      have Hlps : Hid (ls.length = ps.length) := hLO.2.1
      have Hz2 := hide hz2
      clear hz2 hLO
      go_upto_block 0 with fail
      go_cut [] (fun wx => PB w wx X g4 q.n A4 c4 q.bs ∧ PD w wx D b 0 n A c bs b2 0 A2 c2 ps)
      case first =>
        go_wp2_with fail
        go_loopg [9] ls.length (fun gh s wr => ∃ k : Nat, k ≤ ls.length ∧ gh = ls.length - k ∧ s = .int .i64 k ∧ PB w wr X g4 q.n A4 c4 q.bs ∧ PD w wr D b 0 n A c bs b2 0 A2 c2 ps ∧ IntsR wr wr.heap.size b3 0 A3 ls)
        case atStart => exact ⟨0, Nat.zero_le _, rfl, rfl, hP, hD, hrl⟩
        case round =>
          clear hP hD hrl d0 d1 d2 p0 p1
          obtain ⟨k, hk, rfl, rfl, hP, hD, hrl⟩ := hrel
          have p0 := hP.c0
          have p1 := hP.c1
          by_cases hlt : k < ls.length
          · have hlt' : (k : Int) < (ls.length : Int) := by omega
            cases hf : fits q
            · have Hf := hide hf
              clear hf
              go_wp2_with (go_at_call 19; go_fit (fitsOk_c q A4 g4 0 c4 _ _ hlq' (Nat.le_refl _) hP.rd); rintro e w5 ⟨rfl, hb5⟩; rw [Hf.out]; replace hP := hP.below hb5; replace hD := hD.below hb5)
              go_meet
              case rel => exact ⟨hP, hD⟩
            · have Hf := hide hf
              clear hf
              have hkp : (k : Int) < (ps.length : Int) := by have := Hlps.out; omega
              have hkp' : k < ps.length := by omega
              have hk0 : (0 : Int) ≤ (k : Int) := by omega
              have hx := List.getElem?_eq_getElem hkp'
              have hl := List.getElem?_eq_getElem hlt
              have hmo := planFor_most HL.out (by rw [Hz2.out]; exact Hf.out) k _ _ hx hl
              rw [Hz2.out] at hmo
              obtain rfl := hD.r.rp.addr (by omega)
              obtain rfl := hrl.addr (by omega)
              have hlc := hrl.cell k hlt
              rw [List.getD_eq_getElem?_getD, hl] at hlc
              dsimp only [Option.getD_some] at hlc
              obtain ⟨e0, e1, _, _⟩ := pr_cells hD.r.rp hx
              generalize ps[k] = x at hx e0 e1 hmo
              generalize ls[k] = l at hl hlc hmo
              rw [Nat.zero_add] at e0 e1 hlc
              have Hm1 := hide hmo.1
              have Hm2 := hide hmo.2
              clear hmo hx hl
              have hb20 : b2 < wr.heap.size := hD.r.rp.lt (by omega)
              have hb30 : b3 < wr.heap.size := hrl.lt (by omega)
              go_upto_region 13 with (go_at_call 19; go_fit (fitsOk_c q A4 g4 0 c4 _ _ hlq' (Nat.le_refl _) hP.rd); rintro e w5 ⟨rfl, hb5⟩; rw [Hf.out])
              replace hP := hP.below hb5
              replace hD := hD.below hb5
              replace hrl := (hrl.below hb5).more hb5.size
              replace e0 := ((bcell hb5).1 _ _ hb20).trans e0
              replace e1 := ((bcell hb5).1 _ _ hb20).trans e1
              replace hlc := ((bcell hb5).1 _ _ hb30).trans hlc
              replace hb20 := Nat.lt_of_lt_of_le hb20 hb5.size
              replace hb30 := Nat.lt_of_lt_of_le hb30 hb5.size
              clear hb5 p0 p1
              refine wp_regionE (fun w' => w'.cell? ⟨X, 0, none⟩ = some (.int .i64 q.n) ∧ w'.cell? ⟨X, 1, none⟩ = some (.slice A4 q.bs.length c4) ∧ w'.cell? ⟨D, 2, none⟩ = some (.slice (some ⟨b2, 0, none⟩) ps.length c2) ∧ w'.cell? ⟨b2, k * 4, none⟩ = some (.int .i64 x.f) ∧ w'.cell? ⟨b2, k * 4 + 1, none⟩ = some (.int .i64 x.t)) 18 (by kernel_rfl) ?_
              change wpE _ _ _ _ _ _ 19 #[false, false, false, false, false, false, false, false, false, false, false, false, false, false, false, false, false, false, false] _ _
              have hS0 : w5.drew.cell? ⟨X, 0, none⟩ = some (.int .i64 q.n) ∧ w5.drew.cell? ⟨X, 1, none⟩ = some (.slice A4 q.bs.length c4) ∧ w5.drew.cell? ⟨D, 2, none⟩ = some (.slice (some ⟨b2, 0, none⟩) ps.length c2) ∧ w5.drew.cell? ⟨b2, k * 4, none⟩ = some (.int .i64 x.f) ∧ w5.drew.cell? ⟨b2, k * 4 + 1, none⟩ = some (.int .i64 x.t) := ⟨hP.c0, hP.c1, hD.r.c2, e0, e1⟩
              refine wpE_take' (v := ?_) 0 [18] (of_decide_eq_true (by kernel_rfl)) (by kernel_rfl) (by kernel_rfl) (by kernel_rfl) (by kernel_rfl) (fun _ _ _ h => h) (by kernel_rfl) ?_ hS0 ?_
              rotate_left
              · intro w' hSw
                simp only [List.getElem_toArray, List.getElem_cons_succ, List.getElem_cons_zero]
                go_simp
                all_goals with_reducible rfl
              simp only [List.getElem_toArray, List.getElem_cons_succ, List.getElem_cons_zero, Act.put, List.setIfInBounds_toArray, List.set_cons_zero, List.set_cons_succ]
              refine wpE_take' (v := ?_) 1 [18] (of_decide_eq_true (by kernel_rfl)) (by kernel_rfl) (by kernel_rfl) (by kernel_rfl) (by kernel_rfl) (fun _ _ _ h => h) (by kernel_rfl) ?_ hS0 ?_
              rotate_left
              · intro w' hSw
                simp only [List.getElem_toArray, List.getElem_cons_succ, List.getElem_cons_zero]
                go_simp
                all_goals with_reducible rfl
              simp only [List.getElem_toArray, List.getElem_cons_succ, List.getElem_cons_zero, Act.put, List.setIfInBounds_toArray, List.set_cons_zero, List.set_cons_succ]
              refine wpE_take' (v := ?_) 2 [18] (of_decide_eq_true (by kernel_rfl)) (by kernel_rfl) (by kernel_rfl) (by kernel_rfl) (by kernel_rfl) (fun _ _ _ h => h) (by kernel_rfl) ?_ hS0 ?_
              rotate_left
              · intro w' hSw
                simp only [List.getElem_toArray, List.getElem_cons_succ, List.getElem_cons_zero]
                go_simp
                all_goals with_reducible rfl
              simp only [List.getElem_toArray, List.getElem_cons_succ, List.getElem_cons_zero, Act.put, List.setIfInBounds_toArray, List.set_cons_zero, List.set_cons_succ]
              refine wpE_take' (v := ?_) 3 [18] (of_decide_eq_true (by kernel_rfl)) (by kernel_rfl) (by kernel_rfl) (by kernel_rfl) (by kernel_rfl) (fun _ _ _ h => h) (by kernel_rfl) ?_ hS0 ?_
              rotate_left
              · intro w' hSw
                simp only [List.getElem_toArray, List.getElem_cons_succ, List.getElem_cons_zero]
                go_simp
                all_goals with_reducible rfl
              simp only [List.getElem_toArray, List.getElem_cons_succ, List.getElem_cons_zero, Act.put, List.setIfInBounds_toArray, List.set_cons_zero, List.set_cons_succ]
              refine wpE_take' (v := ?_) 4 [18] (of_decide_eq_true (by kernel_rfl)) (by kernel_rfl) (by kernel_rfl) (by kernel_rfl) (by kernel_rfl) (fun _ _ _ h => h) (by kernel_rfl) ?_ hS0 ?_
              rotate_left
              · intro w' hSw
                simp only [List.getElem_toArray, List.getElem_cons_succ, List.getElem_cons_zero]
                go_simp
                all_goals with_reducible rfl
              simp only [List.getElem_toArray, List.getElem_cons_succ, List.getElem_cons_zero, Act.put, List.setIfInBounds_toArray, List.set_cons_zero, List.set_cons_succ]
              refine wpE_take' (v := ?_) 5 [18] (of_decide_eq_true (by kernel_rfl)) (by kernel_rfl) (by kernel_rfl) (by kernel_rfl) (by kernel_rfl) (fun _ _ _ h => h) (by kernel_rfl) ?_ hS0 ?_
              rotate_left
              · intro w' hSw
                simp only [List.getElem_toArray, List.getElem_cons_succ, List.getElem_cons_zero]
                go_simp
                all_goals with_reducible rfl
              simp only [List.getElem_toArray, List.getElem_cons_succ, List.getElem_cons_zero, Act.put, List.setIfInBounds_toArray, List.set_cons_zero, List.set_cons_succ]
              refine wpE_take' (v := ?_) 6 [18] (of_decide_eq_true (by kernel_rfl)) (by kernel_rfl) (by kernel_rfl) (by kernel_rfl) (by kernel_rfl) (fun _ _ _ h => h) (by kernel_rfl) ?_ hS0 ?_
              rotate_left
              · intro w' hSw
                simp only [List.getElem_toArray, List.getElem_cons_succ, List.getElem_cons_zero]
                go_simp
                all_goals with_reducible rfl
              simp only [List.getElem_toArray, List.getElem_cons_succ, List.getElem_cons_zero, Act.put, List.setIfInBounds_toArray, List.set_cons_zero, List.set_cons_succ]
              refine wpE_take' (v := ?_) 7 [18] (of_decide_eq_true (by kernel_rfl)) (by kernel_rfl) (by kernel_rfl) (by kernel_rfl) (by kernel_rfl) (fun _ _ _ h => h) (by kernel_rfl) ?_ hS0 ?_
              rotate_left
              · intro w' hSw
                simp only [List.getElem_toArray, List.getElem_cons_succ, List.getElem_cons_zero]
                go_simp
                all_goals with_reducible rfl
              simp only [List.getElem_toArray, List.getElem_cons_succ, List.getElem_cons_zero, Act.put, List.setIfInBounds_toArray, List.set_cons_zero, List.set_cons_succ]
              refine wpE_take' (v := ?_) 8 [18] (of_decide_eq_true (by kernel_rfl)) (by kernel_rfl) (by kernel_rfl) (by kernel_rfl) (by kernel_rfl) (fun _ _ _ h => h) (by kernel_rfl) ?_ hS0 ?_
              rotate_left
              · intro w' hSw
                simp only [List.getElem_toArray, List.getElem_cons_succ, List.getElem_cons_zero]
                go_simp
                all_goals with_reducible rfl
              simp only [List.getElem_toArray, List.getElem_cons_succ, List.getElem_cons_zero, Act.put, List.setIfInBounds_toArray, List.set_cons_zero, List.set_cons_succ]
              refine wpE_take' (v := ?_) 9 [18] (of_decide_eq_true (by kernel_rfl)) (by kernel_rfl) (by kernel_rfl) (by kernel_rfl) (by kernel_rfl) (fun _ _ _ h => h) (by kernel_rfl) ?_ hS0 ?_
              rotate_left
              · intro w' hSw
                simp only [List.getElem_toArray, List.getElem_cons_succ, List.getElem_cons_zero]
                go_simp
                all_goals with_reducible rfl
              simp only [List.getElem_toArray, List.getElem_cons_succ, List.getElem_cons_zero, Act.put, List.setIfInBounds_toArray, List.set_cons_zero, List.set_cons_succ]
              refine wpE_take' (v := ?_) 10 [18] (of_decide_eq_true (by kernel_rfl)) (by kernel_rfl) (by kernel_rfl) (by kernel_rfl) (by kernel_rfl) (fun _ _ _ h => h) (by kernel_rfl) ?_ hS0 ?_
              rotate_left
              · intro w' hSw
                simp only [List.getElem_toArray, List.getElem_cons_succ, List.getElem_cons_zero]
                go_simp
                all_goals with_reducible rfl
              simp only [List.getElem_toArray, List.getElem_cons_succ, List.getElem_cons_zero, Act.put, List.setIfInBounds_toArray, List.set_cons_zero, List.set_cons_succ]
              refine wpE_take' (v := ?_) 11 [18] (of_decide_eq_true (by kernel_rfl)) (by kernel_rfl) (by kernel_rfl) (by kernel_rfl) (by kernel_rfl) (fun _ _ _ h => h) (by kernel_rfl) ?_ hS0 ?_
              rotate_left
              · intro w' hSw
                simp only [List.getElem_toArray, List.getElem_cons_succ, List.getElem_cons_zero]
                go_simp
                all_goals with_reducible rfl
              simp only [List.getElem_toArray, List.getElem_cons_succ, List.getElem_cons_zero, Act.put, List.setIfInBounds_toArray, List.set_cons_zero, List.set_cons_succ]
              refine wpE_take' (v := ?_) 12 [18] (of_decide_eq_true (by kernel_rfl)) (by kernel_rfl) (by kernel_rfl) (by kernel_rfl) (by kernel_rfl) (fun _ _ _ h => h) (by kernel_rfl) ?_ hS0 ?_
              rotate_left
              · intro w' hSw
                simp only [List.getElem_toArray, List.getElem_cons_succ, List.getElem_cons_zero]
                go_simp
                all_goals with_reducible rfl
              simp only [List.getElem_toArray, List.getElem_cons_succ, List.getElem_cons_zero, Act.put, List.setIfInBounds_toArray, List.set_cons_zero, List.set_cons_succ]
              refine wpE_step' 13 (of_decide_eq_true (by kernel_rfl)) (by kernel_rfl) (by kernel_rfl) (fun K hK => ?_)
              simp only [List.getElem_toArray, List.getElem_cons_succ, List.getElem_cons_zero]
              go_simp
              go_at_call 20
              refine (mostOf_c q x.f x.t A4 g4 0 c4 _ _ hlq' (Nat.le_refl _) hP.drew.rd).mono ?_
              rintro e w6 ⟨rfl, hb6⟩
              rw [Hm1.out]
              replace hP := hP.drew.below hb6
              replace hD := hD.drew.below hb6
              have hbx : Below w5.heap.size w5 w6 := bthen (show Below w5.heap.size w5 w5.drew by go_grown) hb6
              replace hrl := (hrl.below hbx).more hbx.size
              replace e0 := ((bcell hbx).1 _ _ hb20).trans e0
              replace e1 := ((bcell hbx).1 _ _ hb20).trans e1
              replace hlc := ((bcell hbx).1 _ _ hb30).trans hlc
              replace hb20 := Nat.lt_of_lt_of_le hb20 hbx.size
              replace hb30 := Nat.lt_of_lt_of_le hb30 hbx.size
              have hS1 : w6.cell? ⟨X, 0, none⟩ = some (.int .i64 q.n) ∧ w6.cell? ⟨X, 1, none⟩ = some (.slice A4 q.bs.length c4) ∧ w6.cell? ⟨D, 2, none⟩ = some (.slice (some ⟨b2, 0, none⟩) ps.length c2) ∧ w6.cell? ⟨b2, k * 4, none⟩ = some (.int .i64 x.f) ∧ w6.cell? ⟨b2, k * 4 + 1, none⟩ = some (.int .i64 x.t) := ⟨hP.c0, hP.c1, hD.r.c2, e0, e1⟩
              refine hK.out _ _ (.inr hS1) ?_
              clear hK K hS0 hbx hb6
              have hS0 := hS1
              clear hS1
              simp only [Act.put, List.setIfInBounds_toArray, List.set_cons_zero, List.set_cons_succ]
              refine wpE_take' (v := ?_) 14 [18] (of_decide_eq_true (by kernel_rfl)) (by kernel_rfl) (by kernel_rfl) (by kernel_rfl) (by kernel_rfl) (fun _ _ _ h => h) (by kernel_rfl) ?_ hS0 ?_
              rotate_left
              · intro w' hSw
                simp only [List.getElem_toArray, List.getElem_cons_succ, List.getElem_cons_zero]
                go_simp
                all_goals with_reducible rfl
              simp only [List.getElem_toArray, List.getElem_cons_succ, List.getElem_cons_zero, Act.put, List.setIfInBounds_toArray, List.set_cons_zero, List.set_cons_succ]
              refine wpE_take' (v := ?_) 15 [18] (of_decide_eq_true (by kernel_rfl)) (by kernel_rfl) (by kernel_rfl) (by kernel_rfl) (by kernel_rfl) (fun _ _ _ h => h) (by kernel_rfl) ?_ hS0 ?_
              rotate_left
              · intro w' hSw
                simp only [List.getElem_toArray, List.getElem_cons_succ, List.getElem_cons_zero]
                go_simp
                all_goals with_reducible rfl
              simp only [List.getElem_toArray, List.getElem_cons_succ, List.getElem_cons_zero, Act.put, List.setIfInBounds_toArray, List.set_cons_zero, List.set_cons_succ]
              refine wpE_take' (v := ?_) 16 [18] (of_decide_eq_true (by kernel_rfl)) (by kernel_rfl) (by kernel_rfl) (by kernel_rfl) (by kernel_rfl) (fun _ _ _ h => h) (by kernel_rfl) ?_ hS0 ?_
              rotate_left
              · intro w' hSw
                simp only [List.getElem_toArray, List.getElem_cons_succ, List.getElem_cons_zero]
                go_simp
                all_goals with_reducible rfl
              simp only [List.getElem_toArray, List.getElem_cons_succ, List.getElem_cons_zero, Act.put, List.setIfInBounds_toArray, List.set_cons_zero, List.set_cons_succ]
              refine wpE_take' (v := ?_) 17 [18] (of_decide_eq_true (by kernel_rfl)) (by kernel_rfl) (by kernel_rfl) (by kernel_rfl) (by kernel_rfl) (fun _ _ _ h => h) (by kernel_rfl) ?_ hS0 ?_
              rotate_left
              · intro w' hSw
                simp only [List.getElem_toArray, List.getElem_cons_succ, List.getElem_cons_zero]
                go_simp
                all_goals with_reducible rfl
              simp only [List.getElem_toArray, List.getElem_cons_succ, List.getElem_cons_zero, Act.put, List.setIfInBounds_toArray, List.set_cons_zero, List.set_cons_succ]
              refine wpE_step' 18 (of_decide_eq_true (by kernel_rfl)) (by kernel_rfl) (by kernel_rfl) (fun K hK => ?_)
              simp only [List.getElem_toArray, List.getElem_cons_succ, List.getElem_cons_zero]
              go_simp
              refine hK.out _ _ (.inl rfl) ?_
              clear hK K hS0
              simp only [Act.put, List.setIfInBounds_toArray, List.set_cons_zero, List.set_cons_succ]
              refine wpE_done (by kernel_rfl) ?_ _
              go_upto_region 14 with fail
              refine wp_regionE (fun w' => w'.cell? ⟨X, 0, none⟩ = some (.int .i64 q.n) ∧ w'.cell? ⟨X, 1, none⟩ = some (.slice A4 q.bs.length c4) ∧ w'.cell? ⟨D, 2, none⟩ = some (.slice (some ⟨b2, 0, none⟩) ps.length c2) ∧ w'.cell? ⟨b2, k * 4, none⟩ = some (.int .i64 x.f) ∧ w'.cell? ⟨b2, k * 4 + 1, none⟩ = some (.int .i64 x.t)) 18 (by kernel_rfl) ?_
              change wpE _ _ _ _ _ _ 19 #[false, false, false, false, false, false, false, false, false, false, false, false, false, false, false, false, false, false, false] _ _
              have hS0 : w6.drew.cell? ⟨X, 0, none⟩ = some (.int .i64 q.n) ∧ w6.drew.cell? ⟨X, 1, none⟩ = some (.slice A4 q.bs.length c4) ∧ w6.drew.cell? ⟨D, 2, none⟩ = some (.slice (some ⟨b2, 0, none⟩) ps.length c2) ∧ w6.drew.cell? ⟨b2, k * 4, none⟩ = some (.int .i64 x.f) ∧ w6.drew.cell? ⟨b2, k * 4 + 1, none⟩ = some (.int .i64 x.t) := ⟨hP.c0, hP.c1, hD.r.c2, e0, e1⟩
              refine wpE_take' (v := ?_) 0 [18] (of_decide_eq_true (by kernel_rfl)) (by kernel_rfl) (by kernel_rfl) (by kernel_rfl) (by kernel_rfl) (fun _ _ _ h => h) (by kernel_rfl) ?_ hS0 ?_
              rotate_left
              · intro w' hSw
                simp only [List.getElem_toArray, List.getElem_cons_succ, List.getElem_cons_zero]
                go_simp
                all_goals with_reducible rfl
              simp only [List.getElem_toArray, List.getElem_cons_succ, List.getElem_cons_zero, Act.put, List.setIfInBounds_toArray, List.set_cons_zero, List.set_cons_succ]
              refine wpE_take' (v := ?_) 1 [18] (of_decide_eq_true (by kernel_rfl)) (by kernel_rfl) (by kernel_rfl) (by kernel_rfl) (by kernel_rfl) (fun _ _ _ h => h) (by kernel_rfl) ?_ hS0 ?_
              rotate_left
              · intro w' hSw
                simp only [List.getElem_toArray, List.getElem_cons_succ, List.getElem_cons_zero]
                go_simp
                all_goals with_reducible rfl
              simp only [List.getElem_toArray, List.getElem_cons_succ, List.getElem_cons_zero, Act.put, List.setIfInBounds_toArray, List.set_cons_zero, List.set_cons_succ]
              refine wpE_take' (v := ?_) 2 [18] (of_decide_eq_true (by kernel_rfl)) (by kernel_rfl) (by kernel_rfl) (by kernel_rfl) (by kernel_rfl) (fun _ _ _ h => h) (by kernel_rfl) ?_ hS0 ?_
              rotate_left
              · intro w' hSw
                simp only [List.getElem_toArray, List.getElem_cons_succ, List.getElem_cons_zero]
                go_simp
                all_goals with_reducible rfl
              simp only [List.getElem_toArray, List.getElem_cons_succ, List.getElem_cons_zero, Act.put, List.setIfInBounds_toArray, List.set_cons_zero, List.set_cons_succ]
              refine wpE_take' (v := ?_) 3 [18] (of_decide_eq_true (by kernel_rfl)) (by kernel_rfl) (by kernel_rfl) (by kernel_rfl) (by kernel_rfl) (fun _ _ _ h => h) (by kernel_rfl) ?_ hS0 ?_
              rotate_left
              · intro w' hSw
                simp only [List.getElem_toArray, List.getElem_cons_succ, List.getElem_cons_zero]
                go_simp
                all_goals with_reducible rfl
              simp only [List.getElem_toArray, List.getElem_cons_succ, List.getElem_cons_zero, Act.put, List.setIfInBounds_toArray, List.set_cons_zero, List.set_cons_succ]
              refine wpE_take' (v := ?_) 4 [18] (of_decide_eq_true (by kernel_rfl)) (by kernel_rfl) (by kernel_rfl) (by kernel_rfl) (by kernel_rfl) (fun _ _ _ h => h) (by kernel_rfl) ?_ hS0 ?_
              rotate_left
              · intro w' hSw
                simp only [List.getElem_toArray, List.getElem_cons_succ, List.getElem_cons_zero]
                go_simp
                all_goals with_reducible rfl
              simp only [List.getElem_toArray, List.getElem_cons_succ, List.getElem_cons_zero, Act.put, List.setIfInBounds_toArray, List.set_cons_zero, List.set_cons_succ]
              refine wpE_take' (v := ?_) 5 [18] (of_decide_eq_true (by kernel_rfl)) (by kernel_rfl) (by kernel_rfl) (by kernel_rfl) (by kernel_rfl) (fun _ _ _ h => h) (by kernel_rfl) ?_ hS0 ?_
              rotate_left
              · intro w' hSw
                simp only [List.getElem_toArray, List.getElem_cons_succ, List.getElem_cons_zero]
                go_simp
                all_goals with_reducible rfl
              simp only [List.getElem_toArray, List.getElem_cons_succ, List.getElem_cons_zero, Act.put, List.setIfInBounds_toArray, List.set_cons_zero, List.set_cons_succ]
              refine wpE_take' (v := ?_) 6 [18] (of_decide_eq_true (by kernel_rfl)) (by kernel_rfl) (by kernel_rfl) (by kernel_rfl) (by kernel_rfl) (fun _ _ _ h => h) (by kernel_rfl) ?_ hS0 ?_
              rotate_left
              · intro w' hSw
                simp only [List.getElem_toArray, List.getElem_cons_succ, List.getElem_cons_zero]
                go_simp
                all_goals with_reducible rfl
              simp only [List.getElem_toArray, List.getElem_cons_succ, List.getElem_cons_zero, Act.put, List.setIfInBounds_toArray, List.set_cons_zero, List.set_cons_succ]
              refine wpE_take' (v := ?_) 7 [18] (of_decide_eq_true (by kernel_rfl)) (by kernel_rfl) (by kernel_rfl) (by kernel_rfl) (by kernel_rfl) (fun _ _ _ h => h) (by kernel_rfl) ?_ hS0 ?_
              rotate_left
              · intro w' hSw
                simp only [List.getElem_toArray, List.getElem_cons_succ, List.getElem_cons_zero]
                go_simp
                all_goals with_reducible rfl
              simp only [List.getElem_toArray, List.getElem_cons_succ, List.getElem_cons_zero, Act.put, List.setIfInBounds_toArray, List.set_cons_zero, List.set_cons_succ]
              refine wpE_take' (v := ?_) 8 [18] (of_decide_eq_true (by kernel_rfl)) (by kernel_rfl) (by kernel_rfl) (by kernel_rfl) (by kernel_rfl) (fun _ _ _ h => h) (by kernel_rfl) ?_ hS0 ?_
              rotate_left
              · intro w' hSw
                simp only [List.getElem_toArray, List.getElem_cons_succ, List.getElem_cons_zero]
                go_simp
                all_goals with_reducible rfl
              simp only [List.getElem_toArray, List.getElem_cons_succ, List.getElem_cons_zero, Act.put, List.setIfInBounds_toArray, List.set_cons_zero, List.set_cons_succ]
              refine wpE_take' (v := ?_) 9 [18] (of_decide_eq_true (by kernel_rfl)) (by kernel_rfl) (by kernel_rfl) (by kernel_rfl) (by kernel_rfl) (fun _ _ _ h => h) (by kernel_rfl) ?_ hS0 ?_
              rotate_left
              · intro w' hSw
                simp only [List.getElem_toArray, List.getElem_cons_succ, List.getElem_cons_zero]
                go_simp
                all_goals with_reducible rfl
              simp only [List.getElem_toArray, List.getElem_cons_succ, List.getElem_cons_zero, Act.put, List.setIfInBounds_toArray, List.set_cons_zero, List.set_cons_succ]
              refine wpE_take' (v := ?_) 10 [18] (of_decide_eq_true (by kernel_rfl)) (by kernel_rfl) (by kernel_rfl) (by kernel_rfl) (by kernel_rfl) (fun _ _ _ h => h) (by kernel_rfl) ?_ hS0 ?_
              rotate_left
              · intro w' hSw
                simp only [List.getElem_toArray, List.getElem_cons_succ, List.getElem_cons_zero]
                go_simp
                all_goals with_reducible rfl
              simp only [List.getElem_toArray, List.getElem_cons_succ, List.getElem_cons_zero, Act.put, List.setIfInBounds_toArray, List.set_cons_zero, List.set_cons_succ]
              refine wpE_take' (v := ?_) 11 [18] (of_decide_eq_true (by kernel_rfl)) (by kernel_rfl) (by kernel_rfl) (by kernel_rfl) (by kernel_rfl) (fun _ _ _ h => h) (by kernel_rfl) ?_ hS0 ?_
              rotate_left
              · intro w' hSw
                simp only [List.getElem_toArray, List.getElem_cons_succ, List.getElem_cons_zero]
                go_simp
                all_goals with_reducible rfl
              simp only [List.getElem_toArray, List.getElem_cons_succ, List.getElem_cons_zero, Act.put, List.setIfInBounds_toArray, List.set_cons_zero, List.set_cons_succ]
              refine wpE_take' (v := ?_) 12 [18] (of_decide_eq_true (by kernel_rfl)) (by kernel_rfl) (by kernel_rfl) (by kernel_rfl) (by kernel_rfl) (fun _ _ _ h => h) (by kernel_rfl) ?_ hS0 ?_
              rotate_left
              · intro w' hSw
                simp only [List.getElem_toArray, List.getElem_cons_succ, List.getElem_cons_zero]
                go_simp
                all_goals with_reducible rfl
              simp only [List.getElem_toArray, List.getElem_cons_succ, List.getElem_cons_zero, Act.put, List.setIfInBounds_toArray, List.set_cons_zero, List.set_cons_succ]
              refine wpE_step' 13 (of_decide_eq_true (by kernel_rfl)) (by kernel_rfl) (by kernel_rfl) (fun K hK => ?_)
              simp only [List.getElem_toArray, List.getElem_cons_succ, List.getElem_cons_zero]
              go_simp
              go_at_call 21
              refine (leastOf_c q x.f x.t A4 g4 0 c4 _ _ hlq' (Nat.le_refl _) hP.drew.rd).mono ?_
              rintro e w7 ⟨rfl, hb7⟩
              rw [Hm2.out]
              replace hP := hP.drew.below hb7
              replace hD := hD.drew.below hb7
              have hbx : Below w6.heap.size w6 w7 := bthen (show Below w6.heap.size w6 w6.drew by go_grown) hb7
              replace hrl := (hrl.below hbx).more hbx.size
              replace e0 := ((bcell hbx).1 _ _ hb20).trans e0
              replace e1 := ((bcell hbx).1 _ _ hb20).trans e1
              replace hlc := ((bcell hbx).1 _ _ hb30).trans hlc
              replace hb20 := Nat.lt_of_lt_of_le hb20 hbx.size
              replace hb30 := Nat.lt_of_lt_of_le hb30 hbx.size
              have hS1 : w7.cell? ⟨X, 0, none⟩ = some (.int .i64 q.n) ∧ w7.cell? ⟨X, 1, none⟩ = some (.slice A4 q.bs.length c4) ∧ w7.cell? ⟨D, 2, none⟩ = some (.slice (some ⟨b2, 0, none⟩) ps.length c2) ∧ w7.cell? ⟨b2, k * 4, none⟩ = some (.int .i64 x.f) ∧ w7.cell? ⟨b2, k * 4 + 1, none⟩ = some (.int .i64 x.t) := ⟨hP.c0, hP.c1, hD.r.c2, e0, e1⟩
              refine hK.out _ _ (.inr hS1) ?_
              clear hK K hS0 hbx hb7
              have hS0 := hS1
              clear hS1
              simp only [Act.put, List.setIfInBounds_toArray, List.set_cons_zero, List.set_cons_succ]
              refine wpE_take' (v := ?_) 14 [18] (of_decide_eq_true (by kernel_rfl)) (by kernel_rfl) (by kernel_rfl) (by kernel_rfl) (by kernel_rfl) (fun _ _ _ h => h) (by kernel_rfl) ?_ hS0 ?_
              rotate_left
              · intro w' hSw
                simp only [List.getElem_toArray, List.getElem_cons_succ, List.getElem_cons_zero]
                go_simp
                all_goals with_reducible rfl
              simp only [List.getElem_toArray, List.getElem_cons_succ, List.getElem_cons_zero, Act.put, List.setIfInBounds_toArray, List.set_cons_zero, List.set_cons_succ]
              refine wpE_take' (v := ?_) 15 [18] (of_decide_eq_true (by kernel_rfl)) (by kernel_rfl) (by kernel_rfl) (by kernel_rfl) (by kernel_rfl) (fun _ _ _ h => h) (by kernel_rfl) ?_ hS0 ?_
              rotate_left
              · intro w' hSw
                simp only [List.getElem_toArray, List.getElem_cons_succ, List.getElem_cons_zero]
                go_simp
                all_goals with_reducible rfl
              simp only [List.getElem_toArray, List.getElem_cons_succ, List.getElem_cons_zero, Act.put, List.setIfInBounds_toArray, List.set_cons_zero, List.set_cons_succ]
              refine wpE_take' (v := ?_) 16 [18] (of_decide_eq_true (by kernel_rfl)) (by kernel_rfl) (by kernel_rfl) (by kernel_rfl) (by kernel_rfl) (fun _ _ _ h => h) (by kernel_rfl) ?_ hS0 ?_
              rotate_left
              · intro w' hSw
                simp only [List.getElem_toArray, List.getElem_cons_succ, List.getElem_cons_zero]
                go_simp
                all_goals with_reducible rfl
              simp only [List.getElem_toArray, List.getElem_cons_succ, List.getElem_cons_zero, Act.put, List.setIfInBounds_toArray, List.set_cons_zero, List.set_cons_succ]
              refine wpE_take' (v := ?_) 17 [18] (of_decide_eq_true (by kernel_rfl)) (by kernel_rfl) (by kernel_rfl) (by kernel_rfl) (by kernel_rfl) (fun _ _ _ h => h) (by kernel_rfl) ?_ hS0 ?_
              rotate_left
              · intro w' hSw
                simp only [List.getElem_toArray, List.getElem_cons_succ, List.getElem_cons_zero]
                go_simp
                all_goals with_reducible rfl
              simp only [List.getElem_toArray, List.getElem_cons_succ, List.getElem_cons_zero, Act.put, List.setIfInBounds_toArray, List.set_cons_zero, List.set_cons_succ]
              refine wpE_step' 18 (of_decide_eq_true (by kernel_rfl)) (by kernel_rfl) (by kernel_rfl) (fun K hK => ?_)
              simp only [List.getElem_toArray, List.getElem_cons_succ, List.getElem_cons_zero]
              go_simp
              refine hK.out _ _ (.inl rfl) ?_
              clear hK K hS0
              simp only [Act.put, List.setIfInBounds_toArray, List.set_cons_zero, List.set_cons_succ]
              refine wpE_done (by kernel_rfl) ?_ _
              go_wp2_with fail
              go_roundg (ls.length - (k + 1))
              case measure => go_light; omega
              case rel => go_light; exact ⟨k + 1, by omega, rfl, by go_num, hP, hD, hrl⟩
          · obtain rfl : k = ls.length := by omega
            have hlt' : ¬ (ls.length : Int) < (ls.length : Int) := by omega
            go_wp2_with fail
            go_meet
            case rel => exact ⟨hP, hD⟩
      case rest =>
        clear hP hD hrl d0 d1 d2 p0 p1
        obtain ⟨hP, hD⟩ := hcut
        have p0 := hP.c0
        have p1 := hP.c1
        have d0 := hD.r.c0
        have d1 := hD.r.c1
        have hlq1 : q.bs.length ≤ 100000 := by omega
        have hlb1 : bs.length ≤ 100000 := by omega
        go_wp2_with (first
          | (go_at_call 22; go_fit (planOk_c q A4 g4 0 c4 _ _ hlq' (Nat.le_refl _) hP.rd); rintro e w5 ⟨rfl, hb5⟩; rw [Hpok.out]; have hP5 := hP.below hb5; have hD5 := hD.below hb5; have p50 := hP5.c0; have p51 := hP5.c1; have d50 := hD5.r.c0; have d51 := hD5.r.c1)
          | (go_at_call 23; go_fit (impliesOk_c q ⟨n, bs⟩ A4 A g4 0 c4 b 0 c _ _ hlq1 hlb1 (Nat.le_refl _) hP5.rd hD5.r.rd); rintro e w6 ⟨rfl, hb6⟩; rw [Himp.out]; have hP6 := hP5.below hb6))
        go_ret
        exact ⟨rfl, hP6.bel⟩
end Go.Proofs.Ytdijfkpccbkdfaa
