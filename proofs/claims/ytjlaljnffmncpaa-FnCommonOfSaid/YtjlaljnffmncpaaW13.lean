/-
  The law of CommonOf: its walk.
-/
import Derived.Test.YtjlaljnffmncpaaD20
import Derived.Test.YtjlaljnffmncpaaS12
import Derived.Test.YtjlaljnffmncpaaW2
import Derived.Test.YtjlaljnffmncpaaI1
import Derived.Test.YtjlaljnffmncpaaZ1
import Derived.Deep.CutBlock
namespace Go.Proofs.Ytjlaljnffmncpaa
set_option linter.unusedVariables false
set_option linter.unusedSimpArgs false
open Go.RowKit Pp

/-- What the law asks of a common plan. -/
theorem common_law {n : Int} {bs bs' : List Bd} {x : Pl} (h : common ⟨n, bs⟩ ⟨n, bs'⟩ = (x, true)) :
    x.bs.length ≤ 16 ∧ implies ⟨n, bs⟩ x = true ∧ implies ⟨n, bs'⟩ x = true ∧ (∀ y, implies ⟨n, bs⟩ ⟨n, [y]⟩ = true → implies ⟨n, bs'⟩ ⟨n, [y]⟩ = true → implies x ⟨n, [y]⟩ = true) := by
  obtain ⟨f1, f2, h3, h4, h5, h6⟩ := common_some h
  have k1 := planOk_of_fits f1
  have k2 := planOk_of_fits f2
  refine ⟨(planOk_iff.1 h4).2.1, (implies_iff k1 h4 h5.symm).2 (common_left h), (implies_iff k2 h4 (by rw [h5])).2 (common_right h), fun y i1 i2 => ?_⟩
  obtain ⟨_, k3, _⟩ := implies_ok i1
  exact (implies_iff h4 k3 h5).2 (common_alone h y k3 ((implies_iff k1 k3 rfl).1 i1) ((implies_iff k2 k3 rfl).1 i2))
theorem common_law2 {p x : Pl} (h : common p p = (x, true)) : alike x p = true ∧ x.bs.length ≤ 16 := by
  obtain ⟨f1, _, _, h4, h5, _⟩ := common_some h
  exact ⟨(alike_iff h4 (planOk_of_fits f1) h5).2 (common_self h), (planOk_iff.1 h4).2.1⟩
theorem BdsR.below' {W W' : World} {b o : Nat} {A : Option Addr} {bs : List Bd} (h : BdsR W W.heap.size b o A bs) (hb : Below W.heap.size W W') : BdsR W' W'.heap.size b o A bs := (h.below hb).more hb.size
theorem BdsR.one {w : World} {B b k : Nat} {L : List Bd} {y : Bd} (h : BdsR w B b 0 (some ⟨b, 0, none⟩) L) (hy : L[k]? = some y) : BdsR w B b (k * 3) (some ⟨b, k * 3, none⟩) [y] := by
  have hl : 0 < L.length := by have := (List.getElem?_eq_some_iff.1 hy).1; omega
  refine ⟨fun _ => rfl, fun _ => h.lt hl, fun j x hx => ?_, fun j x hx => ?_, fun j x hx => ?_⟩ <;> (
    cases j with
    | zero => ?_
    | succ j => cases hx)
  all_goals (simp only [List.getElem?_cons_zero, Option.some.injEq] at hx; subst hx; simp only [Nat.zero_mul, Nat.add_zero])
  · simpa using h.c0 k y hy
  · simpa using h.c1 k y hy
  · simpa using h.c2 k y hy
theorem PB.nx {w0 W W' : World} {X b : Nat} {n : Int} {A : Option Addr} {c : Nat} {bs : List Bd} (h : PB w0 W X b n A c bs) (hb : Below W.heap.size W W') : PB w0 W' X b n A c bs := h.below hb

set_option maxHeartbeats 4000000 in
set_option maxRecDepth 100000 in
theorem lawCommon_c (a0 : Option Addr) (len0 cap0 : Nat) (z0 : List Int) (w : World) (w0 : RowU w a0 len0 cap0 z0) :
    Calls Try.prog 3 #[.slice a0 len0 cap0] w fun e w' => e = .returned (.bool true) ∧ Below w.heap.size w w' := by
  obtain ⟨j0, hj0, hy0, hy1, hy2⟩ := info_parts infoB
  obtain ⟨hlc, hAs, hby⟩ := w0.bytes
  clear w0
  by_cases hlen : (1048576 : Int) < (len0 : Int)
  · go_enter Try.func3, Try.ntmps3
    go_wp2_with fail
    go_ret
    exact ⟨rfl, Below.refl _ _⟩
  · go_enter Try.func3, Try.ntmps3
    go_upto_region 4 with (go_at_call 15; go_fit (drawCommon_c a0 len0 cap0 z0 _ (by omega) hlc hAs hby); rintro e w1 ⟨n, A, c, bs, n', A', c', bs', b, b', rfl, hn, hlb, hn', hlb', hrd, hrd', hW⟩)
    have hb1 : Below w1.heap.size w1 (w1.alloc (.cells #[.int .i64 n, .slice A bs.length c] 25)) := by go_grown
    have hP := (pb_new (n := n) (c := c) (t := 25) hW hrd).alloc (.cells #[.int .i64 n', .slice A' bs'.length c'] 25)
    have hQ := pb_new (n := n') (c := c') (t := 25) (bthen hW hb1) ((hrd'.below hb1).more hb1.size)
    have hXY : w1.heap.size ≠ (w1.alloc (.cells #[.int .i64 n, .slice A bs.length c] 25)).heap.size := by simp
    simp only [World.size_alloc] at hQ hXY
    generalize (w1.alloc (.cells #[.int .i64 n, .slice A bs.length c] 25)).alloc (.cells #[.int .i64 n', .slice A' bs'.length c'] 25) = W at hP hQ ⊢
    generalize w1.heap.size + 1 = Y at hQ hXY ⊢
    generalize w1.heap.size = X at hP hXY ⊢
    clear hW hrd hrd' hb1 hlen hby hAs hn hn'
    have hl1 : bs.length ≤ 2000000 := by omega
    have hl2 : bs'.length ≤ 2000000 := by omega
    have p0 := hP.c0
    have p1 := hP.c1
    have q0 := hQ.c0
    have q1 := hQ.c1
    have hQx := hQ.ex
    obtain ⟨⟨xn, xb⟩, r, hc⟩ : ∃ x r, common ⟨n, bs⟩ ⟨n', bs'⟩ = (x, r) := ⟨_, _, rfl⟩
    have Hc := hide hc
    go_upto_region 5 with (go_at_call 16; go_fit (commonOf_q n n' bs bs' ⟨xn, xb⟩ r Hc.out A A' b 0 c b' 0 c' _ _ hl1 hl2 (Nat.le_refl _) hP.rd hQ.rd); rintro e w2 ⟨A1, c1, g1, rfl, hr1, hb2⟩; dsimp only at hr1 ⊢)
    have hD := pb_new (n := xn) (c := c1) (t := 25) (bthen hP.bel hb2) hr1
    have hb2' := bthen hb2 (show Below w2.heap.size w2 (w2.alloc (.cells #[.int .i64 xn, .slice A1 xb.length c1] 25)) by go_grown)
    replace hP := hP.below hb2'
    replace hQ := hQ.below hb2'
    generalize w2.alloc (.cells #[.int .i64 xn, .slice A1 xb.length c1] 25) = wb at hP hQ hD ⊢
    generalize w2.heap.size = Z at hD ⊢
    clear hb2 hb2' hr1 p0 p1 q0 q1 hQx
    have p0 := hP.c0
    have p1 := hP.c1
    have q0 := hQ.c0
    have q1 := hQ.c1
    go_upto_region 6 with (go_at_call 17; go_fit (sCommonOf_q n n' bs bs' ⟨xn, xb⟩ r Hc.out A A' b 0 c b' 0 c' _ _ hl1 hl2 (Nat.le_refl _) hP.rd hQ.rd); rintro e w3 ⟨A2, c2, g2, rfl, hr2, hb3⟩; dsimp only at hr2 ⊢)
    have hE := pb_new (n := xn) (c := c2) (t := 25) (bthen hP.bel hb3) hr2
    have hb3' := bthen hb3 (show Below w3.heap.size w3 (w3.alloc (.cells #[.int .i64 xn, .slice A2 xb.length c2] 25)) by go_grown)
    replace hP := hP.below hb3'
    replace hQ := hQ.below hb3'
    replace hD := hD.below hb3'
    generalize w3.alloc (.cells #[.int .i64 xn, .slice A2 xb.length c2] 25) = wd at hP hQ hD hE ⊢
    generalize w3.heap.size = V at hE ⊢
    clear hb3 hb3' hr2 p0 p1 q0 q1
    have d0 := hD.c0
    have d1 := hD.c1
    have e0 := hE.c0
    have e1 := hE.c1
    have hlx : xb.length ≤ 2000000 := by
      cases r
      · have e := common_no hc; injection e with _ e2; rw [e2]; exact Nat.zero_le _
      · have := (planOk_iff.1 (common_some hc).2.2.2.1).2.1; dsimp only at this; omega
    go_upto_region 8 with (go_at_call 18; go_fit (samePlan_yes xn xb A1 A2 g1 0 c1 g2 0 c2 _ _ hlx (Nat.le_refl _) hD.rd hE.rd); rintro e w4 ⟨rfl, hb4⟩; replace hP := hP.below hb4; replace hQ := hQ.below hb4; replace hD := hD.below hb4; clear hE e0 e1 d0 d1; have d0 := hD.c0; have d1 := hD.c1)
    cases r
    · have hx := common_no hc
      injection hx with hx1 hx2
      subst hx1 hx2
      go_wp2_with (first
        | (go_at_call 18; go_fit (samePlan_yes 0 [] A1 none g1 0 c1 0 0 0 _ _ (by simp) (Nat.le_refl _) hD.rd (BdsR.nil _ _ _)); rintro e w5 ⟨rfl, hb5⟩; have hP5 := hP.below hb5)
        | (go_at_call 19; go_fit (alive_c w5); rintro e w6 ⟨rfl, hb6⟩; have hP6 := hP5.below hb6))
      go_ret
      exact ⟨rfl, hP6.bel⟩
    · have hnn := (common_some hc).2.2.1
      dsimp only at hnn
      subst hnn
      obtain ⟨hlx16, i1, i2, i3⟩ := common_law hc
      dsimp only at hlx16
      obtain ⟨x2, r2, hc2⟩ : ∃ x2 r2, common ⟨n, bs⟩ ⟨n, bs⟩ = (x2, r2) := ⟨_, _, rfl⟩
      have hal : r2 = true → alike x2 ⟨n, bs⟩ = true ∧ x2.bs.length ≤ 16 := fun e => by subst e; exact common_law2 hc2
      have hxn := (common_some hc).2.2.2.2.1
      dsimp only at hxn
      obtain rfl := hxn.symm
      have Hc2 := hide hc2
      have I1 := hide i1
      have I2 := hide i2
      have I3 := hide i3
      have Hal := hide hal
      clear hc Hc hc2 i1 i2 i3 hal d0 d1
      go_upto_region 10 with fail
      have hS0 : w4.drew.cell? ⟨X, 1, none⟩ = some (.slice A bs.length c) ∧ w4.drew.cell? ⟨Y, 1, none⟩ = some (.slice A' bs'.length c') := ⟨hP.c1, hQ.c1⟩
      refine wp_regionE (fun w' => w'.cell? ⟨X, 1, none⟩ = some (.slice A bs.length c) ∧ w'.cell? ⟨Y, 1, none⟩ = some (.slice A' bs'.length c')) 7 (by kernel_rfl) ?_
      change wpE _ _ _ _ _ _ 8 #[false, false, false, false, false, false, false, false] _ _
      refine wpE_take' (v := ?_) 1 [7] (of_decide_eq_true (by kernel_rfl)) (by kernel_rfl) (by kernel_rfl) (by kernel_rfl) (by kernel_rfl) (fun _ _ _ h => h) (by kernel_rfl) ?_ hS0 ?_
      rotate_left
      · intro w' hSw
        simp only [List.getElem_toArray, List.getElem_cons_succ, List.getElem_cons_zero]
        go_simp
        all_goals with_reducible rfl
      simp only [List.getElem_toArray, List.getElem_cons_succ, List.getElem_cons_zero, Act.put, List.setIfInBounds_toArray, List.set_cons_zero, List.set_cons_succ]
      refine wpE_take' (v := ?_) 2 [7] (of_decide_eq_true (by kernel_rfl)) (by kernel_rfl) (by kernel_rfl) (by kernel_rfl) (by kernel_rfl) (fun _ _ _ h => h) (by kernel_rfl) ?_ hS0 ?_
      rotate_left
      · intro w' hSw
        simp only [List.getElem_toArray, List.getElem_cons_succ, List.getElem_cons_zero]
        go_simp
        all_goals with_reducible rfl
      simp only [List.getElem_toArray, List.getElem_cons_succ, List.getElem_cons_zero, Act.put, List.setIfInBounds_toArray, List.set_cons_zero, List.set_cons_succ]
      refine wpE_take' (v := ?_) 4 [7] (of_decide_eq_true (by kernel_rfl)) (by kernel_rfl) (by kernel_rfl) (by kernel_rfl) (by kernel_rfl) (fun _ _ _ h => h) (by kernel_rfl) ?_ hS0 ?_
      rotate_left
      · intro w' hSw
        simp only [List.getElem_toArray, List.getElem_cons_succ, List.getElem_cons_zero]
        go_simp
        all_goals with_reducible rfl
      simp only [List.getElem_toArray, List.getElem_cons_succ, List.getElem_cons_zero, Act.put, List.setIfInBounds_toArray, List.set_cons_zero, List.set_cons_succ]
      refine wpE_take' (v := ?_) 5 [7] (of_decide_eq_true (by kernel_rfl)) (by kernel_rfl) (by kernel_rfl) (by kernel_rfl) (by kernel_rfl) (fun _ _ _ h => h) (by kernel_rfl) ?_ hS0 ?_
      rotate_left
      · intro w' hSw
        simp only [List.getElem_toArray, List.getElem_cons_succ, List.getElem_cons_zero]
        go_simp
        all_goals with_reducible rfl
      simp only [List.getElem_toArray, List.getElem_cons_succ, List.getElem_cons_zero, Act.put, List.setIfInBounds_toArray, List.set_cons_zero, List.set_cons_succ]
      refine wpE_step' 0 (of_decide_eq_true (by kernel_rfl)) (by kernel_rfl) (by kernel_rfl) (fun K hK => ?_)
      simp only [List.getElem_toArray, List.getElem_cons_succ, List.getElem_cons_zero]
      go_simp
      have hba : Below w4.heap.size w4 (w4.alloc (.cells #[] 41)).drew := by go_grown
      have hP5 := hP.below hba
      have hQ5 := hQ.below hba
      have hD5 := hD.below hba
      have hown : OwnB w4.heap.size (w4.alloc (.cells #[] 41)).drew (.slice (some ⟨w4.heap.size, 0, none⟩) 0 0) [] := own_empty (show (w4.alloc (.cells #[] 41)).heap[w4.heap.size]? = _ from at_new rfl) (Nat.le_refl _)
      have hX4 := hP.ex
      have hY4 := hQ.ex
      have hZ4 := hD.ex
      refine hK.out _ _ (.inr ⟨hP5.c1, hQ5.c1⟩) ?_
      clear hK K hS0
      have hsz5 : w4.heap.size + 1 ≤ (w4.alloc (.cells #[] 41)).drew.heap.size := by simp
      simp only [Act.put, List.setIfInBounds_toArray, List.set_cons_zero, List.set_cons_succ]
      generalize (w4.alloc (.cells #[] 41)).drew = w5 at hP5 hQ5 hD5 hba hown hsz5 ⊢
      refine wpE_step' 3 (of_decide_eq_true (by kernel_rfl)) (by kernel_rfl) (by kernel_rfl) (fun K hK => ?_)
      simp only [List.getElem_toArray, List.getElem_cons_succ, List.getElem_cons_zero]
      refine app_wp _ (.tmp 51) (.tmp 53) _ rfl w4.heap.size 41 j0 _ 3 24 Try.underlying23 hj0 hy0 hy1 hy2 rfl (by omega) (.slice (some ⟨w4.heap.size, 0, none⟩) 0 0) 0 [] rfl hown A bs.length c (bdCs bs) rfl (bdCs_length bs) hP5.rd.news (bdCs_one bs) (by omega) (by omega) (by omega) ?_
      intro A6 c6 w6 hown6 hg6 hat6
      simp only [Nat.zero_add, List.nil_append] at hown6 hat6 ⊢
      have hb6 := hba.grown hg6 (by omega) (fun q hq => by cases hq; exact Nat.le_refl _)
      have hP6 := hP.below hb6
      have hQ6 := hQ.below hb6
      have hD6 := hD.below hb6
      refine hK.out _ _ (.inr ⟨hP6.c1, hQ6.c1⟩) ?_
      clear hK K hP5 hQ5 hD5 hown hba
      have hsz6 := hg6.size
      simp only [Act.put, List.setIfInBounds_toArray, List.set_cons_zero, List.set_cons_succ]
      refine wpE_step' 6 (of_decide_eq_true (by kernel_rfl)) (by kernel_rfl) (by kernel_rfl) (fun K hK => ?_)
      simp only [List.getElem_toArray, List.getElem_cons_succ, List.getElem_cons_zero]
      refine app_wp _ (.tmp 54) (.tmp 56) _ rfl w4.heap.size 41 j0 _ 3 24 Try.underlying23 hj0 hy0 hy1 hy2 rfl (by omega) (.slice A6 bs.length c6) bs.length (bdCs bs) rfl hown6 A' bs'.length c' (bdCs bs') rfl (bdCs_length bs') hQ6.rd.news (bdCs_one bs') (by omega) (by omega) (by omega) ?_
      intro A7 c7 w7 hown7 hg7 hat7
      have hb7 := hb6.grown hg7 (by omega) (fun q hq => (hown6.lt q hq).1)
      replace hP := hP.below hb7
      replace hQ := hQ.below hb7
      replace hD := hD.below hb7
      refine hK.out _ _ (.inr ⟨hP.c1, hQ.c1⟩) ?_
      clear hK K hP6 hQ6 hD6 hown6 hg6 hat6 hb6 hg7 hat7 hsz5 hsz6
      simp only [Act.put, List.setIfInBounds_toArray, List.set_cons_zero, List.set_cons_succ]
      refine wpE_step' 7 (of_decide_eq_true (by kernel_rfl)) (by kernel_rfl) (by kernel_rfl) (fun K hK => ?_)
      simp only [List.getElem_toArray, List.getElem_cons_succ, List.getElem_cons_zero]
      go_simp
      refine hK.out _ _ (.inl rfl) ?_
      clear hK K
      simp only [Act.put, List.setIfInBounds_toArray, List.set_cons_zero, List.set_cons_succ]
      refine wpE_done (by kernel_rfl) ?_ _
      have hlz : (bs ++ bs').length = bs.length + bs'.length := List.length_append
      have hown8 : OwnB w4.heap.size w7 (.slice A7 (bs ++ bs').length c7) (bs ++ bs') := by unfold OwnB; rw [hlz, bdCs_append]; exact hown7
      rw [← hlz]
      obtain ⟨g7, hr7⟩ := OwnB.readsA hown8
      have hlz2 : (bs ++ bs').length ≤ 18 := by omega
      have hc7 : (bs ++ bs').length ≤ c7 := by
        rcases hown8.2 with ⟨_, e⟩ | ⟨g, cap, cur, e, _, _, h, _⟩
        · omega
        · injection e with _ _ e; omega
      clear hown7 hown8 hlz hb7
      generalize bs ++ bs' = L at hr7 hlz2 hc7 ⊢
      go_wp2_with fail
      go_loopg [10] L.length (fun gh s wr => ∃ k : Nat, k ≤ L.length ∧ gh = L.length - k ∧ s = .int .i64 k ∧ PB w wr X b n A c bs ∧ PB w wr Y b' n A' c' bs' ∧ PB w wr Z g1 n A1 c1 xb ∧ BdsR wr wr.heap.size g7 0 A7 L)
      case atStart => exact ⟨0, Nat.zero_le _, rfl, rfl, hP, hQ, hD, hr7⟩
      case round =>
        clear hP hQ hD hr7
        obtain ⟨k, hk, rfl, rfl, hP, hQ, hD, hr7⟩ := hrel
        by_cases hlt : k < L.length
        · have hlt' : (k : Int) < (L.length : Int) := by omega
          obtain rfl := hr7.addr (by omega)
          have hwr : IntKind.i64.wrap ((k : Int) + 1) = (k : Int) + 1 := IntWalk.i64_in _ (by omega)
          have hkc : (k : Int) + 1 ≤ (c7 : Int) := by omega
          have hk0 : (0 : Int) ≤ (k : Int) + 1 := by omega
          have hck : ¬ c7 = k := by omega
          go_upto_region 14 with fail
          have hS0 : wr.drew.cell? ⟨X, 0, none⟩ = some (.int .i64 n) := hP.c0
          refine wp_regionE (fun w' => w'.cell? ⟨X, 0, none⟩ = some (.int .i64 n)) 9 (by kernel_rfl) ?_
          change wpE _ _ _ _ _ _ 10 #[false, false, false, false, false, false, false, false, false, false] _ _
          refine wpE_take' (v := ?_) 0 [9] (of_decide_eq_true (by kernel_rfl)) (by kernel_rfl) (by kernel_rfl) (by kernel_rfl) (by kernel_rfl) (fun _ _ _ h => h) (by kernel_rfl) ?_ hS0 ?_
          rotate_left
          · intro w' hSw
            simp only [List.getElem_toArray, List.getElem_cons_succ, List.getElem_cons_zero]
            go_simp
            all_goals with_reducible rfl
          simp only [List.getElem_toArray, List.getElem_cons_succ, List.getElem_cons_zero, Act.put, List.setIfInBounds_toArray, List.set_cons_zero, List.set_cons_succ]
          refine wpE_take' (v := ?_) 1 [9] (of_decide_eq_true (by kernel_rfl)) (by kernel_rfl) (by kernel_rfl) (by kernel_rfl) (by kernel_rfl) (fun _ _ _ h => h) (by kernel_rfl) ?_ hS0 ?_
          rotate_left
          · intro w' hSw
            simp only [List.getElem_toArray, List.getElem_cons_succ, List.getElem_cons_zero]
            go_simp
            all_goals with_reducible rfl
          simp only [List.getElem_toArray, List.getElem_cons_succ, List.getElem_cons_zero, Act.put, List.setIfInBounds_toArray, List.set_cons_zero, List.set_cons_succ]
          refine wpE_take' (v := ?_) 2 [9] (of_decide_eq_true (by kernel_rfl)) (by kernel_rfl) (by kernel_rfl) (by kernel_rfl) (by kernel_rfl) (fun _ _ _ h => h) (by kernel_rfl) ?_ hS0 ?_
          rotate_left
          · intro w' hSw
            simp only [List.getElem_toArray, List.getElem_cons_succ, List.getElem_cons_zero]
            go_simp
            all_goals with_reducible rfl
          simp only [List.getElem_toArray, List.getElem_cons_succ, List.getElem_cons_zero, Act.put, List.setIfInBounds_toArray, List.set_cons_zero, List.set_cons_succ]
          refine wpE_take' (v := ?_) 3 [9] (of_decide_eq_true (by kernel_rfl)) (by kernel_rfl) (by kernel_rfl) (by kernel_rfl) (by kernel_rfl) (fun _ _ _ h => h) (by kernel_rfl) ?_ hS0 ?_
          rotate_left
          · intro w' hSw
            simp only [List.getElem_toArray, List.getElem_cons_succ, List.getElem_cons_zero]
            go_simp
            all_goals with_reducible rfl
          simp only [List.getElem_toArray, List.getElem_cons_succ, List.getElem_cons_zero, Act.put, List.setIfInBounds_toArray, List.set_cons_zero, List.set_cons_succ]
          refine wpE_take' (v := ?_) 4 [9] (of_decide_eq_true (by kernel_rfl)) (by kernel_rfl) (by kernel_rfl) (by kernel_rfl) (by kernel_rfl) (fun _ _ _ h => h) (by kernel_rfl) ?_ hS0 ?_
          rotate_left
          · intro w' hSw
            simp only [List.getElem_toArray, List.getElem_cons_succ, List.getElem_cons_zero]
            go_simp
            all_goals with_reducible rfl
          simp only [List.getElem_toArray, List.getElem_cons_succ, List.getElem_cons_zero, Act.put, List.setIfInBounds_toArray, List.set_cons_zero, List.set_cons_succ]
          refine wpE_take' (v := ?_) 5 [9] (of_decide_eq_true (by kernel_rfl)) (by kernel_rfl) (by kernel_rfl) (by kernel_rfl) (by kernel_rfl) (fun _ _ _ h => h) (by kernel_rfl) ?_ hS0 ?_
          rotate_left
          · intro w' hSw
            simp only [List.getElem_toArray, List.getElem_cons_succ, List.getElem_cons_zero]
            go_simp
            all_goals with_reducible rfl
          simp only [List.getElem_toArray, List.getElem_cons_succ, List.getElem_cons_zero, Act.put, List.setIfInBounds_toArray, List.set_cons_zero, List.set_cons_succ]
          refine wpE_take' (v := ?_) 6 [9] (of_decide_eq_true (by kernel_rfl)) (by kernel_rfl) (by kernel_rfl) (by kernel_rfl) (by kernel_rfl) (fun _ _ _ h => h) (by kernel_rfl) ?_ hS0 ?_
          rotate_left
          · intro w' hSw
            simp only [List.getElem_toArray, List.getElem_cons_succ, List.getElem_cons_zero]
            go_simp
            all_goals with_reducible rfl
          simp only [List.getElem_toArray, List.getElem_cons_succ, List.getElem_cons_zero, Act.put, List.setIfInBounds_toArray, List.set_cons_zero, List.set_cons_succ]
          refine wpE_take' (v := ?_) 7 [9] (of_decide_eq_true (by kernel_rfl)) (by kernel_rfl) (by kernel_rfl) (by kernel_rfl) (by kernel_rfl) (fun _ _ _ h => h) (by kernel_rfl) ?_ hS0 ?_
          rotate_left
          · intro w' hSw
            simp only [List.getElem_toArray, List.getElem_cons_succ, List.getElem_cons_zero]
            go_simp
            all_goals with_reducible rfl
          simp only [List.getElem_toArray, List.getElem_cons_succ, List.getElem_cons_zero, Act.put, List.setIfInBounds_toArray, List.set_cons_zero, List.set_cons_succ]
          refine wpE_step' 8 (of_decide_eq_true (by kernel_rfl)) (by kernel_rfl) (by kernel_rfl) (fun K hK => ?_)
          simp only [List.getElem_toArray, List.getElem_cons_succ, List.getElem_cons_zero]
          go_simp
          have hba : Below wr.heap.size wr (wr.alloc (.cells #[.int .i64 0, .slice none 0 0] 25)).drew := by go_grown
          have s0 : (wr.alloc (.cells #[.int .i64 0, .slice none 0 0] 25)).drew.cell? ⟨wr.heap.size, 0, none⟩ = some (.int .i64 0) := by simp [go_sem]
          have s1 : (wr.alloc (.cells #[.int .i64 0, .slice none 0 0] 25)).drew.cell? ⟨wr.heap.size, 1, none⟩ = some (.slice none 0 0) := by simp [go_sem]
          have sf0 : (wr.alloc (.cells #[.int .i64 0, .slice none 0 0] 25)).drew.frozen? ⟨wr.heap.size, 0, none⟩ = false := by simp [go_sem]
          have sf1 : (wr.alloc (.cells #[.int .i64 0, .slice none 0 0] 25)).drew.frozen? ⟨wr.heap.size, 1, none⟩ = false := by simp [go_sem]
          have hzz : wr.heap.size < (wr.alloc (.cells #[.int .i64 0, .slice none 0 0] 25)).drew.heap.size := by simp
          refine hK.out _ _ (.inr (hP.below hba).c0) ?_
          clear hK K hS0
          simp only [Act.put, List.setIfInBounds_toArray, List.set_cons_zero, List.set_cons_succ]
          generalize (wr.alloc (.cells #[.int .i64 0, .slice none 0 0] 25)).drew = w8 at hba s0 s1 sf0 sf1 hzz ⊢
          refine wpE_step' 9 (of_decide_eq_true (by kernel_rfl)) (by kernel_rfl) (by kernel_rfl) (fun K hK => ?_)
          simp only [List.getElem_toArray, List.getElem_cons_succ, List.getElem_cons_zero]
          go_simp
          refine hK.out _ _ (.inl rfl) ?_
          clear hK K
          simp only [Act.put, List.setIfInBounds_toArray, List.set_cons_zero, List.set_cons_succ]
          refine wpE_done (by kernel_rfl) ?_ _
          obtain ⟨u0, u1⟩ := two_cells (a := .int .i64 n) (b := .slice (some ⟨g7, k * 3, none⟩) 1 (c7 - k)) s0 s1
          have hb9 : Below wr.heap.size wr ((w8.setCell ⟨wr.heap.size, 0, none⟩ (.int .i64 n)).setCell ⟨wr.heap.size, 1, none⟩ (.slice (some ⟨g7, k * 3, none⟩) 1 (c7 - k))) := (hba.setCell (Nat.le_refl _) _).setCell (Nat.le_refl _) _
          have hz9 : wr.heap.size < ((w8.setCell ⟨wr.heap.size, 0, none⟩ (.int .i64 n)).setCell ⟨wr.heap.size, 1, none⟩ (.slice (some ⟨g7, k * 3, none⟩) 1 (c7 - k))).heap.size := by simpa using hzz
          generalize (w8.setCell ⟨wr.heap.size, 0, none⟩ (.int .i64 n)).setCell ⟨wr.heap.size, 1, none⟩ (.slice (some ⟨g7, k * 3, none⟩) 1 (c7 - k)) = w9 at u0 u1 hb9 hz9 ⊢
          obtain ⟨y, hy⟩ : ∃ y, L[k]? = some y := ⟨_, List.getElem?_eq_getElem hlt⟩
          have hr9 := hr7.below' hb9
          have hA : PO w w9 wr.heap.size g7 (k * 3) n (some ⟨g7, k * 3, none⟩) (c7 - k) [y] := ⟨bthen hP.bel hb9, hP.bel.size, hz9, u0, u1, hr9.one hy⟩
          replace hP := hP.below hb9
          replace hQ := hQ.below hb9
          replace hD := hD.below hb9
          clear hr7 hy hb9 hz9 hba s0 s1 sf0 sf1 hzz u0 u1 hwr hkc hk0 hck
          generalize wr.heap.size = B at hA ⊢
          have I := I3.out y
          generalize hj1 : implies ⟨n, bs⟩ ⟨n, [y]⟩ = j1 at I
          generalize hj2 : implies ⟨n, bs'⟩ ⟨n, [y]⟩ = j2 at I
          generalize hj3 : implies ⟨n, xb⟩ ⟨n, [y]⟩ = j3 at I
          have J1 := hide hj1
          have J2 := hide hj2
          have J3 := hide hj3
          clear hj1 hj2 hj3
          have p0 := hP.c0
          have p1 := hP.c1
          have a0 := hA.c0
          have a1 := hA.c1
          cases j1
          · clear I J2 J3
            go_wp2_with (go_at_call 20; go_fit (impliesOk_c ⟨n, bs⟩ ⟨n, [y]⟩ A (some ⟨g7, k * 3, none⟩) b 0 c g7 (k * 3) (c7 - k) _ _ (by dsimp only; omega) (by simp) (Nat.le_refl _) hP.rd hA.rd); rintro e w10 ⟨rfl, hb10⟩; rw [J1.out]; have hP9 := hP.below hb10; have hQ9 := hQ.below hb10; have hD9 := hD.below hb10; have hA9 := hA.below hb10; have hr10 := hr9.below' hb10; have q0 := hQ9.c0; have q1 := hQ9.c1; have b0 := hA9.c0; have b1 := hA9.c1)
            go_roundg (L.length - (k + 1))
            case measure => go_light; omega
            case rel => go_light; exact ⟨k + 1, by omega, rfl, by go_num, hP9, hQ9, hD9, hr10⟩
          · cases j2
            · clear I J3
              go_wp2_with (first | (go_at_call 20; go_fit (impliesOk_c ⟨n, bs⟩ ⟨n, [y]⟩ A (some ⟨g7, k * 3, none⟩) b 0 c g7 (k * 3) (c7 - k) _ _ (by dsimp only; omega) (by simp) (Nat.le_refl _) hP.rd hA.rd); rintro e w10 ⟨rfl, hb10⟩; rw [J1.out]; have hP9 := hP.below hb10; have hQ9 := hQ.below hb10; have hD9 := hD.below hb10; have hA9 := hA.below hb10; have hr10 := hr9.below' hb10; have q0 := hQ9.c0; have q1 := hQ9.c1; have b0 := hA9.c0; have b1 := hA9.c1) | (go_at_call 20; go_fit (impliesOk_c ⟨n, bs'⟩ ⟨n, [y]⟩ A' (some ⟨g7, k * 3, none⟩) b' 0 c' g7 (k * 3) (c7 - k) _ _ (by dsimp only; omega) (by simp) (Nat.le_refl _) hQ9.rd hA9.rd); rintro e w11 ⟨rfl, hb11⟩; rw [J2.out]; have hPa := hP9.below hb11; have hQa := hQ9.below hb11; have hDa := hD9.below hb11; have hAa := hA9.below hb11; have hra := hr10.below' hb11; have d0 := hDa.c0; have d1 := hDa.c1; have e0 := hAa.c0; have e1 := hAa.c1))
              go_roundg (L.length - (k + 1))
              case measure => go_light; omega
              case rel => go_light; exact ⟨k + 1, by omega, rfl, by go_num, hPa, hQa, hDa, hra⟩
            · obtain rfl := I rfl rfl
              go_wp2_with (first | (go_at_call 20; go_fit (impliesOk_c ⟨n, bs⟩ ⟨n, [y]⟩ A (some ⟨g7, k * 3, none⟩) b 0 c g7 (k * 3) (c7 - k) _ _ (by dsimp only; omega) (by simp) (Nat.le_refl _) hP.rd hA.rd); rintro e w10 ⟨rfl, hb10⟩; rw [J1.out]; have hP9 := hP.below hb10; have hQ9 := hQ.below hb10; have hD9 := hD.below hb10; have hA9 := hA.below hb10; have hr10 := hr9.below' hb10; have q0 := hQ9.c0; have q1 := hQ9.c1; have b0 := hA9.c0; have b1 := hA9.c1) | (go_at_call 20; go_fit (impliesOk_c ⟨n, bs'⟩ ⟨n, [y]⟩ A' (some ⟨g7, k * 3, none⟩) b' 0 c' g7 (k * 3) (c7 - k) _ _ (by dsimp only; omega) (by simp) (Nat.le_refl _) hQ9.rd hA9.rd); rintro e w11 ⟨rfl, hb11⟩; rw [J2.out]; have hPa := hP9.below hb11; have hQa := hQ9.below hb11; have hDa := hD9.below hb11; have hAa := hA9.below hb11; have hra := hr10.below' hb11; have d0 := hDa.c0; have d1 := hDa.c1; have e0 := hAa.c0; have e1 := hAa.c1) | (go_at_call 20; go_fit (impliesOk_c ⟨n, xb⟩ ⟨n, [y]⟩ A1 (some ⟨g7, k * 3, none⟩) g1 0 c1 g7 (k * 3) (c7 - k) _ _ (by dsimp only; omega) (by simp) (Nat.le_refl _) hDa.rd hAa.rd); rintro e w12 ⟨rfl, hb12⟩; rw [J3.out]; have hPb := hPa.below hb12; have hQb := hQa.below hb12; have hDb := hDa.below hb12; have hrb := hra.below' hb12))
              go_roundg (L.length - (k + 1))
              case measure => go_light; omega
              case rel => go_light; exact ⟨k + 1, by omega, rfl, by go_num, hPb, hQb, hDb, hrb⟩
        · have p0 := hP.c0
          have p1 := hP.c1
          go_upto_region 18 with (go_at_call 16; go_fit (commonOf_q n n bs bs x2 r2 Hc2.out A A b 0 c b 0 c _ _ hl1 hl1 (Nat.le_refl _) hP.rd hP.rd); rintro e w9 ⟨A9, c9, g9, rfl, hr9, hb9⟩)
          have hF := pb_new (n := x2.n) (c := c9) (t := 25) (bthen hP.bel hb9) hr9
          have hb9' := bthen hb9 (show Below w9.heap.size w9 (w9.alloc (.cells #[.int .i64 x2.n, .slice A9 x2.bs.length c9] 25)) by go_grown)
          replace hP := hP.below hb9'
          replace hQ := hQ.below hb9'
          replace hD := hD.below hb9'
          clear p0 p1 hb9 hb9' hr9 hr7
          generalize w9.alloc (.cells #[.int .i64 x2.n, .slice A9 x2.bs.length c9] 25) = wf at hP hQ hD hF ⊢
          generalize w9.heap.size = F at hF ⊢
          have p0 := hP.c0
          have p1 := hP.c1
          have d0 := hD.c0
          have d1 := hD.c1
          cases r2
          · go_wp2_with (first | (go_at_call 20; go_fit (impliesOk_c ⟨n, bs⟩ ⟨n, xb⟩ A A1 b 0 c g1 0 c1 _ _ (by dsimp only; omega) (by dsimp only; omega) (Nat.le_refl _) hP.rd hD.rd); rintro e w10 ⟨rfl, hb10⟩; rw [I1.out]; have hPa := hP.below hb10; have hQa := hQ.below hb10; have hDa := hD.below hb10; have hFa := hF.below hb10; have q0 := hQa.c0; have q1 := hQa.c1; have e0 := hDa.c0; have e1 := hDa.c1) | (go_at_call 20; go_fit (impliesOk_c ⟨n, bs'⟩ ⟨n, xb⟩ A' A1 b' 0 c' g1 0 c1 _ _ (by dsimp only; omega) (by dsimp only; omega) (Nat.le_refl _) hQa.rd hDa.rd); rintro e w11 ⟨rfl, hb11⟩; rw [I2.out]; have hPb := hPa.below hb11; have hFb := hFa.below hb11; have t0 := hPb.c0; have t1 := hPb.c1; have v0 := hFb.c0; have v1 := hFb.c1))
            go_ret
            exact ⟨rfl, hPb.bel⟩
          · obtain ⟨hal, hl9⟩ := Hal.out rfl
            have Hal2 := hide hal
            clear hal
            have f0 := hF.c0
            have f1 := hF.c1
            go_wp2_with (first | (go_at_call 20; go_fit (impliesOk_c ⟨n, bs⟩ ⟨n, xb⟩ A A1 b 0 c g1 0 c1 _ _ (by dsimp only; omega) (by dsimp only; omega) (Nat.le_refl _) hP.rd hD.rd); rintro e w10 ⟨rfl, hb10⟩; rw [I1.out]; have hPa := hP.below hb10; have hQa := hQ.below hb10; have hDa := hD.below hb10; have hFa := hF.below hb10; have q0 := hQa.c0; have q1 := hQa.c1; have e0 := hDa.c0; have e1 := hDa.c1) | (go_at_call 20; go_fit (impliesOk_c ⟨n, bs'⟩ ⟨n, xb⟩ A' A1 b' 0 c' g1 0 c1 _ _ (by dsimp only; omega) (by dsimp only; omega) (Nat.le_refl _) hQa.rd hDa.rd); rintro e w11 ⟨rfl, hb11⟩; rw [I2.out]; have hPb := hPa.below hb11; have hFb := hFa.below hb11; have t0 := hPb.c0; have t1 := hPb.c1; have v0 := hFb.c0; have v1 := hFb.c1) | (go_at_call 21; go_fit (alikeOk_c x2 ⟨n, bs⟩ A9 A g9 0 c9 b 0 c _ _ (by omega) (by dsimp only; omega) (Nat.le_refl _) hFb.rd hPb.rd); rintro e w12 ⟨rfl, hb12⟩; rw [Hal2.out]; have hPc := hPb.below hb12))
            go_ret
            exact ⟨rfl, hPc.bel⟩
end Go.Proofs.Ytjlaljnffmncpaa
