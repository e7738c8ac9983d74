/-
  The law of ImpliesOk: its walk.
-/
import Derived.Test.YtjlaljnffmncpaaD20
import Derived.Test.YtjlaljnffmncpaaL36
import Derived.Test.YtjlaljnffmncpaaL6
import Derived.Test.YtjlaljnffmncpaaW0
import Derived.Test.YtjlaljnffmncpaaS1
import Derived.Test.YtjlaljnffmncpaaI1
import Derived.Test.YtjlaljnffmncpaaI2
import Derived.Deep.CutBlock
namespace Go.Proofs.Ytjlaljnffmncpaa
set_option linter.unusedVariables false
set_option linter.unusedSimpArgs false
open Go.RowKit Pp

theorem implies_self {p : Pl} (hp : planOk p = true) : implies p p = true := (implies_iff hp hp rfl).2 fun _ h => h
theorem byte0 {w : World} {B : Nat} {A : Option Addr} {n : Nat} {zs : List Int} (h : BytesAt w B A n zs) (hn : 0 < n) : ∃ (x : Addr) (z : Int), A = some x ∧ x.block < B ∧ 0 ≤ z ∧ z < 256 ∧ w.cell? (x.add 0) = some (.int .u8 z) := by
  obtain ⟨h1, h2, h3⟩ := h
  obtain ⟨x, e, hx, hc⟩ := h3 0 hn
  have hz : zs.getD 0 0 ∈ zs := by
    rw [List.getD_eq_getElem?_getD, List.getElem?_eq_getElem (by omega)]
    exact List.getElem_mem _
  exact ⟨x, _, e, hx, (h2 _ hz).1, (h2 _ hz).2, hc⟩
theorem IntsR.nx {W W' : World} {b o : Nat} {A : Option Addr} {xs : List Int} (h : IntsR W W.heap.size b o A xs) (hb : Below W.heap.size W W') : IntsR W' W'.heap.size b o A xs := (h.below hb).more hb.size
theorem ints_1 {w : World} {v : Int} {t : TypeId} : IntsR (w.alloc (.cells #[.int .i64 v] t)) (w.alloc (.cells #[.int .i64 v] t)).heap.size w.heap.size 0 (some ⟨w.heap.size, 0, none⟩) [v] :=
  ⟨fun _ => rfl, fun _ => by simp, fun j hj => by
    obtain rfl : j = 0 := by simp at hj; omega
    simp [go_sem]⟩

set_option maxHeartbeats 4000000 in
set_option maxRecDepth 100000 in
theorem lawImplies_c (a0 : Option Addr) (len0 cap0 : Nat) (z0 : List Int) (a1 : Option Addr) (len1 cap1 : Nat) (z1 : List Int) (w : World) (w0 : RowU w a0 len0 cap0 z0) (w1 : RowU w a1 len1 cap1 z1) :
    Calls Try.prog 10 #[.slice a0 len0 cap0, .slice a1 len1 cap1] w fun e w' => e = .returned (.bool true) ∧ Below w.heap.size w w' := by
  obtain ⟨hlc, hAs, hby⟩ := w0.bytes
  obtain ⟨_, _, hby1⟩ := w1.bytes
  clear w0 w1
  by_cases hlen : (1048576 : Int) < (len0 : Int)
  · go_enter Try.func10, Try.ntmps10
    go_wp2_with fail
    go_ret
    exact ⟨rfl, Below.refl _ _⟩
  · by_cases hlen1 : (1048576 : Int) < (len1 : Int)
    · go_enter Try.func10, Try.ntmps10
      go_wp2_with fail
      go_ret
      exact ⟨rfl, Below.refl _ _⟩
    · go_enter Try.func10, Try.ntmps10
      go_upto_region 4 with (go_at_call 56; go_fit (drawImplies_c a0 len0 cap0 z0 _ (by omega) hlc hAs hby); rintro e w1 ⟨n, A, c, bs, n', A', c', bs', b, b', rfl, hn, hlb, hn', hlb', hrd, hrd', hW⟩)
      have hb1 : Below w1.heap.size w1 (w1.alloc (.cells #[.int .i64 n, .slice A bs.length c] 25)) := by go_grown
      have hP := (pb_new (n := n) (c := c) (t := 25) hW hrd).alloc (.cells #[.int .i64 n', .slice A' bs'.length c'] 25)
      have hQ := pb_new (n := n') (c := c') (t := 25) (bthen hW hb1) ((hrd'.below hb1).more hb1.size)
      simp only [World.size_alloc] at hQ
      generalize (w1.alloc (.cells #[.int .i64 n, .slice A bs.length c] 25)).alloc (.cells #[.int .i64 n', .slice A' bs'.length c'] 25) = W at hP hQ ⊢
      generalize w1.heap.size + 1 = Y at hQ ⊢
      generalize w1.heap.size = X at hP ⊢
      clear hW hrd hrd' hb1 hlen hby hAs hn hn'
      have hl1 : bs.length ≤ 100000 := by omega
      have hl2 : bs'.length ≤ 100000 := by omega
      have hm1 : bs.length ≤ 2000000 := by omega
      have hm2 : bs'.length ≤ 2000000 := by omega
      have p0 := hP.c0
      have p1 := hP.c1
      have q0 := hQ.c0
      have q1 := hQ.c1
      obtain ⟨j, hj⟩ : ∃ j, implies ⟨n, bs⟩ ⟨n', bs'⟩ = j := ⟨_, rfl⟩
      have Hj := hide hj
      go_upto_region 7 with (first
        | (go_at_call 20; go_fit (impliesOk_c ⟨n, bs⟩ ⟨n', bs'⟩ A A' b 0 c b' 0 c' _ _ hl1 hl2 (Nat.le_refl _) hP.rd hQ.rd); rintro e w2 ⟨rfl, hb2⟩; rw [Hj.out]; replace hP := hP.below hb2; replace hQ := hQ.below hb2; clear p0 p1 q0 q1; have p0 := hP.c0; have p1 := hP.c1; have q0 := hQ.c0; have q1 := hQ.c1)
        | (go_at_call 57; go_fit (sImpliesOk_c ⟨n, bs⟩ ⟨n', bs'⟩ A A' b 0 c b' 0 c' _ _ hl1 hl2 (Nat.le_refl _) hP.rd hQ.rd); rintro e w3 ⟨rfl, hb3⟩; rw [Hj.out]; replace hP := hP.below hb3; replace hQ := hQ.below hb3; clear p0 p1 q0 q1; have p0 := hP.c0; have p1 := hP.c1; have q0 := hQ.c0; have q1 := hQ.c1))
      cases hp : planOk ⟨n, bs⟩
      · obtain rfl : j = false := by cases j with
          | false => rfl
          | true => rw [(implies_ok hj).1] at hp; cases hp
        have Hp := hide hp
        clear hj hp
        go_wp2_with (first
          | (go_at_call 43; go_fit (sPlanOk_c ⟨n, bs⟩ A b 0 c _ _ hm1 (Nat.le_refl _) hP.rd); rintro e w4 ⟨rfl, hb4⟩; rw [Hp.out]; have hP4 := hP.below hb4)
          | (go_at_call 19; go_fit (alive_c w4); rintro e w6 ⟨rfl, hb6⟩; have hP6 := hP4.below hb6))
        go_ret
        exact ⟨rfl, hP6.bel⟩
      · have Hp := hide hp
        cases hq : planOk ⟨n', bs'⟩
        · obtain rfl : j = false := by cases j with
            | false => rfl
            | true => rw [(implies_ok hj).2.1] at hq; cases hq
          have Hq := hide hq
          clear hj hp hq
          go_wp2_with (first
            | (go_at_call 43; go_fit (sPlanOk_c ⟨n, bs⟩ A b 0 c _ _ hm1 (Nat.le_refl _) hP.rd); rintro e w4 ⟨rfl, hb4⟩; rw [Hp.out]; have hP4 := hP.below hb4; have hQ4 := hQ.below hb4; have s0 := hQ4.c0; have s1 := hQ4.c1)
            | (go_at_call 43; go_fit (sPlanOk_c ⟨_, bs'⟩ A' b' 0 c' _ _ hm2 (Nat.le_refl _) hQ4.rd); rintro e w5 ⟨rfl, hb5⟩; rw [Hq.out]; have hP5 := hP4.below hb5; have hQ5 := hQ4.below hb5; have t0 := hP5.c0; have t1 := hP5.c1; have t2 := hQ5.c0; have t3 := hQ5.c1)
            | (go_at_call 19; go_fit (alive_c w5); rintro e w6 ⟨rfl, hb6⟩; have hP6 := hP5.below hb6))
          go_ret
          exact ⟨rfl, hP6.bel⟩
        · have Hq := hide hq
          by_cases hnn : n = n'
          · subst hnn
            clear hp hq hj
            go_upto_region 10 with (first | (go_at_call 43; go_fit (sPlanOk_c ⟨n, bs⟩ A b 0 c _ _ hm1 (Nat.le_refl _) hP.rd); rintro e w4 ⟨rfl, hb4⟩; rw [Hp.out]; have hP4 := hP.below hb4; have hQ4 := hQ.below hb4; have s0 := hQ4.c0; have s1 := hQ4.c1) | (go_at_call 43; go_fit (sPlanOk_c ⟨_, bs'⟩ A' b' 0 c' _ _ hm2 (Nat.le_refl _) hQ4.rd); rintro e w5 ⟨rfl, hb5⟩; rw [Hq.out]; have hP5 := hP4.below hb5; have hQ5 := hQ4.below hb5; have t0 := hP5.c0; have t1 := hP5.c1; have t2 := hQ5.c0; have t3 := hQ5.c1))
            clear hP hQ hP4 hQ4 p0 p1 q0 q1
            go_upto_if 56 with fail
            have hbw : BytesAt w5 w5.heap.size a1 len1 z1 := hby1.below hP5.bel hP5.bel.size
            go_cut [8] (fun s8 wx => ∃ v : Int, s8 = .int .i64 v ∧ (0 ≤ v ∧ v ≤ 99) ∧ w5 = wx)
            case first =>
              by_cases hz : (0 : Int) < (len1 : Int)
              · obtain ⟨x, z, rfl, hxb, hz0, hz1, hc0⟩ := byte0 hbw (by omega)
                have hc1 : w5.cell? x = some (.int .u8 z) := by simpa [Addr.add] using hc0
                have hzw : IntKind.i64.wrap z = z := IntWalk.i64_in _ (by omega)
                go_wp2_with fail
                go_meet
                case rel => exact ⟨_, rfl, ⟨by omega, by omega⟩, rfl⟩
              · go_wp2_with fail
                go_meet
                case rel => exact ⟨0, rfl, by omega, rfl⟩
            case rest =>
              obtain ⟨v, rfl, hv, rfl⟩ := hcut
              obtain ⟨ys, r2, he⟩ : ∃ ys r2, endedOne ⟨n, bs⟩ v = (ys, r2) := ⟨_, _, rfl⟩
              have hk : r2 = true → j = true → keepsOk ⟨n, bs'⟩ ys = true := fun e1 e2 => by subst e1; exact implies_keeps hv he (by rw [Hj.out]; exact e2)
              have hly : ys.length ≤ 2000000 := by
                cases r2
                · unfold endedOne at he
                  split at he
                  · cases (Prod.mk.inj he).2
                  · rw [← (Prod.mk.inj he).1]; exact Nat.zero_le _
                · have h1 := (endedOne_law hv he).2.1
                  have h2 := nn_ok Hp.out
                  omega
              obtain ⟨x, r3, hx, hr⟩ : ∃ x r3, toldP (bothP ⟨n, bs⟩ ⟨n, bs'⟩) = x ∧ planOk (bothP ⟨n, bs⟩ ⟨n, bs'⟩) = r3 := ⟨_, _, rfl, rfl⟩
              have hal : r3 = true → alike x ⟨n, bs⟩ = j ∧ x.bs.length ≤ 100000 := fun e => by
                subst e
                rw [toldP_yes hr] at hx
                subst hx
                exact ⟨by rw [both_alike Hp.out Hq.out rfl hr]; exact Hj.out, by have := (planOk_iff.1 hr).2.1; omega⟩
              have hb16 : bs.length ≤ 16 := by omega
              have hb16' : bs'.length ≤ 16 := by omega
              have hsf := implies_self Hp.out
              have He := hide he
              have Hk := hide hk
              have Hx := hide hx
              have Hr := hide hr
              have Hal := hide hal
              have Hsf := hide hsf
              clear he hk hx hr hal hsf hbw hby1
              go_upto_region 13 with (go_at_call 58; go_fit (endedOne_q ⟨n, bs⟩ v hv ys r2 He.out (some ⟨w5.heap.size, 0, none⟩) w5.heap.size 0 1 A b 0 c _ _ hm1 (Nat.le_refl _) (hP5.alloc _).rd ints_1); rintro e w6 ⟨A6, c6, rfl, hown6, hb6⟩; have hP6 := (hP5.alloc _).below hb6; have hQ6 := (hQ5.alloc _).below hb6)
              obtain ⟨g6, hr6⟩ := own_IntsR hown6
              clear hP5 hQ5 t0 t1 t2 t3 s0 s1 hown6 hb6
              have p0 := hP6.c0
              have p1 := hP6.c1
              have q0 := hQ6.c0
              have q1 := hQ6.c1
              go_upto_region 14 with (go_at_call 59; go_fit (bothYes_q n bs bs' x r3 Hp.out Hq.out Hx.out Hr.out A A' b 0 c b' 0 c' _ _ hb16 hb16' (Nat.le_refl _) hP6.rd hQ6.rd); rintro e w7 ⟨A7, c7, g7, rfl, hr7, hb7⟩)
              have hb7' := bthen hb7 (show Below w7.heap.size w7 (w7.alloc (.cells #[.int .i64 x.n, .slice A7 x.bs.length c7] 25)) by go_grown)
              have hF := pb_new (n := x.n) (c := c7) (t := 25) (bthen hP6.bel hb7) hr7
              replace hP6 := hP6.below hb7'
              replace hQ6 := hQ6.below hb7'
              replace hr6 := hr6.nx hb7'
              generalize w7.alloc (.cells #[.int .i64 x.n, .slice A7 x.bs.length c7] 25) = w8 at hP6 hQ6 hr6 hF ⊢
              generalize w7.heap.size = F at hF ⊢
              clear p0 p1 q0 q1 hb7 hb7' hr7
              have p0 := hP6.c0
              have p1 := hP6.c1
              have q0 := hQ6.c0
              have q1 := hQ6.c1
              cases j
              · skip
                cases r3
                · go_wp2_with (first | fail | (go_at_call 20; go_fit (impliesOk_c ⟨n, bs⟩ ⟨n, bs⟩ A A b 0 c b 0 c _ _ hl1 hl1 (Nat.le_refl _) (hP6).rd (hP6).rd); rintro e w10 ⟨rfl, hb10⟩; rw [Hsf.out]; have hPs := (hP6).below hb10; have hFs := (hF).below hb10; have v0 := hPs.c0; have v1 := hPs.c1; have x0 := hFs.c0; have x1 := hFs.c1))
                  go_ret
                  exact ⟨rfl, hPs.bel⟩
                · obtain ⟨hal2, hl7⟩ := Hal.out rfl
                  have Hal2 := hide hal2
                  clear hal2
                  go_wp2_with (first | fail | (go_at_call 20; go_fit (impliesOk_c ⟨n, bs⟩ ⟨n, bs⟩ A A b 0 c b 0 c _ _ hl1 hl1 (Nat.le_refl _) (hP6).rd (hP6).rd); rintro e w10 ⟨rfl, hb10⟩; rw [Hsf.out]; have hPs := (hP6).below hb10; have hFs := (hF).below hb10; have v0 := hPs.c0; have v1 := hPs.c1; have x0 := hFs.c0; have x1 := hFs.c1) | (go_at_call 21; go_fit (alikeOk_c x ⟨n, bs⟩ A7 A g7 0 c7 b 0 c _ _ hl7 hl1 (Nat.le_refl _) hFs.rd hPs.rd); rintro e w11 ⟨rfl, hb11⟩; rw [Hal2.out]; have hPt := hPs.below hb11))
                  go_ret
                  exact ⟨rfl, hPt.bel⟩
              · cases r2
                · skip
                  cases r3
                  · go_wp2_with (first | fail | (go_at_call 20; go_fit (impliesOk_c ⟨n, bs⟩ ⟨n, bs⟩ A A b 0 c b 0 c _ _ hl1 hl1 (Nat.le_refl _) (hP6).rd (hP6).rd); rintro e w10 ⟨rfl, hb10⟩; rw [Hsf.out]; have hPs := (hP6).below hb10; have hFs := (hF).below hb10; have v0 := hPs.c0; have v1 := hPs.c1; have x0 := hFs.c0; have x1 := hFs.c1))
                    go_ret
                    exact ⟨rfl, hPs.bel⟩
                  · obtain ⟨hal2, hl7⟩ := Hal.out rfl
                    have Hal2 := hide hal2
                    clear hal2
                    go_wp2_with (first | fail | (go_at_call 20; go_fit (impliesOk_c ⟨n, bs⟩ ⟨n, bs⟩ A A b 0 c b 0 c _ _ hl1 hl1 (Nat.le_refl _) (hP6).rd (hP6).rd); rintro e w10 ⟨rfl, hb10⟩; rw [Hsf.out]; have hPs := (hP6).below hb10; have hFs := (hF).below hb10; have v0 := hPs.c0; have v1 := hPs.c1; have x0 := hFs.c0; have x1 := hFs.c1) | (go_at_call 21; go_fit (alikeOk_c x ⟨n, bs⟩ A7 A g7 0 c7 b 0 c _ _ hl7 hl1 (Nat.le_refl _) hFs.rd hPs.rd); rintro e w11 ⟨rfl, hb11⟩; rw [Hal2.out]; have hPt := hPs.below hb11))
                    go_ret
                    exact ⟨rfl, hPt.bel⟩
                · have hk := Hk.out rfl rfl
                  have Hk2 := hide hk
                  clear hk
                  cases r3
                  · go_wp2_with (first | (go_at_call 34; go_fit (keepsOk_c ⟨n, bs'⟩ ys A' A6 b' 0 c' g6 0 c6 _ _ hm2 hly (Nat.le_refl _) hQ6.rd hr6); rintro e w9 ⟨rfl, hb9⟩; rw [Hk2.out]; have hP9 := hP6.below hb9; have hF9 := hF.below hb9; have u0 := hP9.c0; have u1 := hP9.c1) | (go_at_call 20; go_fit (impliesOk_c ⟨n, bs⟩ ⟨n, bs⟩ A A b 0 c b 0 c _ _ hl1 hl1 (Nat.le_refl _) (hP9).rd (hP9).rd); rintro e w10 ⟨rfl, hb10⟩; rw [Hsf.out]; have hPs := (hP9).below hb10; have hFs := (hF9).below hb10; have v0 := hPs.c0; have v1 := hPs.c1; have x0 := hFs.c0; have x1 := hFs.c1))
                    go_ret
                    exact ⟨rfl, hPs.bel⟩
                  · obtain ⟨hal2, hl7⟩ := Hal.out rfl
                    have Hal2 := hide hal2
                    clear hal2
                    go_wp2_with (first | (go_at_call 34; go_fit (keepsOk_c ⟨n, bs'⟩ ys A' A6 b' 0 c' g6 0 c6 _ _ hm2 hly (Nat.le_refl _) hQ6.rd hr6); rintro e w9 ⟨rfl, hb9⟩; rw [Hk2.out]; have hP9 := hP6.below hb9; have hF9 := hF.below hb9; have u0 := hP9.c0; have u1 := hP9.c1) | (go_at_call 20; go_fit (impliesOk_c ⟨n, bs⟩ ⟨n, bs⟩ A A b 0 c b 0 c _ _ hl1 hl1 (Nat.le_refl _) (hP9).rd (hP9).rd); rintro e w10 ⟨rfl, hb10⟩; rw [Hsf.out]; have hPs := (hP9).below hb10; have hFs := (hF9).below hb10; have v0 := hPs.c0; have v1 := hPs.c1; have x0 := hFs.c0; have x1 := hFs.c1) | (go_at_call 21; go_fit (alikeOk_c x ⟨n, bs⟩ A7 A g7 0 c7 b 0 c _ _ hl7 hl1 (Nat.le_refl _) hFs.rd hPs.rd); rintro e w11 ⟨rfl, hb11⟩; rw [Hal2.out]; have hPt := hPs.below hb11))
                    go_ret
                    exact ⟨rfl, hPt.bel⟩
          · obtain rfl : j = false := by cases j with
              | false => rfl
              | true => exact absurd (implies_ok hj).2.2 hnn
            clear hj hp hq
            go_wp2_with (first
              | (go_at_call 43; go_fit (sPlanOk_c ⟨n, bs⟩ A b 0 c _ _ hm1 (Nat.le_refl _) hP.rd); rintro e w4 ⟨rfl, hb4⟩; rw [Hp.out]; have hP4 := hP.below hb4; have hQ4 := hQ.below hb4; have s0 := hQ4.c0; have s1 := hQ4.c1)
              | (go_at_call 43; go_fit (sPlanOk_c ⟨_, bs'⟩ A' b' 0 c' _ _ hm2 (Nat.le_refl _) hQ4.rd); rintro e w5 ⟨rfl, hb5⟩; rw [Hq.out]; have hP5 := hP4.below hb5; have hQ5 := hQ4.below hb5; have t0 := hP5.c0; have t1 := hP5.c1; have t2 := hQ5.c0; have t3 := hQ5.c1)
              | (go_at_call 19; go_fit (alive_c w5); rintro e w6 ⟨rfl, hb6⟩; have hP6 := hP5.below hb6))
            go_ret
            exact ⟨rfl, hP6.bel⟩
end Go.Proofs.Ytjlaljnffmncpaa
