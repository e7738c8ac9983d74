/-
  The law of TrimmedOf: its walk.
-/
import Derived.Test.YtjlaljnffmncpaaW2
import Derived.Test.YtjlaljnffmncpaaD14
namespace Go.Proofs.Ytjlaljnffmncpaa
set_option linter.unusedVariables false
set_option linter.unusedSimpArgs false
open Go.RowKit Pp

set_option maxHeartbeats 8000000 in
set_option maxRecDepth 100000 in
theorem lawTrimmed_c (a0 : Option Addr) (len0 cap0 : Nat) (z0 : List Int) (w : World) (w0 : RowU w a0 len0 cap0 z0) :
    Calls Try.prog 7 #[.slice a0 len0 cap0] w fun e w' => e = .returned (.bool true) ∧ Below w.heap.size w w' := by
  obtain ⟨hlc, hAs, hby⟩ := w0.bytes
  clear w0
  by_cases hlen : (1048576 : Int) < (len0 : Int)
  · go_enter Try.func7, Try.ntmps7
    go_wp2_with fail
    go_ret
    exact ⟨rfl, Below.refl _ _⟩
  · go_enter Try.func7, Try.ntmps7
    go_upto_region 4 with (go_at_call 40; go_fit (drawTrimmed_c a0 len0 cap0 z0 _ (by omega) hlc hAs hby); rintro e w1 ⟨n, A, c, bs, b, rfl, ⟨hn0, hn7⟩, hbl, hsm, hrd, hW⟩)
    have hP := pb_new (n := n) (c := c) (t := 25) hW hrd
    generalize w1.alloc (.cells #[.int .i64 n, .slice A bs.length c] 25) = wa at hP ⊢
    generalize w1.heap.size = X at hP ⊢
    clear hW hrd hlen hby hAs hsm
    have p0 := hP.c0
    have p1 := hP.c1
    have hbl6 : bs.length ≤ 2000000 := by omega
    obtain ⟨q, hq⟩ : ∃ q, trim ⟨n, bs⟩ = q := ⟨_, rfl⟩
    have Hq := hide hq
    clear hq
    go_upto_region 5 with (go_at_call 41; go_fit (trimmed_c ⟨n, bs⟩ q Hq.out A b 0 c _ _ hbl6 (Nat.le_refl _) hP.rd); rintro e w2 ⟨A1, c1, g1, rfl, hx1, hown1, hb2⟩; have hP2 := hP.below hb2)
    have hP3 := hP2.alloc (.cells #[.int .i64 q.n, .slice A1 q.bs.length c1] 25)
    have hQ3 := pb_new (n := q.n) (c := c1) (t := 25) hP2.bel hx1
    generalize w2.alloc (.cells #[.int .i64 q.n, .slice A1 q.bs.length c1] 25) = w3 at hP3 hQ3 ⊢
    generalize w2.heap.size = Y at hQ3 ⊢
    clear hP hP2 hx1 hown1 hb2 p0 p1
    have p0 := hP3.c0
    have p1 := hP3.c1
    have q0 := hQ3.c0
    have q1 := hQ3.c1
    have hqs : q.bs.length ≤ 16 := by
      rw [← Hq.out]
      cases hp : planOk ⟨n, bs⟩
      · rw [trim_no hp]; exact Nat.zero_le _
      · exact (trim_ok hp).2.2.2.2.2
    have hql : q.bs.length ≤ 2000000 := by omega
    have px := hP3.ex
    have qx := hQ3.ex
    go_cut [17] (fun s wx => s = .bool false ∧ PB w wx X b n A c bs ∧ PB w wx Y g1 q.n A1 c1 q.bs)
    case first =>
      go_region_held3 (fun w' => w'.cell? ⟨X, 0, none⟩ = some (.int .i64 n) ∧ w'.cell? ⟨X, 1, none⟩ = some (.slice A bs.length c) ∧ w'.cell? ⟨Y, 0, none⟩ = some (.int .i64 q.n) ∧ w'.cell? ⟨Y, 1, none⟩ = some (.slice A1 q.bs.length c1))
        (first
          | (go_split_ands; (repeat' apply And.intro) <;> assumption)
          | (go_keep; done))
        (first
          | (go_at_call 42; go_fit (sTrimmed_c ⟨n, bs⟩ q Hq.out A b 0 c _ _ hbl6 (Nat.le_refl _) hP3.drew.rd); rintro e w4 ⟨A2, c2, g2, rfl, hx2, hown2, hb4⟩; have hP4 := hP3.drew.below hb4; have hQ4 := hQ3.drew.below hb4; have r0 := hP4.c0; have r1 := hP4.c1; have s0 := hQ4.c0; have s1 := hQ4.c1)
          | (go_at_call 18; go_fit (samePlan_yes q.n q.bs A1 A2 g1 0 c1 g2 0 c2 _ _ hql (Nat.le_refl _) hQ4.rd hx2); rintro e w5 ⟨rfl, hb5⟩; have hP5 := hP4.below hb5; have hQ5 := hQ4.below hb5; have t0 := hP5.c0; have t1 := hP5.c1; have u0 := hQ5.c0; have u1 := hQ5.c1))
      all_goals (
        go_wp2_with fail
        go_meet
        case rel => exact ⟨rfl, hP5, hQ5⟩)
    case rest =>
      clear hP3 hQ3 p0 p1 q0 q1 px qx
      obtain ⟨rfl, hP, hQ⟩ := hcut
      have p0 := hP.c0
      have p1 := hP.c1
      have q0 := hQ.c0
      have q1 := hQ.c1
      cases hp : planOk ⟨n, bs⟩
      · have hq2 : q = ⟨0, []⟩ := by rw [← Hq.out]; exact trim_no hp
        subst hq2
        have Hp := hide hp
        clear hp
        dsimp only at *
        go_wp2_with (first
          | (go_at_call 43; go_fit (sPlanOk_c ⟨n, bs⟩ A b 0 c _ _ hbl6 (Nat.le_refl _) hP.rd); rintro e w6 ⟨rfl, hb6⟩; rw [Hp.out]; have hP6 := hP.below hb6; have hQ6 := hQ.below hb6; have s0 := hQ6.c0; have s1 := hQ6.c1)
          | (go_at_call 18; go_fit (samePlan_yes 0 [] A1 none 0 0 c1 0 0 0 _ _ (by simp) (Nat.le_refl _) (BdsR.nil _ _ _) (BdsR.nil _ _ _)); rintro e w7 ⟨rfl, hb7⟩; have hP7 := hP6.below hb7)
          | (go_at_call 19; go_fit (alive_c w7); rintro e w8 ⟨rfl, hb8⟩; have hP8 := hP7.below hb8))
        go_ret
        exact ⟨rfl, hP8.bel⟩
      · obtain ⟨k1, k2, k3, k4, k5, k6⟩ := trim_ok hp
        rw [Hq.out] at k1 k2 k3 k4 k5 k6
        have Hp := hide hp
        have Hno : Hid (∀ j : Nat, needlessI q (j : Int) = false) := fun j => by unfold needlessI; rw [show ((j : Int).toNat) = j from rfl, k3 j]; simp
        have Hal := hide k4
        have Htt := hide k5
        clear hp k1 k2 k3 k4 k5
        go_upto_region 10 with (go_at_call 43; go_fit (sPlanOk_c ⟨n, bs⟩ A b 0 c _ _ hbl6 (Nat.le_refl _) hP.rd); rintro e w6 ⟨rfl, hb6⟩; rw [Hp.out]; have hP6 := hP.below hb6; have hQ6 := hQ.below hb6)
        clear hP hQ hb6 p0 p1 q0 q1
        go_wp2_with fail
        go_loopg [5] q.bs.length (fun gh s wr => ∃ k : Nat, k ≤ q.bs.length ∧ gh = q.bs.length - k ∧ s = .int .i64 k ∧ PB w wr X b n A c bs ∧ PB w wr Y g1 q.n A1 c1 q.bs)
        case atStart => exact ⟨0, Nat.zero_le _, rfl, rfl, hP6, hQ6⟩
        case round =>
          clear hP6 hQ6
          obtain ⟨k, hk, rfl, rfl, hP, hQ⟩ := hrel
          have q0 := hQ.c0
          have q1 := hQ.c1
          by_cases hlt : k < q.bs.length
          · have hlt' : (k : Int) < (q.bs.length : Int) := by omega
            have Hk := hide (Hno.out k)
            go_wp2_with (go_at_call 44; go_fit (needlessOk_c q (k : Int) A1 g1 0 c1 _ _ hql (Nat.le_refl _) hQ.rd); rintro e w7 ⟨rfl, hb7⟩; rw [Hk.out]; have hP7 := hP.below hb7; have hQ7 := hQ.below hb7)
            go_roundg (q.bs.length - (k + 1))
            case measure => go_light; omega
            case rel => go_light; exact ⟨k + 1, by omega, rfl, by go_num, hP7, hQ7⟩
          · obtain rfl : k = q.bs.length := by omega
            have p0 := hP.c0
            have p1 := hP.c1
            go_upto_region 14 with fail
            have hPd := hP.drew
            have hQd := hQ.drew
            go_region_held3 (fun w' => w'.cell? ⟨X, 0, none⟩ = some (.int .i64 n) ∧ w'.cell? ⟨X, 1, none⟩ = some (.slice A bs.length c) ∧ w'.cell? ⟨Y, 0, none⟩ = some (.int .i64 q.n) ∧ w'.cell? ⟨Y, 1, none⟩ = some (.slice A1 q.bs.length c1))
              (first
                | (go_split_ands; (repeat' apply And.intro) <;> assumption)
                | (go_keep; done))
              (first
                | (go_at_call 21; go_fit (alikeOk_c q ⟨n, bs⟩ A1 A g1 0 c1 b 0 c _ _ (by omega) (by dsimp only; omega) (Nat.le_refl _) hQd.rd hPd.rd); rintro e w7 ⟨rfl, hb7⟩; rw [Hal.out]; have hP7 := hPd.below hb7; have hQ7 := hQd.below hb7; have r0 := hP7.c0; have r1 := hP7.c1; have s0 := hQ7.c0; have s1 := hQ7.c1)
                | (go_at_call 41; go_fit (trimmed_c q q Htt.out A1 g1 0 c1 _ _ hql (Nat.le_refl _) hQ7.rd); rintro e w8 ⟨A3, c3, g3, rfl, hx3, hown3, hb8⟩; have hP8 := hP7.below hb8; have hQ8 := hQ7.below hb8; have t0 := hP8.c0; have t1 := hP8.c1; have u0 := hQ8.c0; have u1 := hQ8.c1)
                | (go_at_call 18; go_fit (samePlan_yes q.n q.bs A3 A1 g3 0 c3 g1 0 c1 _ _ hql (Nat.le_refl _) hx3 hQ8.rd); rintro e w9 ⟨rfl, hb9⟩; have hP9 := hP8.below hb9; have hQ9 := hQ8.below hb9; have v0 := hP9.c0; have v1 := hP9.c1; have x0 := hQ9.c0; have x1 := hQ9.c1))
            go_wp2_with fail
            go_ret
            exact ⟨rfl, hP9.bel⟩
end Go.Proofs.Ytjlaljnffmncpaa
