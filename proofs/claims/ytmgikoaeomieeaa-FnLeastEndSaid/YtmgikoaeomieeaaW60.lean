/-
  The law of LeastEnd: its walk.
-/
import Derived.Test.YtmgikoaeomieeaaD62
import Derived.Test.YtmgikoaeomieeaaL72
import Derived.Test.YtmgikoaeomieeaaS77
import Derived.Test.YtmgikoaeomieeaaW0
namespace Go.Proofs.Ytmgikoaeomieeaa
set_option linter.unusedVariables false
set_option linter.unusedSimpArgs false
open Go.RowKit Pp

theorem least_facts {L F : List Int} {h : Int} (hp : projOk L F = true) (h5 : L.length ≤ 5) (hh : 1 ≤ h ∧ h ≤ 3) :
    0 ≤ lenOf L F ∧ lenOf L F ≤ leastE L F h ∧ leastE L F h ≤ 100 ∧ work L L.length ≤ h * leastE L F h ∧ (leastV L F (h + 1) < 0 ∨ leastV L F (h + 1) ≤ leastE L F h) ∧ leastV L F 1 = work L L.length ∧ (h < (L.length : Int) ∨ leastE L F h = lenOf L F) ∧ leastV L F h = leastE L F h := by
  have hb := work_bound hp (n := L.length) (Nat.le_refl _)
  have hv : ∀ h', 1 ≤ h' ∧ h' ≤ 3 → leastV L F h' = leastE L F h' := fun h' hh' => by unfold leastV; rw [hp, decide_eq_true h5, inB_iff.2 hh']; rfl
  refine ⟨len_low L F, least_len hp hh, ?_, least_work hp hh, ?_, ?_, ?_, hv h hh⟩
  · have h1 := least_le (F := F) (h := h) (range_order L.length)
    have h2 : endBy L F h ((List.range L.length).map (fun (i : Nat) => (i : Int))) ≤ work L L.length := by_sum hp (by omega) (range_order L.length)
    omega
  · by_cases h3 : h + 1 ≤ 3
    · rw [hv (h + 1) (by omega)]; exact .inr (least_more hp ⟨hh.1, h3⟩)
    · left
      have : inB (h + 1) 1 3 = false := by rw [Bool.eq_false_iff]; intro he; have := inB_iff.1 he; omega
      unfold leastV; rw [this]; simp
  · rw [hv 1 (by omega), least_one hp]
  · by_cases hn : h < (L.length : Int)
    · exact .inl hn
    · exact .inr (least_many hp hh.1 (by omega))
theorem least_none {L F : List Int} {h : Int} (hf : (projOk L F && decide (L.length ≤ 5) && inB h 1 3) = false) : leastV L F h = -1 := by
  unfold leastV; rw [hf]; rfl

set_option maxHeartbeats 4000000 in
set_option maxRecDepth 100000 in
theorem lawLeast_c (a0 : Option Addr) (len0 cap0 : Nat) (z0 : List Int) (w : World) (w0 : RowU w a0 len0 cap0 z0) :
    Calls Try.prog 5 #[.slice a0 len0 cap0] w fun e w' => e = .returned (.bool true) ∧ Below w.heap.size w w' := by
  obtain ⟨hlc, hAs, hby⟩ := w0.bytes
  clear w0
  by_cases hlen : (1048576 : Int) < (len0 : Int)
  · go_enter Try.func5, Try.ntmps5
    go_wp2_with fail
    go_ret
    exact ⟨rfl, Below.refl _ _⟩
  · go_enter Try.func5, Try.ntmps5
    go_upto_region 4 with (go_at_call 27; go_fit (drawLeast_c a0 len0 cap0 z0 _ (by omega) hlc hAs hby); rintro e w1 ⟨A1, c1, L, A2, c2, F, h, rfl, hL7, hF7, hh, ⟨b1, i1⟩, ⟨b2, i2⟩, hW⟩)
    have hD := pj_law (cl := c1) (cf := c2) (t := 25) hW i1 i2
    generalize w1.alloc (.cells #[.slice A1 L.length c1, .slice A2 F.length c2] 25) = wa at hD ⊢
    generalize w1.heap.size = D at hD ⊢
    clear hW i1 i2 hlen hby hAs
    have hll : L.length ≤ 2000000 := by omega
    have hlf : F.length ≤ 2000000 := by omega
    have p0 := hD.c0
    have p1 := hD.c1
    obtain ⟨R, hR⟩ : ∃ R, leastV L F h = R := ⟨_, rfl⟩
    have HR := hide hR
    go_upto_region 7 with (first
      | (go_at_call 25; go_fit (leastEnd_c L F h A1 A2 b1 0 c1 b2 0 c2 _ _ hll hlf (Nat.le_refl _) hD.rl hD.rf); rintro e w2 ⟨rfl, hb2⟩; rw [HR.out]; have hD2 := hD.below hb2; have q0 := hD2.c0; have q1 := hD2.c1)
      | (go_at_call 23; go_fit (sLeastEnd_c L F h A1 A2 b1 0 c1 b2 0 c2 _ _ hll hlf (Nat.le_refl _) hD2.rl hD2.rf); rintro e w3 ⟨rfl, hb3⟩; rw [HR.out]; have hD3 := hD2.below hb3))
    clear p0 p1 q0 q1 hb2 hb3 hD hD2 HR
    have p0 := hD3.c0
    have p1 := hD3.c1
    cases hf : (projOk L F && decide (L.length ≤ 5) && inB h 1 3)
    · rw [least_none hf] at hR
      subst hR
      clear hf
      go_wp2_with (go_at_call 14; go_fit (alive_c _); rintro e w6 ⟨rfl, hb6⟩; have hD6 := hD3.below hb6)
      go_ret
      exact ⟨rfl, hD6.bel⟩
    · simp only [Bool.and_eq_true, decide_eq_true_eq, inB_iff, and_assoc] at hf
      obtain ⟨hp, h5, hh1, hh2⟩ := hf
      obtain ⟨f1, f2, f3, f4, f5, f6, f7, f8⟩ := least_facts hp h5 ⟨hh1, hh2⟩
      rw [hR] at f8
      subst f8
      have HL : Hid (∀ k, k ≤ L.length → 0 ≤ work L k ∧ work L k ≤ 20 * (k : Int)) := fun k hk => work_bound hp hk
      have hWb := HL.out L.length (Nat.le_refl _)
      obtain ⟨E, hE⟩ : ∃ E, leastE L F h = E := ⟨_, rfl⟩
      obtain ⟨M, hM⟩ : ∃ M, leastV L F (h + 1) = M := ⟨_, rfl⟩
      obtain ⟨T, hT⟩ : ∃ T, work L L.length = T := ⟨_, rfl⟩
      obtain ⟨N, hN⟩ : ∃ N, lenOf L F = N := ⟨_, rfl⟩
      rw [hE, hM] at f5
      rw [hT] at f6
      rw [hE, hT] at f4
      rw [hN] at f1
      rw [hN, hE] at f2
      rw [hE, hN] at f7
      rw [hE] at f3
      rw [hE]
      rw [hT] at hWb
      have HM := hide hM
      have HO := hide f6
      have HT := hide hT
      have HN : Hid ((if projOk L F then lenOf L F else -1) = N) := by unfold Hid; rw [if_pos hp]; exact hN
      clear hM f6 hT hE hN hp
      have hge0 : ¬ E < 0 := by omega
      have hEm : (E == -1) = false := by rw [beq_eq_false_iff_ne]; omega
      go_upto_block 0 with fail
      go_cut [6] (fun s wx => s = .int .i64 T ∧ PJ w wx D b1 0 A1 c1 L b2 0 A2 c2 F)
      case first =>
        go_wp2_with fail
        go_loopg [6, 7] L.length (fun gh s i wr => ∃ k : Nat, k ≤ L.length ∧ gh = L.length - k ∧ i = .int .i64 k ∧ s = .int .i64 (work L k) ∧ PJ w wr D b1 0 A1 c1 L b2 0 A2 c2 F)
        case atStart => exact ⟨0, Nat.zero_le _, rfl, rfl, rfl, hD3⟩
        case round =>
          clear hD3 p0 p1
          obtain ⟨k, hk, rfl, rfl, rfl, hD⟩ := hrel
          have p0 := hD.c0
          by_cases hlt : k < L.length
          · have hlt' : (k : Int) < (L.length : Int) := by omega
            have hk0 : (0 : Int) ≤ (k : Int) := by omega
            obtain rfl := hD.rl.addr (by omega)
            have x0 := hD.rl.cell k hlt
            have hs : work L (k + 1) = work L k + L.getD k 0 := rfl
            have hb := HL.out (k + 1) (by omega)
            have hb0 := HL.out k (by omega)
            rw [Nat.zero_add] at x0
            generalize L.getD k 0 = x at x0 hs
            have hw : IntKind.i64.wrap (work L k + x) = work L (k + 1) := by rw [hs]; exact IntWalk.i64_in _ (by omega)
            clear hs hb hb0
            go_wp2_with fail
            go_roundg (L.length - (k + 1))
            case measure => go_light; omega
            case rel => go_light; exact ⟨k + 1, by omega, rfl, by go_num, rfl, hD⟩
          · obtain rfl : k = L.length := by omega
            go_wp2_with fail
            go_meet
            case rel => exact ⟨by rw [HT.out], hD⟩
      case rest =>
        clear hD3 p0 p1
        obtain ⟨rfl, hD3⟩ := hcut
        have p0 := hD3.c0
        have p1 := hD3.c1
        have hw1 : IntKind.i64.wrap (h + 1) = h + 1 := IntWalk.i64_in _ (by omega)
        have hm : 0 ≤ h * E ∧ h * E ≤ 300 := by
          refine ⟨Int.mul_nonneg (by omega) (by omega), ?_⟩
          have := Int.mul_le_mul hh2 f3 (by omega) (by omega)
          omega
        have hw2 : IntKind.i64.wrap (h * E) = h * E := IntWalk.i64_in _ (by omega)
        clear hWb HL hm
        go_upto_region 16 with (first
          | (go_at_call 25; go_fit (leastEnd_c L F (h + 1) A1 A2 b1 0 c1 b2 0 c2 _ _ hll hlf (Nat.le_refl _) hD3.rl hD3.rf); rintro e w4 ⟨rfl, hb4⟩; rw [HM.out]; have hD4 := hD3.below hb4; have q0 := hD4.c0; have q1 := hD4.c1)
          | (go_at_call 25; go_fit (leastEnd_c L F 1 A1 A2 b1 0 c1 b2 0 c2 _ _ hll hlf (Nat.le_refl _) hD4.rl hD4.rf); rintro e w5 ⟨rfl, hb5⟩; rw [HO.out]; have hD5 := hD4.below hb5))
        clear p0 p1 q0 q1 hb4 hb5 hD3 hD4 HM HO hw1
        have p0 := hD5.c0
        have p1 := hD5.c1
        by_cases hM0 : M < 0
        · by_cases hn : h < (L.length : Int)
          · skip
            go_wp2_with (first
              | (go_at_call 17; go_fit (lengthOf_c L F A1 A2 b1 0 c1 b2 0 c2 _ _ hll hlf (Nat.le_refl _) hD5.rl hD5.rf); rintro e w6 ⟨rfl, hb6⟩; rw [HN.out]; have hD6 := hD5.below hb6; have q0 := hD6.c0; have q1 := hD6.c1)
              | (go_at_call 17; go_fit (lengthOf_c L F A1 A2 b1 0 c1 b2 0 c2 _ _ hll hlf (Nat.le_refl _) hD6.rl hD6.rf); rintro e w7 ⟨rfl, hb7⟩; rw [HN.out]; have hD7 := hD6.below hb7)
              | (go_at_call 14; go_fit (alive_c _); rintro e w8 ⟨rfl, hb8⟩; have hD8 := (by first | exact hD7.below hb8 | exact hD6.below hb8)))
            go_ret
            exact ⟨rfl, hD8.bel⟩
          · have hEN : E = N := by omega
            subst hEN
            go_wp2_with (first
              | (go_at_call 17; go_fit (lengthOf_c L F A1 A2 b1 0 c1 b2 0 c2 _ _ hll hlf (Nat.le_refl _) hD5.rl hD5.rf); rintro e w6 ⟨rfl, hb6⟩; rw [HN.out]; have hD6 := hD5.below hb6; have q0 := hD6.c0; have q1 := hD6.c1)
              | (go_at_call 17; go_fit (lengthOf_c L F A1 A2 b1 0 c1 b2 0 c2 _ _ hll hlf (Nat.le_refl _) hD6.rl hD6.rf); rintro e w7 ⟨rfl, hb7⟩; rw [HN.out]; have hD7 := hD6.below hb7)
              | (go_at_call 14; go_fit (alive_c _); rintro e w8 ⟨rfl, hb8⟩; have hD8 := (by first | exact hD7.below hb8 | exact hD6.below hb8)))
            go_ret
            exact ⟨rfl, hD8.bel⟩
        · have hME : M ≤ E := by omega
          by_cases hn : h < (L.length : Int)
          · skip
            go_wp2_with (first
              | (go_at_call 17; go_fit (lengthOf_c L F A1 A2 b1 0 c1 b2 0 c2 _ _ hll hlf (Nat.le_refl _) hD5.rl hD5.rf); rintro e w6 ⟨rfl, hb6⟩; rw [HN.out]; have hD6 := hD5.below hb6; have q0 := hD6.c0; have q1 := hD6.c1)
              | (go_at_call 17; go_fit (lengthOf_c L F A1 A2 b1 0 c1 b2 0 c2 _ _ hll hlf (Nat.le_refl _) hD6.rl hD6.rf); rintro e w7 ⟨rfl, hb7⟩; rw [HN.out]; have hD7 := hD6.below hb7)
              | (go_at_call 14; go_fit (alive_c _); rintro e w8 ⟨rfl, hb8⟩; have hD8 := (by first | exact hD7.below hb8 | exact hD6.below hb8)))
            go_ret
            exact ⟨rfl, hD8.bel⟩
          · have hEN : E = N := by omega
            subst hEN
            go_wp2_with (first
              | (go_at_call 17; go_fit (lengthOf_c L F A1 A2 b1 0 c1 b2 0 c2 _ _ hll hlf (Nat.le_refl _) hD5.rl hD5.rf); rintro e w6 ⟨rfl, hb6⟩; rw [HN.out]; have hD6 := hD5.below hb6; have q0 := hD6.c0; have q1 := hD6.c1)
              | (go_at_call 17; go_fit (lengthOf_c L F A1 A2 b1 0 c1 b2 0 c2 _ _ hll hlf (Nat.le_refl _) hD6.rl hD6.rf); rintro e w7 ⟨rfl, hb7⟩; rw [HN.out]; have hD7 := hD6.below hb7)
              | (go_at_call 14; go_fit (alive_c _); rintro e w8 ⟨rfl, hb8⟩; have hD8 := (by first | exact hD7.below hb8 | exact hD6.below hb8)))
            go_ret
            exact ⟨rfl, hD8.bel⟩
end Go.Proofs.Ytmgikoaeomieeaa
