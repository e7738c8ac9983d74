/-
  spec: projects.
-/
import Derived.Test.YtmgikoaeomieeaaL60
import Derived.Test.YtmgikoaeomieeaaS1
namespace Go.Proofs.Ytmgikoaeomieeaa
set_option linter.unusedVariables false
set_option linter.unusedSimpArgs false
open Go.RowKit Pp

theorem l1In_b {n lo hi : Int} {r : Bool} (h : inB n lo hi = r) (w : World) : Calls Try.prog 57 #[.int .i64 n, .int .i64 lo, .int .i64 hi] w fun e w' => e = .returned (.bool r) ∧ w' = w := by rw [← h]; exact (l1In_c n lo hi w).mono fun _ _ ⟨h1, h2⟩ => ⟨h1, h2.symm⟩
theorem two_pow20 {i : Nat} (h : i ≤ 20) : 1 ≤ (2 : Int) ^ i ∧ (2 : Int) ^ i ≤ 1048576 := by
  have h1 : 1 ≤ 2 ^ i := Nat.one_le_two_pow
  have h2 : 2 ^ i ≤ 2 ^ 20 := Nat.pow_le_pow_right (by omega) h
  have e : (2 : Int) ^ i = ((2 ^ i : Nat) : Int) := by simp
  rw [e]
  have : (2 : Nat) ^ 20 = 1048576 := by decide
  omega
theorem proj_long_no {L F : List Int} {k : Nat} (hk : k < L.length) (h : inB (L.getD k 0) 1 20 = false) : projOk L F = false := by
  rw [Bool.eq_false_iff]
  intro hp
  have := inB_iff.2 (long_at hp hk)
  rw [h] at this; cases this
theorem proj_after_no {L F : List Int} {k : Nat} (hk : k < F.length) (h : inB (F.getD k 0) 0 (2 ^ (min k 20) - 1) = false) : projOk L F = false := by
  rw [Bool.eq_false_iff]
  intro hp
  obtain ⟨h1, h2, _, h4⟩ := projOk_iff.1 hp
  have h5 := inB_iff.2 (h4 k hk)
  rw [show min k 20 = k by omega] at h
  rw [h] at h5; cases h5
theorem proj_yes {L F : List Int} (h1 : ∀ k, k < L.length → inB (L.getD k 0) 1 20 = true) (h2 : ∀ k, k < F.length → inB (F.getD k 0) 0 (2 ^ (min k 20) - 1) = true) (h6 : L.length ≤ 6) (hl : F.length = L.length) : projOk L F = true := by
  refine projOk_iff.2 ⟨h6, hl, fun v hv => ?_, fun i hi => ?_⟩
  · obtain ⟨i, hi, rfl⟩ := List.mem_iff_getElem.1 hv
    have := inB_iff.1 (h1 i hi)
    rw [List.getD_eq_getElem?_getD, List.getElem?_eq_getElem hi] at this
    exact this
  · have := inB_iff.1 (h2 i hi)
    rw [show min i 20 = i by omega] at this
    exact this

set_option maxHeartbeats 4000000 in
set_option maxRecDepth 100000 in
theorem sProjectOk_c (L F : List Int) (AL AF : Option Addr) (bl ol cl bf of' cf B : Nat) (w : World) (hll : L.length ≤ 2000000) (hlf : F.length ≤ 2000000) (hB : B ≤ w.heap.size) (hl : IntsR w B bl ol AL L) (hf : IntsR w B bf of' AF F) :
    Calls Try.prog 48 #[.agg #[.slice AL L.length cl, .slice AF F.length cf]] w fun e w' => e = .returned (.bool (projOk L F)) ∧ Below w.heap.size w w' := by
  obtain ⟨r, Hr⟩ : ∃ r, Hid (projOk L F = r) := ⟨_, rfl⟩
  rw [Hr.out]
  have hD := pj_new (t := 25) (cl := cl) (cf := cf) hB hl hf
  clear hl hf hB
  go_enter Try.func48, Try.ntmps48
  go_upto_region 1 with fail
  generalize w.alloc (.cells #[.slice AL L.length cl, .slice AF F.length cf] 25) = W at hD ⊢
  have p0 := hD.c0
  have p1 := hD.c1
  clear p0 p1
  have p0 := hD.c0
  go_wp2_with fail
  go_loopg [3] L.length (fun gh s wr => ∃ k : Nat, k ≤ L.length ∧ gh = L.length - k ∧ s = .int .i64 k ∧ PJ w wr w.heap.size bl ol AL cl L bf of' AF cf F ∧ Hid (∀ i, i < k → inB (L.getD i 0) 1 20 = true))
  case atStart => exact ⟨0, Nat.zero_le _, rfl, rfl, hD, fun i hi => by omega⟩
  case round =>
    clear hD p0
    obtain ⟨k, hk, rfl, rfl, hD, HA⟩ := hrel
    have p0 := hD.c0
    by_cases hlt : k < L.length
    · have hlt' : (k : Int) < (L.length : Int) := by omega
      obtain rfl := hD.rl.addr (by omega)
      have x0 := hD.rl.cell k hlt
      cases hin : inB (L.getD k 0) 1 20
      · obtain rfl : r = false := by rw [← Hr.out]; exact proj_long_no hlt hin
        generalize L.getD k 0 = v at x0 hin
        have Hin := hide hin
        clear hin
        go_wp2_with (go_at_call 57; go_fit (l1In_b Hin.out _); rintro e w2 ⟨rfl, rfl⟩)
        go_ret
        exact ⟨rfl, hD.bel⟩
      · have HN : Hid (∀ i, i < k + 1 → inB (L.getD i 0) 1 20 = true) := by
          intro i hi
          by_cases e : i = k
          · subst e; exact hin
          · exact HA.out i (by omega)
        generalize L.getD k 0 = v at x0 hin
        have Hin := hide hin
        clear hin
        go_wp2_with (go_at_call 57; go_fit (l1In_b Hin.out _); rintro e w2 ⟨rfl, rfl⟩)
        go_roundg (L.length - (k + 1))
        case measure => go_light; omega
        case rel => go_light; exact ⟨k + 1, by omega, rfl, by go_num, hD, HN⟩
    · have hlt' : ¬ (k : Int) < (L.length : Int) := by omega
      have HL : Hid (∀ i, i < L.length → inB (L.getD i 0) 1 20 = true) := fun i hi => HA.out i (by omega)
      have p1 := hD.c1
      clear HA hlt hk
      go_wp2_with fail
      clear hlt' p0 p1
      go_loopg [4] F.length (fun gh s wr => ∃ k : Nat, k ≤ F.length ∧ gh = F.length - k ∧ s = .int .i64 k ∧ PJ w wr w.heap.size bl ol AL cl L bf of' AF cf F ∧ Hid (∀ i, i < k → inB (F.getD i 0) 0 (2 ^ (min i 20) - 1) = true))
      case atStart => exact ⟨0, Nat.zero_le _, rfl, rfl, hD, fun i hi => by omega⟩
      case round =>
        clear hD
        obtain ⟨k, hk, rfl, rfl, hD, HA⟩ := hrel
        have p0 := hD.c0
        have p1 := hD.c1
        by_cases hlt : k < F.length
        · have hlt' : (k : Int) < (F.length : Int) := by omega
          obtain rfl := hD.rf.addr (by omega)
          have x0 := hD.rf.cell k hlt
          have hno := fun h => proj_after_no (L := L) (F := F) (k := k) hlt h
          have HE : Hid (∀ i, i < k + 1 → (i ≠ k → inB (F.getD i 0) 0 (2 ^ (min i 20) - 1) = true)) := fun i hi hne => HA.out i (by omega)
          obtain ⟨m, hm⟩ : ∃ m, min k 20 = m := ⟨_, rfl⟩
          have hm20 : m ≤ 20 := by omega
          obtain ⟨q1, q2⟩ := two_pow20 hm20
          have hm1 : (if (20 : Int) < (k : Int) then (20 : Int) else (k : Int)) = (m : Int) := by split <;> omega
          have hm2 : (if (k : Int) < (20 : Int) then (k : Int) else (20 : Int)) = (m : Int) := by split <;> omega
          cases hin : inB (F.getD k 0) 0 (2 ^ (min k 20) - 1)
          · obtain rfl : r = false := by rw [← Hr.out]; exact hno hin
            rw [hm] at hin
            obtain ⟨M, hM⟩ : ∃ M, (2 : Int) ^ m = M := ⟨_, rfl⟩
            rw [hM] at q1 q2 hin
            generalize F.getD k 0 = v at x0 hin
            have hw1 : IntKind.i64.wrap M = M := IntWalk.i64_in _ (by omega)
            have hw2 : IntKind.i64.wrap (M - 1) = M - 1 := IntWalk.i64_in _ (by omega)
            have hk0 : ¬ (m : Int) < 0 := by omega
            have hk64 : (m : Int) < 64 := by omega
            have Hin := hide hin
            clear hin hm hno
            go_upto_region 9 with fail
            go_quiet ((go_at_call 57; exact Calls.quiet_of_same (l1In_b Hin.out _)))
            have hd : Below wr.heap.size wr (wr.drewN nq) := ⟨rfl, rfl, rfl, Nat.le_refl _, fun _ _ => rfl⟩
            replace hD := hD.below hd
            clear p0 p1 x0 hd hw1 hw2 hk0 hk64 hm1 hm2 q1 q2 hM
            go_wp2_with fail
            go_ret
            exact ⟨rfl, hD.bel⟩
          · have HN : Hid (∀ i, i < k + 1 → inB (F.getD i 0) 0 (2 ^ (min i 20) - 1) = true) := by
              intro i hi
              by_cases e : i = k
              · subst e; exact hin
              · exact HA.out i (by omega)
            rw [hm] at hin
            obtain ⟨M, hM⟩ : ∃ M, (2 : Int) ^ m = M := ⟨_, rfl⟩
            rw [hM] at q1 q2 hin
            generalize F.getD k 0 = v at x0 hin
            have hw1 : IntKind.i64.wrap M = M := IntWalk.i64_in _ (by omega)
            have hw2 : IntKind.i64.wrap (M - 1) = M - 1 := IntWalk.i64_in _ (by omega)
            have hk0 : ¬ (m : Int) < 0 := by omega
            have hk64 : (m : Int) < 64 := by omega
            have Hin := hide hin
            clear hin hm hno
            go_upto_region 9 with fail
            go_quiet ((go_at_call 57; exact Calls.quiet_of_same (l1In_b Hin.out _)))
            have hd : Below wr.heap.size wr (wr.drewN nq) := ⟨rfl, rfl, rfl, Nat.le_refl _, fun _ _ => rfl⟩
            replace hD := hD.below hd
            clear p0 p1 x0 hd hw1 hw2 hk0 hk64 hm1 hm2 q1 q2 hM
            go_wp2_with fail
            go_roundg (F.length - (k + 1))
            case measure => go_light; omega
            case rel => go_light; exact ⟨k + 1, by omega, rfl, by go_num, hD, HN⟩
        · have hlt' : ¬ (k : Int) < (F.length : Int) := by omega
          have HF : Hid (∀ i, i < F.length → inB (F.getD i 0) 0 (2 ^ (min i 20) - 1) = true) := fun i hi => HA.out i (by omega)
          by_cases h6 : L.length ≤ 6
          · by_cases hle : F.length = L.length
            · obtain rfl : r = true := by rw [← Hr.out]; exact proj_yes HL.out HF.out h6 hle
              have hlez : ((F.length : Int) == (L.length : Int)) = true := by simp [hle]
              have h6z : (L.length : Int) ≤ 6 := by omega
              clear hle
              go_wp2_with fail
              go_ret
              exact ⟨rfl, hD.bel⟩
            · obtain rfl : r = false := by
                rw [← Hr.out, Bool.eq_false_iff]
                intro hp
                exact hle (projOk_iff.1 hp).2.1
              have hlez : ((F.length : Int) == (L.length : Int)) = false := by simp; omega
              have h6z : (L.length : Int) ≤ 6 := by omega
              clear hle
              go_wp2_with fail
              go_ret
              exact ⟨rfl, hD.bel⟩
          · obtain rfl : r = false := by
              rw [← Hr.out, Bool.eq_false_iff]
              intro hp
              exact h6 (projOk_iff.1 hp).1
            have h6z : ¬ (L.length : Int) ≤ 6 := by omega
            go_wp2_with fail
            go_ret
            exact ⟨rfl, hD.bel⟩
end Go.Proofs.Ytmgikoaeomieeaa
