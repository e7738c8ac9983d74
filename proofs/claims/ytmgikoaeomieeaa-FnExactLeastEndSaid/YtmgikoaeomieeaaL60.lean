/-
  impl: ProjectOk; early begins, ends.
-/
import Derived.Test.YtmgikoaeomieeaaR60
import Derived.Test.YtmgikoaeomieeaaL5a
import Derived.Test.YtmgikoaeomieeaaL1
import Derived.Test.YtmgikoaeomieeaaL11a
import Derived.Test.YtmgikoaeomieeaaZ1
namespace Go.Proofs.Ytmgikoaeomieeaa
set_option linter.unusedVariables false
set_option linter.unusedSimpArgs false
open Go.RowKit Pp

theorem two_pow {i : Nat} (h : i < 7) : 1 ≤ (2 : Int) ^ i ∧ (2 : Int) ^ i ≤ 64 := by
  have : i = 0 ∨ i = 1 ∨ i = 2 ∨ i = 3 ∨ i = 4 ∨ i = 5 ∨ i = 6 := by omega
  rcases this with rfl | rfl | rfl | rfl | rfl | rfl | rfl <;> decide
theorem proj_bits {L F : List Int} (h : projOk L F = true) {i : Nat} (hi : i < F.length) : 0 ≤ F.getD i 0 ∧ F.getD i 0 ≤ 63 := by
  obtain ⟨h1, h2, _, h4⟩ := projOk_iff.1 h
  have := h4 i hi
  have := (two_pow (i := i) (by omega)).2
  omega
set_option maxHeartbeats 2000000 in
set_option maxRecDepth 100000 in
theorem projectOk_c (L F : List Int) (AL AF : Option Addr) (bl ol cl bf of' cf B : Nat) (w : World) (hll : L.length ≤ 2000000) (hlf : F.length ≤ 2000000) (hB : B ≤ w.heap.size) (hl : IntsR w B bl ol AL L) (hf : IntsR w B bf of' AF F) :
    Calls Try.prog 45 #[.agg #[.slice AL L.length cl, .slice AF F.length cf]] w fun e w' => e = .returned (.bool (projOk L F)) ∧ Below w.heap.size w w' := by
  obtain ⟨r, Hr⟩ : ∃ r, Hid (projOk L F = r) := ⟨_, rfl⟩
  rw [Hr.out]
  have hD := pj_new (t := 25) (cl := cl) (cf := cf) hB hl hf
  clear hl hf hB
  by_cases h6 : L.length ≤ 6
  · by_cases hle : F.length = L.length
    · have hlez : ((F.length : Int) == (L.length : Int)) = true := by simp [hle]
      have hlez2 : ((F.length : Int) != (L.length : Int)) = false := by simp [hle]
      have h6z : ¬ (6 : Int) < (L.length : Int) := by omega
      have hf6 : F.length ≤ 6 := by omega
      have Hle := hide hle
      obtain ⟨ra, hra⟩ : ∃ ra, (L.all fun v => inB v 1 20) = ra := ⟨_, rfl⟩
      have Hra := hide hra
      clear hle hra
      cases ra
      · obtain rfl : r = false := by rw [← Hr.out]; unfold projOk; rw [Hra.out]; simp
        go_enter Try.func45, Try.ntmps45
        go_upto_region 1 with fail
        generalize w.alloc (.cells #[.slice AL L.length cl, .slice AF F.length cf] 25) = W at hD ⊢
        have p0 := hD.c0
        have p1 := hD.c1
        go_wp2_with (go_at_call 79; go_fit (allIn_c L 1 20 AL bl ol cl _ _ hll (Nat.le_refl _) hD.rl); rintro e w2 ⟨rfl, hb⟩; rw [Hra.out]; replace hD := hD.below hb)
        go_ret
        exact ⟨rfl, hD.bel⟩
      · skip
        go_enter Try.func45, Try.ntmps45
        go_upto_region 1 with fail
        generalize w.alloc (.cells #[.slice AL L.length cl, .slice AF F.length cf] 25) = W at hD ⊢
        have p0 := hD.c0
        have p1 := hD.c1
        go_upto_region 3 with (go_at_call 79; go_fit (allIn_c L 1 20 AL bl ol cl _ _ hll (Nat.le_refl _) hD.rl); rintro e w2 ⟨rfl, hb⟩; rw [Hra.out]; replace hD := hD.below hb)
        clear p0 p1
        have p1 := hD.c1
        go_wp2_with fail
        go_loopg [27] F.length (fun gh s wr => ∃ k : Nat, k ≤ F.length ∧ gh = F.length - k ∧ s = .int .i64 k ∧ PJ w wr w.heap.size bl ol AL cl L bf of' AF cf F ∧ Hid (∀ i, i < k → inB (F.getD i 0) 0 (2 ^ i - 1) = true))
        case atStart => exact ⟨0, Nat.zero_le _, rfl, rfl, hD, fun i hi => by omega⟩
        case round =>
          clear hD p1
          obtain ⟨k, hk, rfl, rfl, hD, HA⟩ := hrel
          by_cases hlt : k < F.length
          · have hlt' : (k : Int) < (F.length : Int) := by omega
            obtain rfl := hD.rf.addr (by omega)
            have x0 := hD.rf.cell k hlt
            obtain ⟨q1, q2⟩ := two_pow (i := k) (by omega)
            obtain ⟨M, hM⟩ : ∃ M, (2 : Int) ^ k = M := ⟨_, rfl⟩
            obtain ⟨v, hv⟩ : ∃ v, F.getD k 0 = v := ⟨_, rfl⟩
            rw [hv] at x0
            have Hv := hide hv
            rw [hM] at q1 q2
            have hw1 : IntKind.i64.wrap M = M := IntWalk.i64_in _ (by omega)
            have hw2 : IntKind.i64.wrap (M - 1) = M - 1 := IntWalk.i64_in _ (by omega)
            have HM := hide hM
            have hk0 : ¬ (k : Int) < 0 := by omega
            have hk64 : (k : Int) < 64 := by omega
            clear hv
            cases hin : inB v 0 (M - 1)
            · obtain rfl : r = false := by
                rw [← Hr.out]
                unfold projOk
                have : ((List.range F.length).all fun i => inB (F.getD i 0) 0 (2 ^ i - 1)) = false := by
                  rw [Bool.eq_false_iff]
                  intro hh
                  have := List.all_eq_true.1 hh k (List.mem_range.2 hlt)
                  rw [Hv.out, HM.out, hin] at this
                  cases this
                rw [this, Bool.and_false]
              have Hin := hide hin
              clear hin
              go_wp2_with (go_at_call 80; go_fit (in_c _ _ _ _); rintro e w2 ⟨rfl, rfl⟩; rw [Hin.out])
              go_ret
              exact ⟨rfl, hD.bel⟩
            · have HN : Hid (∀ i, i < k + 1 → inB (F.getD i 0) 0 (2 ^ i - 1) = true) := by
                intro i hi
                by_cases e : i = k
                · subst e; rw [Hv.out, HM.out]; exact hin
                · exact HA.out i (by omega)
              have Hin := hide hin
              clear hin
              go_wp2_with (go_at_call 80; go_fit (in_c _ _ _ _); rintro e w2 ⟨rfl, rfl⟩; rw [Hin.out])
              go_roundg (F.length - (k + 1))
              case measure => go_light; omega
              case rel => go_light; exact ⟨k + 1, by omega, rfl, by go_num, hD, HN⟩
          · obtain rfl : r = true := by
              rw [← Hr.out]
              unfold projOk
              rw [Hra.out, decide_eq_true h6, decide_eq_true Hle.out]
              have : ((List.range F.length).all fun i => inB (F.getD i 0) 0 (2 ^ i - 1)) = true := List.all_eq_true.2 (fun i hi => HA.out i (by have := List.mem_range.1 hi; omega))
              rw [this]; rfl
            have hlt' : ¬ (k : Int) < (F.length : Int) := by omega
            go_wp2_with fail
            go_ret
            exact ⟨rfl, hD.bel⟩
    · obtain rfl : r = false := by rw [← Hr.out]; unfold projOk; rw [decide_eq_false hle]; simp
      have hlez : ((F.length : Int) == (L.length : Int)) = false := by simp; omega
      have hlez2 : ((F.length : Int) != (L.length : Int)) = true := by simp; omega
      have h6z : ¬ (6 : Int) < (L.length : Int) := by omega
      go_enter Try.func45, Try.ntmps45
      go_upto_region 1 with fail
      generalize w.alloc (.cells #[.slice AL L.length cl, .slice AF F.length cf] 25) = W at hD ⊢
      have p0 := hD.c0
      have p1 := hD.c1
      go_wp2_with fail
      go_ret
      exact ⟨rfl, hD.bel⟩
  · obtain rfl : r = false := by rw [← Hr.out]; unfold projOk; rw [decide_eq_false h6]; simp
    have h6z : (6 : Int) < (L.length : Int) := by omega
    go_enter Try.func45, Try.ntmps45
    go_upto_region 1 with fail
    generalize w.alloc (.cells #[.slice AL L.length cl, .slice AF F.length cf] 25) = W at hD ⊢
    have p0 := hD.c0
    have p1 := hD.c1
    go_wp2_with fail
    go_ret
    exact ⟨rfl, hD.bel⟩

set_option maxHeartbeats 2000000 in
set_option maxRecDepth 100000 in
theorem end_c (L F xs : List Int) (hx : xs.length = L.length) (hb : ∀ i, i < L.length → (0 ≤ L.getD i 0 ∧ L.getD i 0 ≤ 100) ∧ (-1 ≤ xs.getD i 0 ∧ xs.getD i 0 ≤ 10000)) (AL AF AX : Option Addr) (bl ol cl bf of' cf bx ox cx B : Nat) (w : World) (hll : L.length ≤ 2000000) (hB : B ≤ w.heap.size) (hl : IntsR w B bl ol AL L) (hf : IntsR w B bf of' AF F) (hX : IntsR w B bx ox AX xs) :
    Calls Try.prog 52 #[.agg #[.slice AL L.length cl, .slice AF F.length cf], .slice AX L.length cx] w fun e w' => e = .returned (.int .i64 (endOf L xs)) ∧ Below w.heap.size w w' := by
  have hD := pj_new (t := 25) (cl := cl) (cf := cf) hB hl hf
  have hI := (hX.below (hD.bel.mono hB)).more (Nat.le_trans hB hD.bel.size)
  have Hx := hide hx
  have Hb := hide hb
  clear hl hf hB hX hx hb
  go_enter Try.func52, Try.ntmps52
  go_upto_region 1 with fail
  generalize w.alloc (.cells #[.slice AL L.length cl, .slice AF F.length cf] 25) = W at hD hI ⊢
  go_wp2_with fail
  go_loopg [5, 10] L.length (fun gh s5 s10 wr => ∃ (k : Nat) (m : Int), k ≤ L.length ∧ gh = L.length - k ∧ s10 = .int .i64 k ∧ s5 = .int .i64 m ∧ (0 ≤ m ∧ m ≤ 10100) ∧ Hid (endTo L xs k = m) ∧ PJ w wr w.heap.size bl ol AL cl L bf of' AF cf F ∧ IntsR wr wr.heap.size bx ox AX xs)
  case atStart => exact ⟨0, 0, Nat.zero_le _, rfl, rfl, rfl, by omega, rfl, hD, hI⟩
  case round =>
    clear hD hI
    obtain ⟨k, m, hk, rfl, rfl, rfl, hm, HE, hD, hI⟩ := hrel
    have p0 := hD.c0
    by_cases hlt : k < L.length
    · have hlt' : (k : Int) < (L.length : Int) := by omega
      obtain rfl := hI.addr (by have := Hx.out; omega)
      obtain rfl := hD.rl.addr (by omega)
      have x0 := hI.cell k (by have := Hx.out; omega)
      have y0 := hD.rl.cell k hlt
      have hbk := Hb.out k hlt
      have HS : Hid (endTo L xs (k + 1) = max m (xs.getD k 0 + L.getD k 0)) := by unfold Hid; simp only [endTo]; rw [HE.out]
      generalize xs.getD k 0 = x at x0 hbk HS
      generalize L.getD k 0 = l at y0 hbk HS
      obtain ⟨⟨l0, l1⟩, ⟨z0, z1⟩⟩ := hbk
      have hws : IntKind.i64.wrap (x + l) = x + l := IntWalk.i64_in _ (by omega)
      obtain ⟨mv, hmv⟩ : ∃ mv, max m (x + l) = mv := ⟨_, rfl⟩
      have hm1 : (if m < x + l then x + l else m) = mv := by rw [← hmv]; split <;> omega
      have hm2 : (if x + l < m then m else x + l) = mv := by rw [← hmv]; split <;> omega
      have hmb : 0 ≤ mv ∧ mv ≤ 10100 := by omega
      rw [hmv] at HS
      clear hmv
      go_wp2_with fail
      go_roundg (L.length - (k + 1))
      case measure => go_light; omega
      case rel => go_light; exact ⟨k + 1, mv, by omega, rfl, by go_num, rfl, hmb, HS, hD, hI⟩
    · obtain rfl : k = L.length := by omega
      go_wp2_with fail
      go_ret
      exact ⟨by unfold endOf; rw [HE.out]; rfl, hD.bel⟩
end Go.Proofs.Ytmgikoaeomieeaa
