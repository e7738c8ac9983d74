/-
  spec: projects.
  spec: how many tasks are being done; the end of begins.
  spec: the end of begins; right begins.
-/
import Derived.Test.YtmgikoaeomieeaaL60
import Derived.Test.YtmgikoaeomieeaaS1
import Derived.Test.YtmgikoaeomieeaaL66
namespace Go.Proofs.Ytmgikoaeomieeaa
set_option linter.unusedVariables false
set_option linter.unusedSimpArgs false
open Go.RowKit Pp

theorem l1In_b {n lo hi : Int} {r : Bool} (h : inB n lo hi = r) (w : World) : Calls Try.prog 57 #[.int .i64 n, .int .i64 lo, .int .i64 hi] w fun e w' => e = .returned (.bool r) ∧ w' = w := by rw [← h]; exact (l1In_c n lo hi w).mono fun _ _ ⟨h1, h2⟩ => ⟨h1, h2.symm⟩
theorem two_pow20 {i : Nat} (h : i ≤ 20) : 1 ≤ (2 : Int) ^ i ∧ (2 : Int) ^ i ≤ 1048576 := by
  have h1 : 1 ≤ 2 ^ i := Nat.one_le_two_pow
  have h2 : 2 ^ i ≤ 2 ^ 20 := Nat.pow_le_pow_right (by omega) h
  have e : (2 : Int) ^ i = ((2 ^ i : Nat) : Int) := by simp
  rw [e]
  have : (2 : Nat) ^ 20 = 1048576 := by decide
  omega
theorem proj_long_no {L F : List Int} {k : Nat} (hk : k < L.length) (h : inB (L.getD k 0) 1 20 = false) : projOk L F = false := by
  rw [Bool.eq_false_iff]
  intro hp
  have := inB_iff.2 (long_at hp hk)
  rw [h] at this; cases this
theorem proj_after_no {L F : List Int} {k : Nat} (hk : k < F.length) (h : inB (F.getD k 0) 0 (2 ^ (min k 20) - 1) = false) : projOk L F = false := by
  rw [Bool.eq_false_iff]
  intro hp
  obtain ⟨h1, h2, _, h4⟩ := projOk_iff.1 hp
  have h5 := inB_iff.2 (h4 k hk)
  rw [show min k 20 = k by omega] at h
  rw [h] at h5; cases h5
theorem proj_yes {L F : List Int} (h1 : ∀ k, k < L.length → inB (L.getD k 0) 1 20 = true) (h2 : ∀ k, k < F.length → inB (F.getD k 0) 0 (2 ^ (min k 20) - 1) = true) (h6 : L.length ≤ 6) (hl : F.length = L.length) : projOk L F = true := by
  refine projOk_iff.2 ⟨h6, hl, fun v hv => ?_, fun i hi => ?_⟩
  · obtain ⟨i, hi, rfl⟩ := List.mem_iff_getElem.1 hv
    have := inB_iff.1 (h1 i hi)
    rw [List.getD_eq_getElem?_getD, List.getElem?_eq_getElem hi] at this
    exact this
  · have := inB_iff.1 (h2 i hi)
    rw [show min i 20 = i by omega] at this
    exact this

set_option maxHeartbeats 4000000 in
set_option maxRecDepth 100000 in
theorem sProjectOk_c (L F : List Int) (AL AF : Option Addr) (bl ol cl bf of' cf B : Nat) (w : World) (hll : L.length ≤ 2000000) (hlf : F.length ≤ 2000000) (hB : B ≤ w.heap.size) (hl : IntsR w B bl ol AL L) (hf : IntsR w B bf of' AF F) :
    Calls Try.prog 48 #[.agg #[.slice AL L.length cl, .slice AF F.length cf]] w fun e w' => e = .returned (.bool (projOk L F)) ∧ Below w.heap.size w w' := by
  obtain ⟨r, Hr⟩ : ∃ r, Hid (projOk L F = r) := ⟨_, rfl⟩
  rw [Hr.out]
  have hD := pj_new (t := 25) (cl := cl) (cf := cf) hB hl hf
  clear hl hf hB
  go_enter Try.func48, Try.ntmps48
  go_upto_region 1 with fail
  generalize w.alloc (.cells #[.slice AL L.length cl, .slice AF F.length cf] 25) = W at hD ⊢
  have p0 := hD.c0
  have p1 := hD.c1
  clear p0 p1
  have p0 := hD.c0
  go_wp2_with fail
  go_loopg [3] L.length (fun gh s wr => ∃ k : Nat, k ≤ L.length ∧ gh = L.length - k ∧ s = .int .i64 k ∧ PJ w wr w.heap.size bl ol AL cl L bf of' AF cf F ∧ Hid (∀ i, i < k → inB (L.getD i 0) 1 20 = true))
  case atStart => exact ⟨0, Nat.zero_le _, rfl, rfl, hD, fun i hi => by omega⟩
  case round =>
    clear hD p0
    obtain ⟨k, hk, rfl, rfl, hD, HA⟩ := hrel
    have p0 := hD.c0
    by_cases hlt : k < L.length
    · have hlt' : (k : Int) < (L.length : Int) := by omega
      obtain rfl := hD.rl.addr (by omega)
      have x0 := hD.rl.cell k hlt
      cases hin : inB (L.getD k 0) 1 20
      · obtain rfl : r = false := by rw [← Hr.out]; exact proj_long_no hlt hin
        generalize L.getD k 0 = v at x0 hin
        have Hin := hide hin
        clear hin
        go_wp2_with (go_at_call 57; go_fit (l1In_b Hin.out _); rintro e w2 ⟨rfl, rfl⟩)
        go_ret
        exact ⟨rfl, hD.bel⟩
      · have HN : Hid (∀ i, i < k + 1 → inB (L.getD i 0) 1 20 = true) := by
          intro i hi
          by_cases e : i = k
          · subst e; exact hin
          · exact HA.out i (by omega)
        generalize L.getD k 0 = v at x0 hin
        have Hin := hide hin
        clear hin
        go_wp2_with (go_at_call 57; go_fit (l1In_b Hin.out _); rintro e w2 ⟨rfl, rfl⟩)
        go_roundg (L.length - (k + 1))
        case measure => go_light; omega
        case rel => go_light; exact ⟨k + 1, by omega, rfl, by go_num, hD, HN⟩
    · have hlt' : ¬ (k : Int) < (L.length : Int) := by omega
      have HL : Hid (∀ i, i < L.length → inB (L.getD i 0) 1 20 = true) := fun i hi => HA.out i (by omega)
      have p1 := hD.c1
      clear HA hlt hk
      go_wp2_with fail
      clear hlt' p0 p1
      go_loopg [4] F.length (fun gh s wr => ∃ k : Nat, k ≤ F.length ∧ gh = F.length - k ∧ s = .int .i64 k ∧ PJ w wr w.heap.size bl ol AL cl L bf of' AF cf F ∧ Hid (∀ i, i < k → inB (F.getD i 0) 0 (2 ^ (min i 20) - 1) = true))
      case atStart => exact ⟨0, Nat.zero_le _, rfl, rfl, hD, fun i hi => by omega⟩
      case round =>
        clear hD
        obtain ⟨k, hk, rfl, rfl, hD, HA⟩ := hrel
        have p0 := hD.c0
        have p1 := hD.c1
        by_cases hlt : k < F.length
        · have hlt' : (k : Int) < (F.length : Int) := by omega
          obtain rfl := hD.rf.addr (by omega)
          have x0 := hD.rf.cell k hlt
          have hno := fun h => proj_after_no (L := L) (F := F) (k := k) hlt h
          have HE : Hid (∀ i, i < k + 1 → (i ≠ k → inB (F.getD i 0) 0 (2 ^ (min i 20) - 1) = true)) := fun i hi hne => HA.out i (by omega)
          obtain ⟨m, hm⟩ : ∃ m, min k 20 = m := ⟨_, rfl⟩
          have hm20 : m ≤ 20 := by omega
          obtain ⟨q1, q2⟩ := two_pow20 hm20
          have hm1 : (if (20 : Int) < (k : Int) then (20 : Int) else (k : Int)) = (m : Int) := by split <;> omega
          have hm2 : (if (k : Int) < (20 : Int) then (k : Int) else (20 : Int)) = (m : Int) := by split <;> omega
          cases hin : inB (F.getD k 0) 0 (2 ^ (min k 20) - 1)
          · obtain rfl : r = false := by rw [← Hr.out]; exact hno hin
            rw [hm] at hin
            obtain ⟨M, hM⟩ : ∃ M, (2 : Int) ^ m = M := ⟨_, rfl⟩
            rw [hM] at q1 q2 hin
            generalize F.getD k 0 = v at x0 hin
            have hw1 : IntKind.i64.wrap M = M := IntWalk.i64_in _ (by omega)
            have hw2 : IntKind.i64.wrap (M - 1) = M - 1 := IntWalk.i64_in _ (by omega)
            have hk0 : ¬ (m : Int) < 0 := by omega
            have hk64 : (m : Int) < 64 := by omega
            have Hin := hide hin
            clear hin hm hno
            go_upto_region 9 with fail
            go_quiet ((go_at_call 57; exact Calls.quiet_of_same (l1In_b Hin.out _)))
            have hd : Below wr.heap.size wr (wr.drewN nq) := ⟨rfl, rfl, rfl, Nat.le_refl _, fun _ _ => rfl⟩
            replace hD := hD.below hd
            clear p0 p1 x0 hd hw1 hw2 hk0 hk64 hm1 hm2 q1 q2 hM
            go_wp2_with fail
            go_ret
            exact ⟨rfl, hD.bel⟩
          · have HN : Hid (∀ i, i < k + 1 → inB (F.getD i 0) 0 (2 ^ (min i 20) - 1) = true) := by
              intro i hi
              by_cases e : i = k
              · subst e; exact hin
              · exact HA.out i (by omega)
            rw [hm] at hin
            obtain ⟨M, hM⟩ : ∃ M, (2 : Int) ^ m = M := ⟨_, rfl⟩
            rw [hM] at q1 q2 hin
            generalize F.getD k 0 = v at x0 hin
            have hw1 : IntKind.i64.wrap M = M := IntWalk.i64_in _ (by omega)
            have hw2 : IntKind.i64.wrap (M - 1) = M - 1 := IntWalk.i64_in _ (by omega)
            have hk0 : ¬ (m : Int) < 0 := by omega
            have hk64 : (m : Int) < 64 := by omega
            have Hin := hide hin
            clear hin hm hno
            go_upto_region 9 with fail
            go_quiet ((go_at_call 57; exact Calls.quiet_of_same (l1In_b Hin.out _)))
            have hd : Below wr.heap.size wr (wr.drewN nq) := ⟨rfl, rfl, rfl, Nat.le_refl _, fun _ _ => rfl⟩
            replace hD := hD.below hd
            clear p0 p1 x0 hd hw1 hw2 hk0 hk64 hm1 hm2 q1 q2 hM
            go_wp2_with fail
            go_roundg (F.length - (k + 1))
            case measure => go_light; omega
            case rel => go_light; exact ⟨k + 1, by omega, rfl, by go_num, hD, HN⟩
        · have hlt' : ¬ (k : Int) < (F.length : Int) := by omega
          have HF : Hid (∀ i, i < F.length → inB (F.getD i 0) 0 (2 ^ (min i 20) - 1) = true) := fun i hi => HA.out i (by omega)
          by_cases h6 : L.length ≤ 6
          · by_cases hle : F.length = L.length
            · obtain rfl : r = true := by rw [← Hr.out]; exact proj_yes HL.out HF.out h6 hle
              have hlez : ((F.length : Int) == (L.length : Int)) = true := by simp [hle]
              have h6z : (L.length : Int) ≤ 6 := by omega
              clear hle
              go_wp2_with fail
              go_ret
              exact ⟨rfl, hD.bel⟩
            · obtain rfl : r = false := by
                rw [← Hr.out, Bool.eq_false_iff]
                intro hp
                exact hle (projOk_iff.1 hp).2.1
              have hlez : ((F.length : Int) == (L.length : Int)) = false := by simp; omega
              have h6z : (L.length : Int) ≤ 6 := by omega
              clear hle
              go_wp2_with fail
              go_ret
              exact ⟨rfl, hD.bel⟩
          · obtain rfl : r = false := by
              rw [← Hr.out, Bool.eq_false_iff]
              intro hp
              exact h6 (projOk_iff.1 hp).1
            have h6z : ¬ (L.length : Int) ≤ 6 := by omega
            go_wp2_with fail
            go_ret
            exact ⟨rfl, hD.bel⟩

/-- What BusyAt returns. -/
def busyV (L F b : List Int) (t : Int) : Int := if fitB L F b && inB t 0 2000 then (busyN L b t : Int) else -1
theorem fit_no {L F b : List Int} {k : Nat} (hk : k < b.length) (h : inB (b.getD k 0) 0 2000 = false) : fitB L F b = false := by
  rw [Bool.eq_false_iff]
  intro hp
  obtain ⟨_, _, h3⟩ := fitB_iff.1 hp
  have := h3 (b.getD k 0) (by rw [List.getD_eq_getElem?_getD, List.getElem?_eq_getElem hk]; exact List.getElem_mem _)
  rw [inB_iff.2 this] at h; cases h
theorem fit_yes {L F b : List Int} (hp : projOk L F = true) (hl : b.length = L.length) (h : ∀ k, k < b.length → inB (b.getD k 0) 0 2000 = true) : fitB L F b = true := by
  refine fitB_iff.2 ⟨hp, hl, fun v hv => ?_⟩
  obtain ⟨i, hi, rfl⟩ := List.mem_iff_getElem.1 hv
  have := inB_iff.1 (h i hi)
  rw [List.getD_eq_getElem?_getD, List.getElem?_eq_getElem hi] at this
  exact this

set_option maxHeartbeats 4000000 in
set_option maxRecDepth 100000 in
theorem sBusyAt_c (L F xs : List Int) (t : Int) (AL AF AX : Option Addr) (bl ol cl bf of' cf bx ox cx B : Nat) (w : World) (hll : L.length ≤ 2000000) (hlf : F.length ≤ 2000000) (hlx : xs.length ≤ 2000000) (hB : B ≤ w.heap.size) (hl : IntsR w B bl ol AL L) (hf : IntsR w B bf of' AF F) (hX : IntsR w B bx ox AX xs) :
    Calls Try.prog 74 #[.agg #[.slice AL L.length cl, .slice AF F.length cf], .slice AX xs.length cx, .int .i64 t] w fun e w' => e = .returned (.int .i64 (busyV L F xs t)) ∧ Below w.heap.size w w' := by
  obtain ⟨R, hR⟩ : ∃ R, busyV L F xs t = R := ⟨_, rfl⟩
  rw [hR]
  have HR := hide hR
  have hD := pj_new (t := 25) (cl := cl) (cf := cf) hB hl hf
  have hI := (hX.below (hD.bel.mono hB)).more (Nat.le_trans hB hD.bel.size)
  clear hl hf hB hX hR
  cases hp : projOk L F
  · obtain rfl : -1 = R := by rw [← HR.out]; unfold busyV fitB; rw [hp]; rfl
    have Hp := hide hp
    clear hp
    go_enter Try.func74, Try.ntmps74
    go_upto_region 1 with fail
    generalize w.alloc (.cells #[.slice AL L.length cl, .slice AF F.length cf] 25) = W at hD hI ⊢
    have p0 := hD.c0
    have p1 := hD.c1
    go_wp2_with (go_at_call 48; go_fit (sProjectOk_c L F AL AF bl ol cl bf of' cf _ _ hll hlf (Nat.le_refl _) hD.rl hD.rf); rintro e w2 ⟨rfl, hb⟩; rw [Hp.out]; replace hD := hD.below hb; clear p0 p1; have p0 := hD.c0; have p1 := hD.c1)
    go_ret
    exact ⟨rfl, hD.bel⟩
  · have Hp := hide hp
    by_cases hle : xs.length = L.length
    · have hlez : ((xs.length : Int) != (L.length : Int)) = false := by simp [hle]
      have hlez2 : ((xs.length : Int) == (L.length : Int)) = true := by simp [hle]
      have Hle := hide hle
      have hx6 : xs.length ≤ 6 := by have := (projOk_iff.1 hp).1; omega
      cases ht : inB t 0 2000
      · obtain rfl : -1 = R := by rw [← HR.out]; unfold busyV; rw [ht, Bool.and_false]; rfl
        have Ht := hide ht
        clear hp hle ht
        go_enter Try.func74, Try.ntmps74
        go_upto_region 1 with fail
        generalize w.alloc (.cells #[.slice AL L.length cl, .slice AF F.length cf] 25) = W at hD hI ⊢
        have p0 := hD.c0
        have p1 := hD.c1
        go_wp2_with (first
          | (go_at_call 48; go_fit (sProjectOk_c L F AL AF bl ol cl bf of' cf _ _ hll hlf (Nat.le_refl _) hD.rl hD.rf); rintro e w2 ⟨rfl, hb⟩; rw [Hp.out]; replace hD := hD.below hb; clear p0 p1; have p0 := hD.c0; have p1 := hD.c1)
          | (go_at_call 57; go_fit (l1In_b Ht.out _); rintro e w3 ⟨rfl, rfl⟩))
        go_ret
        exact ⟨rfl, hD.bel⟩
      · have Ht := hide ht
        have HR2 : Hid ((∀ k, k < xs.length → inB (xs.getD k 0) 0 2000 = true) → (cnt (isBusy L xs t) xs.length : Int) = R) := fun h => by
          rw [← HR.out]; unfold busyV; rw [fit_yes hp hle h, ht]; rfl
        have HR3 : Hid (∀ k, k < xs.length → inB (xs.getD k 0) 0 2000 = false → R = -1) := fun k hk h => by
          rw [← HR.out]; unfold busyV; rw [fit_no hk h]; rfl
        clear hp hle ht HR
        go_enter Try.func74, Try.ntmps74
        go_upto_region 1 with fail
        generalize w.alloc (.cells #[.slice AL L.length cl, .slice AF F.length cf] 25) = W at hD hI ⊢
        have p0 := hD.c0
        have p1 := hD.c1
        go_upto_region 3 with (first
          | (go_at_call 48; go_fit (sProjectOk_c L F AL AF bl ol cl bf of' cf _ _ hll hlf (Nat.le_refl _) hD.rl hD.rf); rintro e w2 ⟨rfl, hb⟩; rw [Hp.out]; replace hI := (hI.below hb).more hb.size; replace hD := hD.below hb; clear p0 p1; have p0 := hD.c0; have p1 := hD.c1)
          | (go_at_call 57; go_fit (l1In_b Ht.out _); rintro e w3 ⟨rfl, h3⟩; have h4 := h3.symm; subst h4; clear h3))
        clear p0 p1
        go_wp2_with fail
        go_loopg [7, 8] xs.length (fun gh s7 s8 wr => ∃ k m : Nat, k ≤ xs.length ∧ gh = xs.length - k ∧ s8 = .int .i64 k ∧ s7 = .int .i64 m ∧ m ≤ k ∧ PJ w wr w.heap.size bl ol AL cl L bf of' AF cf F ∧ IntsR wr wr.heap.size bx ox AX xs ∧ Hid (cnt (isBusy L xs t) k = m ∧ ∀ i, i < k → inB (xs.getD i 0) 0 2000 = true))
        case atStart => exact ⟨0, 0, Nat.zero_le _, rfl, rfl, rfl, Nat.le_refl _, hD, hI, ⟨rfl, fun i hi => by omega⟩⟩
        case round =>
          clear hD hI
          obtain ⟨k, m, hk, rfl, rfl, rfl, hm, hD, hI, HA⟩ := hrel
          have p0 := hD.c0
          by_cases hlt : k < xs.length
          · have hlt' : (k : Int) < (xs.length : Int) := by omega
            have hkL : k < L.length := by have := Hle.out; omega
            have hkL' : (k : Int) < (L.length : Int) := by omega
            obtain rfl := hI.addr (by omega)
            obtain rfl := hD.rl.addr (by omega)
            have x0 := hI.cell k hlt
            have y0 := hD.rl.cell k hkL
            have hLk := long_at Hp.out hkL
            cases hin : inB (xs.getD k 0) 0 2000
            · obtain rfl := HR3.out k hlt hin
              generalize xs.getD k 0 = x at x0 hin
              have Hin := hide hin
              clear hin y0
              go_wp2_with (go_at_call 57; go_fit (l1In_b Hin.out _); rintro e w3 ⟨rfl, h3⟩; have h4 := h3.symm; subst h4; clear h3)
              go_ret
              exact ⟨rfl, hD.bel⟩
            · have hx := inB_iff.1 hin
              have HS : Hid (cnt (isBusy L xs t) (k + 1) = m + (if decide (0 ≤ xs.getD k 0 ∧ xs.getD k 0 ≤ t ∧ t < xs.getD k 0 + L.getD k 0) = true then 1 else 0)) := by unfold Hid; simp only [cnt]; rw [HA.out.1]; rfl
              have HN : Hid (∀ i, i < k + 1 → inB (xs.getD i 0) 0 2000 = true) := by
                intro i hi
                by_cases e : i = k
                · subst e; exact hin
                · exact HA.out.2 i (by omega)
              generalize xs.getD k 0 = x at x0 hin hx HS
              generalize L.getD k 0 = l at y0 hLk HS
              have Hin := hide hin
              have hws : IntKind.i64.wrap (x + l) = x + l := IntWalk.i64_in _ (by omega)
              clear hin
              go_upto_region 9 with (go_at_call 57; go_fit (l1In_b Hin.out _); rintro e w3 ⟨rfl, h3⟩; have h4 := h3.symm; subst h4; clear h3)
              by_cases c2 : x ≤ t
              · by_cases c3 : t < x + l
                · have HS2 : Hid (cnt (isBusy L xs t) (k + 1) = m + 1) := by unfold Hid; rw [HS.out, decide_eq_true ⟨hx.1, c2, c3⟩]; rfl
                  go_quiet (fail)
                  have hd : Below wr.heap.size wr (wr.drewN nq) := ⟨rfl, rfl, rfl, Nat.le_refl _, fun _ _ => rfl⟩
                  replace hD := hD.below hd
                  replace hI := (hI.below hd).more hd.size
                  clear p0 x0 y0 hd hws
                  go_wp2_with fail
                  go_roundg (xs.length - (k + 1))
                  case measure => go_light; omega
                  case rel => go_light; exact ⟨k + 1, m + 1, by omega, rfl, by go_num, by go_num, by omega, hD, hI, ⟨HS2.out, HN.out⟩⟩
                · have HS2 : Hid (cnt (isBusy L xs t) (k + 1) = m) := by unfold Hid; rw [HS.out, decide_eq_false (fun h => c3 h.2.2)]; rfl
                  go_quiet (fail)
                  have hd : Below wr.heap.size wr (wr.drewN nq) := ⟨rfl, rfl, rfl, Nat.le_refl _, fun _ _ => rfl⟩
                  replace hD := hD.below hd
                  replace hI := (hI.below hd).more hd.size
                  clear p0 x0 y0 hd hws
                  go_wp2_with fail
                  go_roundg (xs.length - (k + 1))
                  case measure => go_light; omega
                  case rel => go_light; exact ⟨k + 1, m, by omega, rfl, by go_num, rfl, by omega, hD, hI, ⟨HS2.out, HN.out⟩⟩
              · have HS2 : Hid (cnt (isBusy L xs t) (k + 1) = m) := by unfold Hid; rw [HS.out, decide_eq_false (fun h => c2 h.2.1)]; rfl
                have hd2 : decide (x ≤ t) = false := by simpa using c2
                go_quiet (fail)
                have hd : Below wr.heap.size wr (wr.drewN nq) := ⟨rfl, rfl, rfl, Nat.le_refl _, fun _ _ => rfl⟩
                replace hD := hD.below hd
                replace hI := (hI.below hd).more hd.size
                clear p0 x0 y0 hd hws
                go_wp2_with fail
                go_roundg (xs.length - (k + 1))
                case measure => go_light; omega
                case rel => go_light; exact ⟨k + 1, m, by omega, rfl, by go_num, rfl, by omega, hD, hI, ⟨HS2.out, HN.out⟩⟩
          · have hke : k = xs.length := by omega
            have hRm : (m : Int) = R := by rw [← HR2.out (fun i hi => HA.out.2 i (by omega)), ← hke, HA.out.1]
            have hlt' : ¬ (k : Int) < (xs.length : Int) := by omega
            clear hke
            obtain rfl := hRm
            go_wp2_with fail
            go_ret
            exact ⟨rfl, hD.bel⟩
    · obtain rfl : -1 = R := by rw [← HR.out]; unfold busyV fitB; rw [decide_eq_false hle]; simp
      have hlez : ((xs.length : Int) != (L.length : Int)) = true := by simp; omega
      clear hp
      go_enter Try.func74, Try.ntmps74
      go_upto_region 1 with fail
      generalize w.alloc (.cells #[.slice AL L.length cl, .slice AF F.length cf] 25) = W at hD hI ⊢
      have p0 := hD.c0
      have p1 := hD.c1
      go_wp2_with (go_at_call 48; go_fit (sProjectOk_c L F AL AF bl ol cl bf of' cf _ _ hll hlf (Nat.le_refl _) hD.rl hD.rf); rintro e w2 ⟨rfl, hb⟩; rw [Hp.out]; replace hD := hD.below hb; clear p0 p1; have p0 := hD.c0; have p1 := hD.c1)
      go_ret
      exact ⟨rfl, hD.bel⟩

theorem sBusy_no {L F xs : List Int} (hp : fitB L F xs = false) (t : Int) : busyV L F xs t = -1 := by unfold busyV; rw [hp]; rfl
theorem sBusy_yes {L F xs : List Int} (hp : fitB L F xs = true) {t : Int} (ht : 0 ≤ t ∧ t ≤ 2000) : busyV L F xs t = (busyN L xs t : Int) := by unfold busyV; rw [hp, inB_iff.2 ht]; rfl
set_option maxHeartbeats 2000000 in
set_option maxRecDepth 100000 in
theorem sEndOf_c (L F xs : List Int) (AL AF AX : Option Addr) (bl ol cl bf of' cf bx ox cx B : Nat) (w : World) (hll : L.length ≤ 2000000) (hlf : F.length ≤ 2000000) (hlx : xs.length ≤ 2000000) (hB : B ≤ w.heap.size) (hl : IntsR w B bl ol AL L) (hf : IntsR w B bf of' AF F) (hX : IntsR w B bx ox AX xs) :
    Calls Try.prog 77 #[.agg #[.slice AL L.length cl, .slice AF F.length cf], .slice AX xs.length cx] w fun e w' => e = .returned (.int .i64 (if fitB L F xs then endOf L xs else -1)) ∧ Below w.heap.size w w' := by
  have hD := pj_new (t := 25) (cl := cl) (cf := cf) hB hl hf
  have hI := (hX.below (hD.bel.mono hB)).more (Nat.le_trans hB hD.bel.size)
  clear hl hf hB hX
  cases hp : fitB L F xs
  · have Hb := hide (sBusy_no hp 0)
    clear hp
    go_enter Try.func77, Try.ntmps77
    go_upto_region 1 with fail
    generalize w.alloc (.cells #[.slice AL L.length cl, .slice AF F.length cf] 25) = W at hD hI ⊢
    have p0 := hD.c0
    have p1 := hD.c1
    go_wp2_with (go_at_call 74; go_fit (sBusyAt_c L F xs 0 AL AF AX bl ol cl bf of' cf bx ox cx _ _ hll hlf hlx (Nat.le_refl _) hD.rl hD.rf hI); rintro e w2 ⟨rfl, hb⟩; rw [Hb.out]; replace hD := hD.below hb; clear p0 p1; have p0 := hD.c0; have p1 := hD.c1)
    go_ret
    exact ⟨rfl, hD.bel⟩
  · have Hal := hide (fit_all hp)
    have hxl := (fitB_iff.1 hp).2.1
    have hx6 : xs.length ≤ 6 := by have := (projOk_iff.1 (fitB_iff.1 hp).1).1; omega
    obtain ⟨M, hM⟩ : ∃ M, busyN L xs 0 = M := ⟨_, rfl⟩
    have Hb : Hid (busyV L F xs 0 = (M : Int)) := by unfold Hid; rw [← hM]; exact sBusy_yes hp (by omega)
    have Hxl := hide hxl
    obtain ⟨R, hR⟩ : ∃ R, endOf L xs = R := ⟨_, rfl⟩
    have HR : Hid (endTo L xs xs.length = R) := by unfold Hid; rw [← hR, hxl]; rfl
    rw [if_pos rfl, hR]
    clear hp hxl hM hR
    go_enter Try.func77, Try.ntmps77
    go_upto_region 1 with fail
    generalize w.alloc (.cells #[.slice AL L.length cl, .slice AF F.length cf] 25) = W at hD hI ⊢
    have p0 := hD.c0
    have p1 := hD.c1
    go_upto_region 3 with (go_at_call 74; go_fit (sBusyAt_c L F xs 0 AL AF AX bl ol cl bf of' cf bx ox cx _ _ hll hlf hlx (Nat.le_refl _) hD.rl hD.rf hI); rintro e w2 ⟨rfl, hb⟩; rw [Hb.out]; replace hI := (hI.below hb).more hb.size; replace hD := hD.below hb; clear p0 p1; have p0 := hD.c0; have p1 := hD.c1)
    clear p0 p1
    go_wp2_with fail
    go_loopg [5, 6] xs.length (fun gh s5 s6 wr => ∃ (k : Nat) (m : Int), k ≤ xs.length ∧ gh = xs.length - k ∧ s6 = .int .i64 k ∧ s5 = .int .i64 m ∧ (0 ≤ m ∧ m ≤ 10100) ∧ Hid (endTo L xs k = m) ∧ PJ w wr w.heap.size bl ol AL cl L bf of' AF cf F ∧ IntsR wr wr.heap.size bx ox AX xs)
    case atStart => exact ⟨0, 0, Nat.zero_le _, rfl, rfl, rfl, by omega, rfl, hD, hI⟩
    case round =>
      clear hD hI
      obtain ⟨k, m, hk, rfl, rfl, rfl, hm, HE, hD, hI⟩ := hrel
      have p0 := hD.c0
      by_cases hlt : k < xs.length
      · have hlt' : (k : Int) < (xs.length : Int) := by omega
        have hkL : k < L.length := by have := Hxl.out; omega
        have hkL' : (k : Int) < (L.length : Int) := by omega
        obtain rfl := hI.addr (by omega)
        obtain rfl := hD.rl.addr (by omega)
        have x0 := hI.cell k hlt
        have y0 := hD.rl.cell k hkL
        have hbk := Hal.out k hkL
        have HS : Hid (endTo L xs (k + 1) = max m (xs.getD k 0 + L.getD k 0)) := by unfold Hid; simp only [endTo]; rw [HE.out]
        generalize xs.getD k 0 = x at x0 hbk HS
        generalize L.getD k 0 = l at y0 hbk HS
        obtain ⟨⟨l0, l1⟩, ⟨z0, z1⟩⟩ := hbk
        have hws : IntKind.i64.wrap (x + l) = x + l := IntWalk.i64_in _ (by omega)
        obtain ⟨mv, hmv⟩ : ∃ mv, max m (x + l) = mv := ⟨_, rfl⟩
        have hm1 : (if m < x + l then x + l else m) = mv := by rw [← hmv]; split <;> omega
        have hm2 : (if x + l < m then m else x + l) = mv := by rw [← hmv]; split <;> omega
        have hmb : 0 ≤ mv ∧ mv ≤ 10100 := by omega
        rw [hmv] at HS
        clear hmv
        go_upto_region 7 with fail
        go_quiet (fail)
        have hd : Below wr.heap.size wr (wr.drewN nq) := ⟨rfl, rfl, rfl, Nat.le_refl _, fun _ _ => rfl⟩
        replace hD := hD.below hd
        replace hI := (hI.below hd).more hd.size
        clear p0 x0 y0 hd hws hm1 hm2
        go_wp2_with fail
        go_roundg (xs.length - (k + 1))
        case measure => go_light; omega
        case rel => go_light; exact ⟨k + 1, mv, by omega, rfl, by go_num, rfl, hmb, HS, hD, hI⟩
      · have hke : k = xs.length := by omega
        obtain rfl : m = R := by rw [← HE.out, hke]; exact HR.out
        have hlt' : ¬ (k : Int) < (xs.length : Int) := by omega
        clear hke
        go_wp2_with fail
        go_ret
        exact ⟨rfl, hD.bel⟩

set_option maxHeartbeats 4000000 in
set_option maxRecDepth 100000 in
theorem sBeginsOk_c (L F xs : List Int) (h : Int) (AL AF AX : Option Addr) (bl ol cl bf of' cf bx ox cx B : Nat) (w : World) (hll : L.length ≤ 2000000) (hlf : F.length ≤ 2000000) (hlx : xs.length ≤ 2000000) (hB : B ≤ w.heap.size) (hl : IntsR w B bl ol AL L) (hf : IntsR w B bf of' AF F) (hX : IntsR w B bx ox AX xs) :
    Calls Try.prog 35 #[.agg #[.slice AL L.length cl, .slice AF F.length cf], .int .i64 h, .slice AX xs.length cx] w fun e w' => e = .returned (.bool (beginsOk L F h xs)) ∧ Below w.heap.size w w' := by
  obtain ⟨r, Hr⟩ : ∃ r, Hid (beginsOk L F h xs = r) := ⟨_, rfl⟩
  rw [Hr.out]
  have hD := pj_new (t := 25) (cl := cl) (cf := cf) hB hl hf
  have hI := (hX.below (hD.bel.mono hB)).more (Nat.le_trans hB hD.bel.size)
  clear hl hf hB hX
  cases hp : fitB L F xs
  · obtain rfl : r = false := by rw [← Hr.out, beginsOk_eq, hp]; rfl
    have Hb := hide (sBusy_no hp 0)
    clear hp
    go_enter Try.func35, Try.ntmps35
    go_upto_region 1 with fail
    generalize w.alloc (.cells #[.slice AL L.length cl, .slice AF F.length cf] 25) = W at hD hI ⊢
    have p0 := hD.c0
    have p1 := hD.c1
    go_wp2_with (go_at_call 74; go_fit (sBusyAt_c L F xs 0 AL AF AX bl ol cl bf of' cf bx ox cx _ _ hll hlf hlx (Nat.le_refl _) hD.rl hD.rf hI); rintro e w2 ⟨rfl, hb⟩; rw [Hb.out]; replace hD := hD.below hb; clear p0 p1; have p0 := hD.c0; have p1 := hD.c1)
    go_ret
    exact ⟨rfl, hD.bel⟩
  · obtain ⟨M, hM⟩ : ∃ M, busyN L xs 0 = M := ⟨_, rfl⟩
    have Hb : Hid (busyV L F xs 0 = (M : Int)) := by unfold Hid; rw [← hM]; exact sBusy_yes hp (by omega)
    cases hh : inB h 1 3
    · obtain rfl : r = false := by rw [← Hr.out, beginsOk_eq, hp, hh]; rfl
      have Hh := hide hh
      clear hp hh hM
      go_enter Try.func35, Try.ntmps35
      go_upto_region 1 with fail
      generalize w.alloc (.cells #[.slice AL L.length cl, .slice AF F.length cf] 25) = W at hD hI ⊢
      have p0 := hD.c0
      have p1 := hD.c1
      go_wp2_with (first
        | (go_at_call 74; go_fit (sBusyAt_c L F xs 0 AL AF AX bl ol cl bf of' cf bx ox cx _ _ hll hlf hlx (Nat.le_refl _) hD.rl hD.rf hI); rintro e w2 ⟨rfl, hb⟩; rw [Hb.out]; replace hD := hD.below hb; clear p0 p1; have p0 := hD.c0; have p1 := hD.c1)
        | (go_at_call 57; go_fit (l1In_b Hh.out _); rintro e w3 ⟨rfl, rfl⟩))
      go_ret
      exact ⟨rfl, hD.bel⟩
    · have Hal := hide (fit_all hp)
      have Hok := hide (fitB_iff.1 hp).1
      have Hxl := hide (fitB_iff.1 hp).2.1
      have Hle := hide (projOk_iff.1 (fitB_iff.1 hp).1).2.1
      have hx6 : xs.length ≤ 6 := by have := (projOk_iff.1 Hok.out).1; have := Hxl.out; omega
      have Hre : Hid ((List.range xs.length).all (bokAt L F h xs) = r) := by unfold Hid; rw [← Hr.out, beginsOk_eq, hp, hh]; rfl
      have Hp := hide hp
      have Hh := hide hh
      clear hp hh Hr hM
      go_enter Try.func35, Try.ntmps35
      go_upto_region 1 with fail
      generalize w.alloc (.cells #[.slice AL L.length cl, .slice AF F.length cf] 25) = W at hD hI ⊢
      have p0 := hD.c0
      have p1 := hD.c1
      go_upto_region 3 with (first
        | (go_at_call 74; go_fit (sBusyAt_c L F xs 0 AL AF AX bl ol cl bf of' cf bx ox cx _ _ hll hlf hlx (Nat.le_refl _) hD.rl hD.rf hI); rintro e w2 ⟨rfl, hb⟩; rw [Hb.out]; replace hI := (hI.below hb).more hb.size; replace hD := hD.below hb; clear p0 p1; have p0 := hD.c0; have p1 := hD.c1)
        | (go_at_call 57; go_fit (l1In_b Hh.out _); rintro e w3 ⟨rfl, h3⟩; have h4 := h3.symm; subst h4; clear h3))
      clear p0 p1
      go_wp2_with fail
      go_loopg [7] xs.length (fun gh s wr => ∃ i : Nat, i ≤ xs.length ∧ gh = xs.length - i ∧ s = .int .i64 i ∧ PJ w wr w.heap.size bl ol AL cl L bf of' AF cf F ∧ IntsR wr wr.heap.size bx ox AX xs ∧ Hid (∀ j, j < i → bokAt L F h xs j = true))
      case atStart => exact ⟨0, Nat.zero_le _, rfl, rfl, hD, hI, fun j hj => by omega⟩
      case round =>
        clear hD hI
        obtain ⟨i, hi, rfl, rfl, hD, hI, HA⟩ := hrel
        by_cases hlt : i < xs.length
        · have hlt' : (i : Int) < (xs.length : Int) := by omega
          have hiL : i < L.length := by have := Hxl.out; omega
          have hiF : i < F.length := by have := Hle.out; omega
          have hiF' : (i : Int) < (F.length : Int) := by omega
          obtain rfl := hI.addr (by omega)
          have hxm : inB (xs.getD i 0) 0 2000 = true := by
            have := (fitB_iff.1 Hp.out).2.2 (xs.getD i 0) (by rw [List.getD_eq_getElem?_getD, List.getElem?_eq_getElem hlt]; exact List.getElem_mem _)
            exact inB_iff.2 this
          have hxb := inB_iff.1 hxm
          have hbits := proj_bits Hok.out hiF
          obtain ⟨v, hv⟩ : ∃ v, xs.getD i 0 = v := ⟨_, rfl⟩
          obtain ⟨u, hu⟩ : ∃ u, F.getD i 0 = u := ⟨_, rfl⟩
          rw [hv] at hxb
          rw [hu] at hbits
          have Hv := hide hv
          have Hu := hide hu
          clear hv hxm hu
          go_wp2_with fail
          go_loopg [8] i (fun gh s wi => ∃ k : Nat, k ≤ i ∧ gh = i - k ∧ s = .int .i64 k ∧ PJ w wi w.heap.size bl ol AL cl L bf of' AF cf F ∧ IntsR wi wi.heap.size bx ox (some ⟨bx, ox, none⟩) xs ∧ Hid (∀ j, j < k → preAt L F xs i j = true))
          case atStart => exact ⟨0, Nat.zero_le _, rfl, rfl, hD, hI, fun j hj => by omega⟩
          case round =>
            clear hD hI
            obtain ⟨k, hk, rfl, rfl, hD, hI, HB⟩ := hrel
            have p0 := hD.c0
            have p1 := hD.c1
            by_cases hki : k < i
            · have hki' : (k : Int) < (i : Int) := by omega
              have hkx : (k : Int) < (xs.length : Int) := by omega
              have hkL : (k : Int) < (L.length : Int) := by omega
              have hk0 : ¬ (k : Int) < 0 := by omega
              have hk64 : (k : Int) < 64 := by omega
              obtain rfl := hD.rl.addr (by omega)
              obtain rfl := hD.rf.addr (by omega)
              have y0 := hD.rl.cell k (by omega)
              have x0 := hI.cell k (by omega)
              have v0 := hI.cell i hlt
              have u0 := hD.rf.cell i hiF
              rw [Hv.out] at v0
              rw [Hu.out] at u0
              have hbk := Hal.out k (by omega)
              have HP : Hid (preAt L F xs i k = (!decide (u / 2 ^ k % 2 = 1) || decide (xs.getD k 0 + L.getD k 0 ≤ v))) := by unfold Hid preAt aft; rw [Hv.out, Hu.out]
              generalize xs.getD k 0 = x at x0 hbk HP
              generalize L.getD k 0 = l at y0 hbk HP
              obtain ⟨⟨l0, l1⟩, ⟨z0, z1⟩⟩ := hbk
              have hws : IntKind.i64.wrap (x + l) = x + l := IntWalk.i64_in _ (by omega)
              have hd0 : 0 ≤ u / 2 ^ k := Int.ediv_nonneg hbits.1 (Int.le_of_lt (Int.pow_pos (by omega)))
              have hrem : (u / 2 ^ k).tmod 2 = u / 2 ^ k % 2 := Int.tmod_eq_emod_of_nonneg hd0
              obtain ⟨b, hb⟩ : ∃ b, u / 2 ^ k % 2 = b := ⟨_, rfl⟩
              rw [hb] at hrem HP
              clear hb
              by_cases ha : b = 1
              · subst ha
                go_upto_region 9 with fail
                by_cases hc : v < x + l
                · obtain rfl : r = false := by
                    rw [← Hre.out]
                    refine range_no hlt ?_
                    unfold bokAt
                    rw [range_no hki (by rw [HP.out, decide_eq_false (show ¬ x + l ≤ v by omega)]; rfl)]; rfl
                  go_quiet (fail)
                  have hd : Below wr.heap.size wr (wr.drewN nq) := ⟨rfl, rfl, rfl, Nat.le_refl _, fun _ _ => rfl⟩
                  replace hD := hD.below hd
                  replace hI := (hI.below hd).more hd.size
                  clear p0 p1 x0 y0 v0 u0 hd hws hrem
                  go_wp2_with fail
                  go_ret
                  exact ⟨rfl, hD.bel⟩
                · have HN : Hid (∀ j, j < k + 1 → preAt L F xs i j = true) := by
                    intro j hj
                    by_cases e : j = k
                    · subst e; rw [HP.out, decide_eq_true (show x + l ≤ v by omega)]; rfl
                    · exact HB.out j (by omega)
                  go_quiet (fail)
                  have hd : Below wr.heap.size wr (wr.drewN nq) := ⟨rfl, rfl, rfl, Nat.le_refl _, fun _ _ => rfl⟩
                  replace hD := hD.below hd
                  replace hI := (hI.below hd).more hd.size
                  clear p0 p1 x0 y0 v0 u0 hd hws hrem
                  go_wp2_with fail
                  go_roundg (i - (k + 1))
                  case measure => go_light; omega
                  case rel => go_light; exact ⟨k + 1, by omega, rfl, by go_num, hD, hI, HN⟩
              · have HN : Hid (∀ j, j < k + 1 → preAt L F xs i j = true) := by
                  intro j hj
                  by_cases e : j = k
                  · subst e; rw [HP.out, decide_eq_false ha]; rfl
                  · exact HB.out j (by omega)
                have hab : (b == 1) = false := by simpa using ha
                go_upto_region 9 with fail
                go_quiet (fail)
                have hd : Below wr.heap.size wr (wr.drewN nq) := ⟨rfl, rfl, rfl, Nat.le_refl _, fun _ _ => rfl⟩
                replace hD := hD.below hd
                replace hI := (hI.below hd).more hd.size
                clear p0 p1 x0 y0 v0 u0 hd hws hrem
                go_wp2_with fail
                go_roundg (i - (k + 1))
                case measure => go_light; omega
                case rel => go_light; exact ⟨k + 1, by omega, rfl, by go_num, hD, hI, HN⟩
            · have hki' : ¬ (k : Int) < (i : Int) := by omega
              have HQ : Hid ((List.range i).all (preAt L F xs i) = true) := range_all (fun j hj => HB.out j (by omega))
              have HO : Hid (bokAt L F h xs i = decide ((busyN L xs v : Int) ≤ h)) := by unfold Hid bokAt; rw [HQ.out, Hv.out]; rfl
              obtain ⟨m, hm⟩ : ∃ m, busyN L xs v = m := ⟨_, rfl⟩
              rw [hm] at HO
              have Hm : Hid (busyV L F xs v = (m : Int)) := by unfold Hid; rw [← hm]; exact sBusy_yes Hp.out hxb
              clear hm
              have v0 := hI.cell i hlt
              rw [Hv.out] at v0
              have hbx : bx < wr.drew.heap.size := by have := hI.lt (by omega); simpa using this
              go_upto_region 11 with fail
              have hDd := hD.drew
              have hId := (hI.below (show Below wr.heap.size wr wr.drew by go_grown)).more (show wr.heap.size ≤ wr.drew.heap.size by simp)
              have hS0 : wr.drew.cell? ⟨w.heap.size, 0, none⟩ = some (.slice AL L.length cl) ∧ wr.drew.cell? ⟨w.heap.size, 1, none⟩ = some (.slice AF F.length cf) ∧ wr.drew.cell? ⟨bx, ox + i, none⟩ = some (.int .i64 v) := ⟨p0, p1, v0⟩
              refine wp_regionE (fun w' => w'.cell? ⟨w.heap.size, 0, none⟩ = some (.slice AL L.length cl) ∧ w'.cell? ⟨w.heap.size, 1, none⟩ = some (.slice AF F.length cf) ∧ w'.cell? ⟨bx, ox + i, none⟩ = some (.int .i64 v)) 8 (by kernel_rfl) ?_
              change wpE _ _ _ _ _ _ 9 #[false, false, false, false, false, false, false, false, false] _ _
              refine wpE_take' (v := ?_) 0 [6, 8] (of_decide_eq_true (by kernel_rfl)) (by kernel_rfl) (by kernel_rfl) (by kernel_rfl) (by kernel_rfl) (fun _ _ _ h => h) (by kernel_rfl) ?_ hS0 ?_
              rotate_left
              · intro w' hSw
                simp only [List.getElem_toArray, List.getElem_cons_succ, List.getElem_cons_zero]
                go_simp
                all_goals with_reducible rfl
              simp only [List.getElem_toArray, List.getElem_cons_succ, List.getElem_cons_zero, Act.put, List.setIfInBounds_toArray, List.set_cons_zero, List.set_cons_succ]
              refine wpE_take' (v := ?_) 1 [6, 8] (of_decide_eq_true (by kernel_rfl)) (by kernel_rfl) (by kernel_rfl) (by kernel_rfl) (by kernel_rfl) (fun _ _ _ h => h) (by kernel_rfl) ?_ hS0 ?_
              rotate_left
              · intro w' hSw
                simp only [List.getElem_toArray, List.getElem_cons_succ, List.getElem_cons_zero]
                go_simp
                all_goals with_reducible rfl
              simp only [List.getElem_toArray, List.getElem_cons_succ, List.getElem_cons_zero, Act.put, List.setIfInBounds_toArray, List.set_cons_zero, List.set_cons_succ]
              refine wpE_take' (v := ?_) 2 [4, 5, 6, 8] (of_decide_eq_true (by kernel_rfl)) (by kernel_rfl) (by kernel_rfl) (by kernel_rfl) (by kernel_rfl) (fun _ _ _ h => h) (by kernel_rfl) ?_ hS0 ?_
              rotate_left
              · intro w' hSw
                simp only [List.getElem_toArray, List.getElem_cons_succ, List.getElem_cons_zero]
                go_simp
                all_goals with_reducible rfl
              simp only [List.getElem_toArray, List.getElem_cons_succ, List.getElem_cons_zero, Act.put, List.setIfInBounds_toArray, List.set_cons_zero, List.set_cons_succ]
              refine wpE_take' (v := ?_) 3 [4, 5, 6, 8] (of_decide_eq_true (by kernel_rfl)) (by kernel_rfl) (by kernel_rfl) (by kernel_rfl) (by kernel_rfl) (fun _ _ _ h => h) (by kernel_rfl) ?_ hS0 ?_
              rotate_left
              · intro w' hSw
                simp only [List.getElem_toArray, List.getElem_cons_succ, List.getElem_cons_zero]
                go_simp
                all_goals with_reducible rfl
              simp only [List.getElem_toArray, List.getElem_cons_succ, List.getElem_cons_zero, Act.put, List.setIfInBounds_toArray, List.set_cons_zero, List.set_cons_succ]
              refine wpE_take' (v := ?_) 4 [5, 6, 8] (of_decide_eq_true (by kernel_rfl)) (by kernel_rfl) (by kernel_rfl) (by kernel_rfl) (by kernel_rfl) (fun _ _ _ h => h) (by kernel_rfl) ?_ hS0 ?_
              rotate_left
              · intro w' hSw
                simp only [List.getElem_toArray, List.getElem_cons_succ, List.getElem_cons_zero]
                go_simp
                all_goals with_reducible rfl
              simp only [List.getElem_toArray, List.getElem_cons_succ, List.getElem_cons_zero, Act.put, List.setIfInBounds_toArray, List.set_cons_zero, List.set_cons_succ]
              refine wpE_take' (v := ?_) 5 [6, 8] (of_decide_eq_true (by kernel_rfl)) (by kernel_rfl) (by kernel_rfl) (by kernel_rfl) (by kernel_rfl) (fun _ _ _ h => h) (by kernel_rfl) ?_ hS0 ?_
              rotate_left
              · intro w' hSw
                simp only [List.getElem_toArray, List.getElem_cons_succ, List.getElem_cons_zero]
                go_simp
                all_goals with_reducible rfl
              simp only [List.getElem_toArray, List.getElem_cons_succ, List.getElem_cons_zero, Act.put, List.setIfInBounds_toArray, List.set_cons_zero, List.set_cons_succ]
              refine wpE_take' (v := ?_) 7 [8] (of_decide_eq_true (by kernel_rfl)) (by kernel_rfl) (by kernel_rfl) (by kernel_rfl) (by kernel_rfl) (fun _ _ _ h => h) (by kernel_rfl) ?_ hS0 ?_
              rotate_left
              · intro w' hSw
                simp only [List.getElem_toArray, List.getElem_cons_succ, List.getElem_cons_zero]
                go_simp
                all_goals with_reducible rfl
              simp only [List.getElem_toArray, List.getElem_cons_succ, List.getElem_cons_zero, Act.put, List.setIfInBounds_toArray, List.set_cons_zero, List.set_cons_succ]
              refine wpE_step' 6 (of_decide_eq_true (by kernel_rfl)) (by kernel_rfl) (by kernel_rfl) (fun K hK => ?_)
              simp only [List.getElem_toArray, List.getElem_cons_succ, List.getElem_cons_zero]
              go_simp
              go_at_call 74
              refine (sBusyAt_c L F xs v AL AF _ bl ol cl bf of' cf bx ox cx _ _ hll hlf hlx (Nat.le_refl _) hDd.rl hDd.rf hId).mono ?_
              rintro e w5 ⟨rfl, hb5⟩
              rw [Hm.out]
              have hD5 := hDd.below hb5
              have hI5 := (hId.below hb5).more hb5.size
              refine hK.out _ _ (.inr ⟨hD5.c0, hD5.c1, ((bcell hb5).1 _ _ hbx).trans v0⟩) ?_
              clear hK K hS0
              simp only [Act.put, List.setIfInBounds_toArray, List.set_cons_zero, List.set_cons_succ]
              refine wpE_step' 8 (of_decide_eq_true (by kernel_rfl)) (by kernel_rfl) (by kernel_rfl) (fun K hK => ?_)
              simp only [List.getElem_toArray, List.getElem_cons_succ, List.getElem_cons_zero]
              go_simp
              refine hK.out _ _ (.inl rfl) ?_
              clear hK K
              simp only [Act.put, List.setIfInBounds_toArray, List.set_cons_zero, List.set_cons_succ]
              refine wpE_done (by kernel_rfl) ?_ _
              clear p0 p1 v0 hDd hId hbx
              by_cases hc : (m : Int) ≤ h
              · have HN : Hid (∀ j, j < i + 1 → bokAt L F h xs j = true) := by
                  intro j hj
                  by_cases e : j = i
                  · subst e; rw [HO.out, decide_eq_true hc]
                  · exact HA.out j (by omega)
                have hc2 : ¬ h < (m : Int) := by omega
                go_wp2_with fail
                go_roundg (xs.length - (i + 1))
                case measure => go_light; omega
                case rel => go_light; exact ⟨i + 1, by omega, rfl, by go_num, hD5, hI5, HN⟩
              · obtain rfl : r = false := by
                  rw [← Hre.out]
                  exact range_no hlt (by rw [HO.out, decide_eq_false hc])
                have hc2 : h < (m : Int) := by omega
                go_wp2_with fail
                go_ret
                exact ⟨rfl, hD5.bel⟩
        · obtain rfl : r = true := by
            rw [← Hre.out]
            exact range_all (fun j hj => HA.out j (by omega))
          have hlt' : ¬ (i : Int) < (xs.length : Int) := by omega
          go_wp2_with fail
          go_ret
          exact ⟨rfl, hD.bel⟩
end Go.Proofs.Ytmgikoaeomieeaa
