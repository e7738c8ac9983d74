/-
  spec: idle hands.
-/
import Derived.Test.YtmgikoaeomieeaaS70
import Derived.Test.YtmgikoaeomieeaaL73
namespace Go.Proofs.Ytmgikoaeomieeaa
set_option linter.unusedVariables false
set_option linter.unusedSimpArgs false
open Go.RowKit Pp

set_option maxHeartbeats 2000000 in
set_option maxRecDepth 100000 in
theorem sIdleOf_c (L F xs : List Int) (h : Int) (AL AF AX : Option Addr) (bl ol cl bf of' cf bx ox cx B : Nat) (w : World) (hll : L.length ≤ 2000000) (hlf : F.length ≤ 2000000) (hlx : xs.length ≤ 2000000) (hB : B ≤ w.heap.size) (hl : IntsR w B bl ol AL L) (hf : IntsR w B bf of' AF F) (hX : IntsR w B bx ox AX xs) :
    Calls Try.prog 41 #[.agg #[.slice AL L.length cl, .slice AF F.length cf], .int .i64 h, .slice AX xs.length cx] w fun e w' => e = .returned (.int .i64 (idleV L F h xs)) ∧ Below w.heap.size w w' := by
  have hD := pj_new (t := 25) (cl := cl) (cf := cf) hB hl hf
  have hI := (hX.below (hD.bel.mono hB)).more (Nat.le_trans hB hD.bel.size)
  obtain ⟨R, hR⟩ : ∃ R, idleV L F h xs = R := ⟨_, rfl⟩
  rw [hR]
  have HR := hide hR
  clear hl hf hB hX hR
  cases hp : beginsOk L F h xs
  · obtain rfl : -1 = R := by rw [← HR.out]; unfold idleV; rw [hp]; rfl
    have Hp := hide hp
    clear hp
    go_enter Try.func41, Try.ntmps41
    go_upto_region 1 with fail
    generalize w.alloc (.cells #[.slice AL L.length cl, .slice AF F.length cf] 25) = W at hD hI ⊢
    have p0 := hD.c0
    have p1 := hD.c1
    go_wp2_with (go_at_call 35; go_fit (sBeginsOk_c L F xs h AL AF AX bl ol cl bf of' cf bx ox cx _ _ hll hlf hlx (Nat.le_refl _) hD.rl hD.rf hI); rintro e w2 ⟨rfl, hb⟩; rw [Hp.out]; replace hD := hD.below hb; clear p0 p1; have p0 := hD.c0; have p1 := hD.c1)
    go_ret
    exact ⟨rfl, hD.bel⟩
  · obtain ⟨hpo, hxl, hxv, hh, _⟩ := beginsOk_iff.1 hp
    have hfit : fitB L F xs = true := fitB_iff.2 ⟨hpo, hxl, hxv⟩
    have Hal := hide (fit_all hfit)
    have h6 := (projOk_iff.1 hpo).1
    obtain ⟨E, hE⟩ : ∃ E, endOf L xs = E := ⟨_, rfl⟩
    have hE0 : 0 ≤ E ∧ E ≤ 2020 := by
      rw [← hE]
      refine ⟨endTo_nonneg _ _ _, endTo_le (by omega) (fun k hk => ?_)⟩
      have h1 := long_at hpo hk
      have h2 := hxv (xs.getD k 0) (by rw [List.getD_eq_getElem?_getD, List.getElem?_eq_getElem (show k < xs.length by omega)]; exact List.getElem_mem _)
      omega
    have HR2 : Hid (h * E - work L L.length = R) := by unfold Hid; rw [← HR.out]; unfold idleV; rw [hp, hE]; rfl
    have hhE : 0 ≤ h * E ∧ h * E ≤ 6060 := by
      obtain ⟨a, b⟩ := hh
      have : h = 1 ∨ h = 2 ∨ h = 3 := by omega
      rcases this with rfl | rfl | rfl <;> omega
    obtain ⟨hh1, hh3⟩ := hh
    obtain ⟨hE1, hE2⟩ := hE0
    have hwm : IntKind.i64.wrap (h * E) = h * E := IntWalk.i64_in _ (by omega)
    obtain ⟨M, hM⟩ : ∃ M, h * E = M := ⟨_, rfl⟩
    rw [hM] at hhE HR2 hwm
    have Hp := hide hp
    have HE := hide hE
    have HE3 : Hid ((if fitB L F xs then endOf L xs else -1) = E) := by unfold Hid; rw [hfit, hE]; rfl
    have Hpo := hide hpo
    have Hxl := hide hxl
    have HM := hide hM
    obtain ⟨hM1, hM2⟩ := hhE
    clear hp hE hpo hxl hxv hM HR hfit
    go_enter Try.func41, Try.ntmps41
    go_upto_region 1 with fail
    generalize w.alloc (.cells #[.slice AL L.length cl, .slice AF F.length cf] 25) = W at hD hI ⊢
    have p0 := hD.c0
    have p1 := hD.c1
    go_upto_region 4 with (first
      | (go_at_call 35; go_fit (sBeginsOk_c L F xs h AL AF AX bl ol cl bf of' cf bx ox cx _ _ hll hlf hlx (Nat.le_refl _) hD.rl hD.rf hI); rintro e w2 ⟨rfl, hb⟩; rw [Hp.out]; replace hI := (hI.below hb).more hb.size; replace hD := hD.below hb; clear p0 p1; have p0 := hD.c0; have p1 := hD.c1)
      | (go_at_call 77; go_fit (sEndOf_c L F xs AL AF AX bl ol cl bf of' cf bx ox cx _ _ hll hlf hlx (Nat.le_refl _) hD.rl hD.rf hI); rintro e w3 ⟨rfl, hb⟩; rw [HE3.out]; replace hD := hD.below hb; clear p0 p1; have p0 := hD.c0; have p1 := hD.c1))
    rw [HM.out, show wrap64 M = M from IntWalk.wrap64_in _ (by omega)]
    clear hI
    go_wp2_with fail
    go_loopg [7, 8] L.length (fun gh s7 s23 wr => ∃ (k : Nat) (v : Int), k ≤ L.length ∧ gh = L.length - k ∧ s23 = .int .i64 k ∧ s7 = .int .i64 v ∧ (-1000 ≤ v ∧ v ≤ 10000) ∧ Hid (v = M - work L k) ∧ PJ w wr w.heap.size bl ol AL cl L bf of' AF cf F)
    case atStart => exact ⟨0, M, Nat.zero_le _, rfl, rfl, rfl, by omega, by unfold Hid; simp [work], hD⟩
    case round =>
      clear hD p0 p1
      obtain ⟨k, v, hk, rfl, rfl, rfl, hv, HV, hD⟩ := hrel
      by_cases hlt : k < L.length
      · have hlt' : (k : Int) < (L.length : Int) := by omega
        have p0 := hD.c0
        obtain rfl := hD.rl.addr (by omega)
        have y0 := hD.rl.cell k hlt
        have hLk := long_at Hpo.out hlt
        have hwb := work_bound Hpo.out (show k + 1 ≤ L.length by omega)
        have HV2 : Hid (v - L.getD k 0 = M - work L (k + 1)) := by unfold Hid; rw [HV.out]; simp only [work]; omega
        have hb2 : -1000 ≤ v - L.getD k 0 ∧ v - L.getD k 0 ≤ 10000 := by rw [HV2.out]; omega
        generalize L.getD k 0 = l at y0 hLk HV2 hb2
        have hw1 : IntKind.i64.wrap (v - l) = v - l := IntWalk.i64_in _ (by omega)
        clear hwb
        go_wp2_with fail
        go_roundg (L.length - (k + 1))
        case measure => go_light; omega
        case rel => go_light; exact ⟨k + 1, v - l, by omega, rfl, by go_num, rfl, hb2, HV2, hD⟩
      · obtain rfl : k = L.length := by omega
        obtain rfl : v = R := by rw [HV.out, HR2.out]
        have hlt' : ¬ (L.length : Int) < (L.length : Int) := by omega
        have p0 := hD.c0
        go_wp2_with fail
        go_ret
        exact ⟨rfl, hD.bel⟩

end Go.Proofs.Ytmgikoaeomieeaa
