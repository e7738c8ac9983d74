/-
  impl: late begins; idle hands.
-/
import Derived.Test.YtmgikoaeomieeaaL69
namespace Go.Proofs.Ytmgikoaeomieeaa
set_option linter.unusedVariables false
set_option linter.unusedSimpArgs false
open Go.RowKit Pp

/-- What IdleOf returns. -/
def idleV (L F : List Int) (h : Int) (b : List Int) : Int := if beginsOk L F h b then h * endOf L b - work L L.length else -1
set_option maxHeartbeats 2000000 in
set_option maxRecDepth 100000 in
theorem idleOf_c (L F xs : List Int) (h : Int) (AL AF AX : Option Addr) (bl ol cl bf of' cf bx ox cx B : Nat) (w : World) (hll : L.length ≤ 2000000) (hlf : F.length ≤ 2000000) (hlx : xs.length ≤ 2000000) (hB : B ≤ w.heap.size) (hl : IntsR w B bl ol AL L) (hf : IntsR w B bf of' AF F) (hX : IntsR w B bx ox AX xs) :
    Calls Try.prog 40 #[.agg #[.slice AL L.length cl, .slice AF F.length cf], .int .i64 h, .slice AX xs.length cx] w fun e w' => e = .returned (.int .i64 (idleV L F h xs)) ∧ Below w.heap.size w w' := by
  have hD := pj_new (t := 25) (cl := cl) (cf := cf) hB hl hf
  have hI := (hX.below (hD.bel.mono hB)).more (Nat.le_trans hB hD.bel.size)
  obtain ⟨R, hR⟩ : ∃ R, idleV L F h xs = R := ⟨_, rfl⟩
  rw [hR]
  have HR := hide hR
  clear hl hf hB hX hR
  cases hp : beginsOk L F h xs
  · obtain rfl : -1 = R := by rw [← HR.out]; unfold idleV; rw [hp]; rfl
    have Hp := hide hp
    clear hp
    go_enter Try.func40, Try.ntmps40
    go_upto_region 1 with fail
    generalize w.alloc (.cells #[.slice AL L.length cl, .slice AF F.length cf] 25) = W at hD hI ⊢
    have p0 := hD.c0
    have p1 := hD.c1
    go_wp2_with (go_at_call 33; go_fit (beginsOk_c L F xs h AL AF AX bl ol cl bf of' cf bx ox cx _ _ hll hlf hlx (Nat.le_refl _) hD.rl hD.rf hI); rintro e w2 ⟨rfl, hb⟩; rw [Hp.out]; replace hD := hD.below hb; clear p0 p1; have p0 := hD.c0; have p1 := hD.c1)
    go_ret
    exact ⟨rfl, hD.bel⟩
  · obtain ⟨hpo, hxl, hxv, hh, _⟩ := beginsOk_iff.1 hp
    have hfit : fitB L F xs = true := fitB_iff.2 ⟨hpo, hxl, hxv⟩
    have Hal := hide (fit_all hfit)
    have h6 := (projOk_iff.1 hpo).1
    obtain ⟨E, hE⟩ : ∃ E, endOf L xs = E := ⟨_, rfl⟩
    have hE0 : 0 ≤ E ∧ E ≤ 2020 := by
      rw [← hE]
      refine ⟨endTo_nonneg _ _ _, endTo_le (by omega) (fun k hk => ?_)⟩
      have h1 := long_at hpo hk
      have h2 := hxv (xs.getD k 0) (by rw [List.getD_eq_getElem?_getD, List.getElem?_eq_getElem (show k < xs.length by omega)]; exact List.getElem_mem _)
      omega
    have HR2 : Hid (h * E - work L L.length = R) := by unfold Hid; rw [← HR.out]; unfold idleV; rw [hp, hE]; rfl
    have hhE : 0 ≤ h * E ∧ h * E ≤ 6060 := by
      obtain ⟨a, b⟩ := hh
      have : h = 1 ∨ h = 2 ∨ h = 3 := by omega
      rcases this with rfl | rfl | rfl <;> omega
    obtain ⟨hh1, hh3⟩ := hh
    obtain ⟨hE1, hE2⟩ := hE0
    have hwm : IntKind.i64.wrap (h * E) = h * E := IntWalk.i64_in _ (by omega)
    obtain ⟨M, hM⟩ : ∃ M, h * E = M := ⟨_, rfl⟩
    rw [hM] at hhE HR2 hwm
    have Hp := hide hp
    have HE := hide hE
    have Hpo := hide hpo
    have Hxl := hide hxl
    have HM := hide hM
    obtain ⟨hM1, hM2⟩ := hhE
    clear hp hE hpo hxl hxv hM HR hfit
    go_enter Try.func40, Try.ntmps40
    go_upto_region 1 with fail
    generalize w.alloc (.cells #[.slice AL L.length cl, .slice AF F.length cf] 25) = W at hD hI ⊢
    have p0 := hD.c0
    have p1 := hD.c1
    go_upto_region 4 with (first
      | (go_at_call 33; go_fit (beginsOk_c L F xs h AL AF AX bl ol cl bf of' cf bx ox cx _ _ hll hlf hlx (Nat.le_refl _) hD.rl hD.rf hI); rintro e w2 ⟨rfl, hb⟩; rw [Hp.out]; replace hI := (hI.below hb).more hb.size; replace hD := hD.below hb; clear p0 p1; have p0 := hD.c0; have p1 := hD.c1)
      | (go_at_call 52; go_fit (endX_c L F xs Hxl.out Hal.out AL AF AX bl ol cl bf of' cf bx ox cx _ _ hll (Nat.le_refl _) hD.rl hD.rf hI); rintro e w3 ⟨rfl, hb⟩; rw [HE.out]; replace hD := hD.below hb; clear p0 p1; have p0 := hD.c0; have p1 := hD.c1))
    rw [HM.out, show wrap64 M = M from IntWalk.wrap64_in _ (by omega)]
    clear hI
    go_wp2_with fail
    go_loopg [7, 23] L.length (fun gh s7 s23 wr => ∃ (k : Nat) (v : Int), k ≤ L.length ∧ gh = L.length - k ∧ s23 = .int .i64 k ∧ s7 = .int .i64 v ∧ (-1000 ≤ v ∧ v ≤ 10000) ∧ Hid (v = M - work L k) ∧ PJ w wr w.heap.size bl ol AL cl L bf of' AF cf F)
    case atStart => exact ⟨0, M, Nat.zero_le _, rfl, rfl, rfl, by omega, by unfold Hid; simp [work], hD⟩
    case round =>
      clear hD p0 p1
      obtain ⟨k, v, hk, rfl, rfl, rfl, hv, HV, hD⟩ := hrel
      by_cases hlt : k < L.length
      · have hlt' : (k : Int) < (L.length : Int) := by omega
        obtain rfl := hD.rl.addr (by omega)
        have y0 := hD.rl.cell k hlt
        have hLk := long_at Hpo.out hlt
        have hwb := work_bound Hpo.out (show k + 1 ≤ L.length by omega)
        have HV2 : Hid (v - L.getD k 0 = M - work L (k + 1)) := by unfold Hid; rw [HV.out]; simp only [work]; omega
        have hb2 : -1000 ≤ v - L.getD k 0 ∧ v - L.getD k 0 ≤ 10000 := by rw [HV2.out]; omega
        generalize L.getD k 0 = l at y0 hLk HV2 hb2
        have hw1 : IntKind.i64.wrap (v - l) = v - l := IntWalk.i64_in _ (by omega)
        clear hwb
        go_wp2_with fail
        go_roundg (L.length - (k + 1))
        case measure => go_light; omega
        case rel => go_light; exact ⟨k + 1, v - l, by omega, rfl, by go_num, rfl, hb2, HV2, hD⟩
      · obtain rfl : k = L.length := by omega
        obtain rfl : v = R := by rw [HV.out, HR2.out]
        have hlt' : ¬ (L.length : Int) < (L.length : Int) := by omega
        go_wp2_with fail
        go_ret
        exact ⟨rfl, hD.bel⟩

theorem lateTo_fin {L F : List Int} {c : Int} {m j : Nat} (hj : L.length - m ≤ j) (hm : m ≤ L.length) : ∀ d, m + d ≤ L.length → lateTo L F c (m + d) j = lateTo L F c m j
  | 0, _ => rfl
  | d + 1, hd => by
    rw [show m + (d + 1) = (m + d) + 1 by omega, lateTo_keep (by omega) (by omega), lateTo_fin hj hm d (by omega)]
theorem lateTo_is {L F : List Int} {m j : Nat} (hj : L.length - m ≤ j) (hm : m ≤ L.length) : lateTo L F (lenOf L F) m j = lateAt L F j := by
  have := lateTo_fin (F := F) (c := lenOf L F) hj hm (L.length - m) (by omega)
  rw [show m + (L.length - m) = L.length by omega] at this
  exact this.symm
theorem ltl_bound {L F : List Int} (hp : projOk L F = true) {m i d : Nat} (hm : i + 1 + m = L.length) (hd : d ≤ m) : 0 ≤ ltl L F (lateTo L F (lenOf L F) m) (lenOf L F) i d ∧ ltl L F (lateTo L F (lenOf L F) m) (lenOf L F) i d ≤ 120 := by
  have h0 := early_low (F := F) (show i < L.length by omega)
  have h1 := early_end (F := F) (show i < L.length by omega)
  have h2 : (Pp.early L F).getD i 0 ≤ ltl L F (lateTo L F (lenOf L F) m) (lenOf L F) i d := ltl_ge (by omega) (fun k hk1 hk2 ha => by
    rw [lateTo_is (by omega) (by omega)]
    have := early_after (L := L) (F := F) hk1 (by omega) ha
    have := late_early (F := F) (show k < L.length by omega)
    omega)
  have h3 : ltl L F (lateTo L F (lenOf L F) m) (lenOf L F) i d ≤ lenOf L F - L.getD i 0 := ltl_le
  have h4 := len_bound hp
  have h5 := long_at hp (show i < L.length by omega)
  have h6 := (projOk_iff.1 hp).1
  omega

set_option maxHeartbeats 4000000 in
set_option maxRecDepth 100000 in
theorem lateOf_q (L F : List Int) (hp : projOk L F = true) (AL AF : Option Addr) (bl ol cl bf of' cf B : Nat) (w : World) (hB : B ≤ w.heap.size) (hl : IntsR w B bl ol AL L) (hf : IntsR w B bf of' AF F) :
    Calls Try.prog 16 #[.agg #[.slice AL L.length cl, .slice AF F.length cf]] w fun e w' => ∃ g, e = .returned (.slice (some ⟨g, 0, none⟩) L.length L.length) ∧ w.heap.size ≤ g ∧ w'.rowIs g 3 L.length (fun j => .int .i64 (lateAt L F j)) ∧ Below w.heap.size w w' := by
  obtain ⟨h6, hle, hL20, hF⟩ := projOk_iff.1 hp
  have hmk := run_make_row' (P := Try.prog) 23 3 (.int .i64 0) 8 Try.underlying23 infoI rfl .i64 .i64 L.length (by omega) (by omega)
  have hD := pj_new (t := 25) (cl := cl) (cf := cf) hB hl hf
  have hlf : F.length ≤ 2000000 := by omega
  have hll : L.length ≤ 2000000 := by omega
  have hlen := len_low L F
  have hlenb := len_bound hp
  obtain ⟨C, hC⟩ : ∃ C, lenOf L F = C := ⟨_, rfl⟩
  rw [hC] at hlen hlenb
  have HC := hide hC
  have Hp := hide hp
  have Hle := hide hle
  clear hl hf hB hp hle hL20 hF hC
  go_enter Try.func16, Try.ntmps16
  go_upto_region 1 with fail
  generalize w.alloc (.cells #[.slice AL L.length cl, .slice AF F.length cf] 25) = W at hD ⊢
  have p0 := hD.c0
  have p1 := hD.c1
  go_upto_region 3 with (go_at_call 45; go_fit (projectOk_c L F AL AF bl ol cl bf of' cf _ _ hll hlf (Nat.le_refl _) hD.rl hD.rf); rintro e w2 ⟨rfl, hb⟩; rw [Hp.out]; replace hD := hD.below hb; clear p0 p1; have p0 := hD.c0; have p1 := hD.c1)
  go_upto_region 4 with fail
  have hrow0 := World.rowIs_made w2 (.int .i64 0) L.length 3
  have hW0 : Below w2.heap.size w2 (w2.alloc (.cells (madeCells #[.int .i64 0] L.length) 3)) := by go_grown
  generalize w2.alloc (.cells (madeCells #[.int .i64 0] L.length) 3) = W3 at hrow0 hW0 ⊢
  obtain ⟨g, hg⟩ : ∃ g, w2.heap.size = g := ⟨_, rfl⟩
  rw [hg] at hrow0 ⊢
  have hgW : w2.heap.size ≤ g := by omega
  have hgw : w.heap.size ≤ g := by have := hD.bel.size; omega
  clear hmk p0 p1 hg
  go_wp2_with fail
  go_loopg [4] L.length (fun gh s wr => ∃ m : Nat, m ≤ L.length ∧ gh = L.length - m ∧ s = .int .i64 ((L.length : Int) - 1 - (m : Int)) ∧ wr.rowIs g 3 L.length (fun j => .int .i64 (lateTo L F C m j)) ∧ Below w2.heap.size w2 wr)
  case atStart => exact ⟨0, Nat.zero_le _, rfl, by simp, hrow0.congr (fun j _ => rfl), hW0⟩
  case round =>
    clear hrow0 hW0
    obtain ⟨m, hm, rfl, rfl, hrow, hW⟩ := hrel
    by_cases hlt : m < L.length
    · obtain ⟨i, hi⟩ : ∃ i : Nat, i + 1 + m = L.length := ⟨L.length - 1 - m, by omega⟩
      have hie : (L.length : Int) - 1 - (m : Int) = (i : Int) := by omega
      rw [hie]
      have Hnext : Hid ((i : Int) - 1 = (L.length : Int) - 1 - ((m + 1 : Nat) : Int)) := by unfold Hid; omega
      have hil : (i : Int) < (L.length : Int) := by omega
      have hiL : i < L.length := by omega
      have hi0 : (0 : Int) ≤ (i : Int) := by omega
      have Hi := hide hi
      have hDi := hD.below hW
      have p0 := hDi.c0
      have p1 := hDi.c1
      obtain rfl := hDi.rl.addr (by omega)
      have y0 := hDi.rl.cell i hiL
      have hLi := long_at Hp.out hiL
      obtain ⟨l, hl⟩ : ∃ l, L.getD i 0 = l := ⟨_, rfl⟩
      rw [hl] at y0 hLi
      have Hl := hide hl
      have hws : IntKind.i64.wrap (C - l) = C - l := IntWalk.i64_in _ (by omega)
      have hbl : bl < wr.drew.heap.size := by have := hDi.rl.lt (by omega); simpa using this
      clear hie hi hl
      go_upto_region 7 with fail
      have hDd := hDi.drew
      have hbd : Below wr.heap.size wr wr.drew := by go_grown
      have hS0 : wr.drew.cell? ⟨w.heap.size, 0, none⟩ = some (.slice (some ⟨bl, ol, none⟩) L.length cl) ∧ wr.drew.cell? ⟨w.heap.size, 1, none⟩ = some (.slice AF F.length cf) ∧ wr.drew.cell? ⟨bl, ol + i, none⟩ = some (.int .i64 l) := ⟨p0, p1, y0⟩
      refine wp_regionE (fun w' => w'.cell? ⟨w.heap.size, 0, none⟩ = some (.slice (some ⟨bl, ol, none⟩) L.length cl) ∧ w'.cell? ⟨w.heap.size, 1, none⟩ = some (.slice AF F.length cf) ∧ w'.cell? ⟨bl, ol + i, none⟩ = some (.int .i64 l)) 11 (by kernel_rfl) ?_
      change wpE _ _ _ _ _ _ 12 #[false, false, false, false, false, false, false, false, false, false, false, false] _ _
      refine wpE_take' (v := ?_) 0 [11] (of_decide_eq_true (by kernel_rfl)) (by kernel_rfl) (by kernel_rfl) (by kernel_rfl) (by kernel_rfl) (fun _ _ _ h => h) (by kernel_rfl) ?_ hS0 ?_
      rotate_left
      · intro w' hSw
        simp only [List.getElem_toArray, List.getElem_cons_succ, List.getElem_cons_zero]
        go_simp
        all_goals with_reducible rfl
      simp only [List.getElem_toArray, List.getElem_cons_succ, List.getElem_cons_zero, Act.put, List.setIfInBounds_toArray, List.set_cons_zero, List.set_cons_succ]
      refine wpE_take' (v := ?_) 1 [11] (of_decide_eq_true (by kernel_rfl)) (by kernel_rfl) (by kernel_rfl) (by kernel_rfl) (by kernel_rfl) (fun _ _ _ h => h) (by kernel_rfl) ?_ hS0 ?_
      rotate_left
      · intro w' hSw
        simp only [List.getElem_toArray, List.getElem_cons_succ, List.getElem_cons_zero]
        go_simp
        all_goals with_reducible rfl
      simp only [List.getElem_toArray, List.getElem_cons_succ, List.getElem_cons_zero, Act.put, List.setIfInBounds_toArray, List.set_cons_zero, List.set_cons_succ]
      refine wpE_take' (v := ?_) 2 [11] (of_decide_eq_true (by kernel_rfl)) (by kernel_rfl) (by kernel_rfl) (by kernel_rfl) (by kernel_rfl) (fun _ _ _ h => h) (by kernel_rfl) ?_ hS0 ?_
      rotate_left
      · intro w' hSw
        simp only [List.getElem_toArray, List.getElem_cons_succ, List.getElem_cons_zero]
        go_simp
        all_goals with_reducible rfl
      simp only [List.getElem_toArray, List.getElem_cons_succ, List.getElem_cons_zero, Act.put, List.setIfInBounds_toArray, List.set_cons_zero, List.set_cons_succ]
      refine wpE_take' (v := ?_) 4 [11] (of_decide_eq_true (by kernel_rfl)) (by kernel_rfl) (by kernel_rfl) (by kernel_rfl) (by kernel_rfl) (fun _ _ _ h => h) (by kernel_rfl) ?_ hS0 ?_
      rotate_left
      · intro w' hSw
        simp only [List.getElem_toArray, List.getElem_cons_succ, List.getElem_cons_zero]
        go_simp
        all_goals with_reducible rfl
      simp only [List.getElem_toArray, List.getElem_cons_succ, List.getElem_cons_zero, Act.put, List.setIfInBounds_toArray, List.set_cons_zero, List.set_cons_succ]
      refine wpE_take' (v := ?_) 5 [11] (of_decide_eq_true (by kernel_rfl)) (by kernel_rfl) (by kernel_rfl) (by kernel_rfl) (by kernel_rfl) (fun _ _ _ h => h) (by kernel_rfl) ?_ hS0 ?_
      rotate_left
      · intro w' hSw
        simp only [List.getElem_toArray, List.getElem_cons_succ, List.getElem_cons_zero]
        go_simp
        all_goals with_reducible rfl
      simp only [List.getElem_toArray, List.getElem_cons_succ, List.getElem_cons_zero, Act.put, List.setIfInBounds_toArray, List.set_cons_zero, List.set_cons_succ]
      refine wpE_take' (v := ?_) 6 [11] (of_decide_eq_true (by kernel_rfl)) (by kernel_rfl) (by kernel_rfl) (by kernel_rfl) (by kernel_rfl) (fun _ _ _ h => h) (by kernel_rfl) ?_ hS0 ?_
      rotate_left
      · intro w' hSw
        simp only [List.getElem_toArray, List.getElem_cons_succ, List.getElem_cons_zero]
        go_simp
        all_goals with_reducible rfl
      simp only [List.getElem_toArray, List.getElem_cons_succ, List.getElem_cons_zero, Act.put, List.setIfInBounds_toArray, List.set_cons_zero, List.set_cons_succ]
      refine wpE_take' (v := ?_) 7 [11] (of_decide_eq_true (by kernel_rfl)) (by kernel_rfl) (by kernel_rfl) (by kernel_rfl) (by kernel_rfl) (fun _ _ _ h => h) (by kernel_rfl) ?_ hS0 ?_
      rotate_left
      · intro w' hSw
        simp only [List.getElem_toArray, List.getElem_cons_succ, List.getElem_cons_zero]
        go_simp
        all_goals with_reducible rfl
      simp only [List.getElem_toArray, List.getElem_cons_succ, List.getElem_cons_zero, Act.put, List.setIfInBounds_toArray, List.set_cons_zero, List.set_cons_succ]
      refine wpE_take' (v := ?_) 8 [11] (of_decide_eq_true (by kernel_rfl)) (by kernel_rfl) (by kernel_rfl) (by kernel_rfl) (by kernel_rfl) (fun _ _ _ h => h) (by kernel_rfl) ?_ hS0 ?_
      rotate_left
      · intro w' hSw
        simp only [List.getElem_toArray, List.getElem_cons_succ, List.getElem_cons_zero]
        go_simp
        all_goals with_reducible rfl
      simp only [List.getElem_toArray, List.getElem_cons_succ, List.getElem_cons_zero, Act.put, List.setIfInBounds_toArray, List.set_cons_zero, List.set_cons_succ]
      refine wpE_step' 3 (of_decide_eq_true (by kernel_rfl)) (by kernel_rfl) (by kernel_rfl) (fun K hK => ?_)
      simp only [List.getElem_toArray, List.getElem_cons_succ, List.getElem_cons_zero]
      go_simp
      go_at_call 17
      have hcall := lengthOf_c L F _ AF bl ol cl bf of' cf _ _ hll hlf (Nat.le_refl _) hDd.rl hDd.rf
      rw [Hp.out, if_pos rfl, HC.out] at hcall
      refine hcall.mono ?_
      clear hcall
      rintro e w5 ⟨rfl, hb5⟩
      have hb6 := bthen hbd hb5
      have hD5 := hDd.below hb5
      clear hS0
      have hS0 : w5.cell? ⟨w.heap.size, 0, none⟩ = some (.slice (some ⟨bl, ol, none⟩) L.length cl) ∧ w5.cell? ⟨w.heap.size, 1, none⟩ = some (.slice AF F.length cf) ∧ w5.cell? ⟨bl, ol + i, none⟩ = some (.int .i64 l) := ⟨hD5.c0, hD5.c1, ((bcell hb5).1 _ _ hbl).trans y0⟩
      refine hK.out _ _ (.inr hS0) ?_
      clear hK K
      simp only [Act.put, List.setIfInBounds_toArray, List.set_cons_zero, List.set_cons_succ]
      have hrow5 := rowIs_below hrow hb6 hrow.lt
      have hW5 := hW.trans (hb6.mono hW.size)
      have uf := hrow5.frozen i
      have u1 := hrow5.cell hiL
      refine wpE_take' (v := ?_) 9 [11] (of_decide_eq_true (by kernel_rfl)) (by kernel_rfl) (by kernel_rfl) (by kernel_rfl) (by kernel_rfl) (fun _ _ _ h => h) (by kernel_rfl) ?_ hS0 ?_
      rotate_left
      · intro w' hSw
        simp only [List.getElem_toArray, List.getElem_cons_succ, List.getElem_cons_zero]
        go_simp
        all_goals with_reducible rfl
      simp only [List.getElem_toArray, List.getElem_cons_succ, List.getElem_cons_zero, Act.put, List.setIfInBounds_toArray, List.set_cons_zero, List.set_cons_succ]
      refine wpE_take' (v := ?_) 10 [11] (of_decide_eq_true (by kernel_rfl)) (by kernel_rfl) (by kernel_rfl) (by kernel_rfl) (by kernel_rfl) (fun _ _ _ h => h) (by kernel_rfl) ?_ hS0 ?_
      rotate_left
      · intro w' hSw
        simp only [List.getElem_toArray, List.getElem_cons_succ, List.getElem_cons_zero]
        go_simp
        all_goals with_reducible rfl
      simp only [List.getElem_toArray, List.getElem_cons_succ, List.getElem_cons_zero, Act.put, List.setIfInBounds_toArray, List.set_cons_zero, List.set_cons_succ]
      refine wpE_step' 11 (of_decide_eq_true (by kernel_rfl)) (by kernel_rfl) (by kernel_rfl) (fun K hK => ?_)
      simp only [List.getElem_toArray, List.getElem_cons_succ, List.getElem_cons_zero]
      go_simp
      refine hK.out _ _ (.inl rfl) ?_
      clear hK K
      simp only [Act.put, List.setIfInBounds_toArray, List.set_cons_zero, List.set_cons_succ]
      refine wpE_done (by kernel_rfl) ?_ _
      have hrow6 : (w5.setCell ⟨g, i, none⟩ (.int .i64 (C - l))).rowIs g 3 L.length (fun j => .int .i64 (if j = i then C - l else lateTo L F C m j)) := (hrow5.set i (.int .i64 (C - l))).congr (fun j _ => by split <;> rfl)
      have hW6 := hW5.setCell (p := ⟨g, i, none⟩) hgW (.int .i64 (C - l))
      have hF0 : Hid ((∀ j, j ≠ i → (if j = i then C - l else lateTo L F C m j) = lateTo L F C m j) ∧ (if i = i then C - l else lateTo L F C m i) = ltl L F (lateTo L F C m) C i 0) := ⟨fun j hj => if_neg hj, by rw [if_pos rfl]; unfold ltl; rw [Hl.out]⟩
      obtain ⟨f0, hf0⟩ : ∃ f0 : Nat → Int, (fun j => if j = i then C - l else lateTo L F C m j) = f0 := ⟨_, rfl⟩
      have hrow7 : (w5.setCell ⟨g, i, none⟩ (.int .i64 (C - l))).rowIs g 3 L.length (fun j => .int .i64 (f0 j)) := by rw [← hf0]; exact hrow6
      have hF1 : Hid ((∀ j, j ≠ i → f0 j = lateTo L F C m j) ∧ f0 i = ltl L F (lateTo L F C m) C i 0) := by rw [← hf0]; exact hF0.out
      clear hS0 hrow hW hrow5 hW5 uf u1 hb5 hb6 hbd hDi hDd hD5 p0 p1 y0 hbl hrow6 hF0 hf0 hws
      generalize w5.setCell ⟨g, i, none⟩ (.int .i64 (C - l)) = W7 at hrow7 hW6 ⊢
      go_wp2_with fail
      go_loopg [5] m (fun gh s wi => ∃ (d : Nat) (f : Nat → Int), d ≤ m ∧ gh = m - d ∧ s = .int .i64 ((i : Int) + 1 + (d : Int)) ∧ wi.rowIs g 3 L.length (fun j => .int .i64 (f j)) ∧ Hid ((∀ j, j ≠ i → f j = lateTo L F C m j) ∧ f i = ltl L F (lateTo L F C m) C i d) ∧ Below w2.heap.size w2 wi)
      case atStart => exact ⟨0, f0, Nat.zero_le _, rfl, by simp, hrow7, hF1, hW6⟩
      case round =>
        clear hrow7 hF1 hW6
        obtain ⟨d, f, hd, rfl, rfl, hrow, HF, hW⟩ := hrel
        have hDi := hD.below hW
        have p0 := hDi.c0
        have p1 := hDi.c1
        by_cases hdm : d < m
        · have hke : (i : Int) + 1 + (d : Int) = ((i + 1 + d : Nat) : Int) := by omega
          have hkn : ((i : Int) + 1 + (d : Int)) + 1 = (i : Int) + 1 + ((d + 1 : Nat) : Int) := by omega
          have Hkn := hide hkn
          have hkL : i + 1 + d < L.length := by have := Hi.out; omega
          have hkz : (i : Int) + 1 + (d : Int) < (L.length : Int) := by omega
          have hk0 : (0 : Int) ≤ (i : Int) + 1 + (d : Int) := by omega
          have hkt : ((i : Int) + 1 + (d : Int)).toNat = i + 1 + d := by omega
          have hbits := proj_bits Hp.out (show i + 1 + d < F.length by have := Hle.out; omega)
          have Hke := hide hke
          clear hkn hke
          cases ha : aft F (i + 1 + d) i
          · have HF2 : Hid ((∀ j, j ≠ i → f j = lateTo L F C m j) ∧ f i = ltl L F (lateTo L F C m) C i (d + 1)) := by
              refine ⟨HF.out.1, ?_⟩
              simp only [ltl]
              rw [ha, if_neg (by simp)]
              exact HF.out.2
            have Ha := hide ha
            clear ha
            go_wp2_with (go_at_call 46; have hcall := after_c L F (i + 1 + d) i (by have := Hle.out; omega) (by omega) hbits _ AF bl ol cl bf of' cf _ _ hlf (Nat.le_refl _) hDi.rl hDi.rf; rw [← Hke.out, Ha.out] at hcall; refine hcall.mono ?_; clear hcall; rintro e w5 ⟨rfl, hb5⟩)
            have hrow5 := rowIs_below hrow hb5 hrow.lt
            have hW5 := hW.trans (hb5.mono hW.size)
            have hD5 := hDi.below hb5
            clear p0 p1 hrow hDi hW hb5
            go_roundg (m - (d + 1))
            case measure => go_light; omega
            case rel => go_light; exact ⟨d + 1, f, by omega, rfl, by rw [← Hkn.out], hrow5, HF2, hW5⟩
          · have hbx := ltl_bound Hp.out Hi.out hd
            have hby := late_bound Hp.out hkL
            rw [HC.out] at hbx
            have hfy : f (i + 1 + d) = lateAt L F (i + 1 + d) := by rw [HF.out.1 _ (by omega), ← HC.out]; exact lateTo_is (by have := Hi.out; omega) (by omega)
            have HM : Hid (ltl L F (lateTo L F C m) C i (d + 1) = min (f i) (f (i + 1 + d) - l)) := by
              unfold Hid
              simp only [ltl]
              rw [ha, if_pos rfl, HF.out.2, HF.out.1 _ (by omega), Hl.out]
            rw [← HF.out.2] at hbx
            rw [← hfy] at hby
            have Ha := hide ha
            clear ha hfy
            go_upto_region 12 with (go_at_call 46; have hcall := after_c L F (i + 1 + d) i (by have := Hle.out; omega) (by omega) hbits _ AF bl ol cl bf of' cf _ _ hlf (Nat.le_refl _) hDi.rl hDi.rf; rw [← Hke.out, Ha.out] at hcall; refine hcall.mono ?_; clear hcall; rintro e w5 ⟨rfl, hb5⟩)
            have hrow5 := rowIs_below hrow hb5 hrow.lt
            have hW5 := hW.trans (hb5.mono hW.size)
            have hD5 := hDi.below hb5
            clear p0 p1 hrow hDi hW hb5
            have p0 := hD5.c0
            have y0 := hD5.rl.cell i hiL
            rw [Hl.out] at y0
            have u1 := hrow5.cell hiL
            have u2 := hrow5.cell hkL
            have uf := hrow5.frozen i
            have hset := fun v => hrow5.set i (.int .i64 v)
            have Hset := hide hset
            obtain ⟨x, hx⟩ : ∃ x, f i = x := ⟨_, rfl⟩
            obtain ⟨y, hy⟩ : ∃ y, f (i + 1 + d) = y := ⟨_, rfl⟩
            rw [hx] at u1 hbx HM
            rw [hy] at u2 hby HM
            clear hset hx hy
            have hws : IntKind.i64.wrap (y - l) = y - l := IntWalk.i64_in _ (by omega)
            obtain ⟨mv, hmv⟩ : ∃ mv, min x (y - l) = mv := ⟨_, rfl⟩
            have hm1 : (if y - l < x then y - l else x) = mv := by rw [← hmv]; split <;> omega
            have hm2 : (if x < y - l then x else y - l) = mv := by rw [← hmv]; split <;> omega
            rw [hmv] at HM
            clear hmv
            refine wp_regionE (fun w' => w'.cell? ⟨g, i, none⟩ = some (.int .i64 x) ∧ w'.cell? ⟨g, i + 1 + d, none⟩ = some (.int .i64 y) ∧ w'.cell? ⟨w.heap.size, 0, none⟩ = some (.slice (some ⟨bl, ol, none⟩) L.length cl) ∧ w'.cell? ⟨bl, ol + i, none⟩ = some (.int .i64 l)) 18 (by kernel_rfl) ?_
            change wpE _ _ _ _ _ _ 19 #[false, false, false, false, false, false, false, false, false, false, false, false, false, false, false, false, false, false, false] _ _
            have hS0 : w5.drew.cell? ⟨g, i, none⟩ = some (.int .i64 x) ∧ w5.drew.cell? ⟨g, i + 1 + d, none⟩ = some (.int .i64 y) ∧ w5.drew.cell? ⟨w.heap.size, 0, none⟩ = some (.slice (some ⟨bl, ol, none⟩) L.length cl) ∧ w5.drew.cell? ⟨bl, ol + i, none⟩ = some (.int .i64 l) := ⟨u1, u2, p0, y0⟩
            refine wpE_take' (v := ?_) 0 [18] (of_decide_eq_true (by kernel_rfl)) (by kernel_rfl) (by kernel_rfl) (by kernel_rfl) (by kernel_rfl) (fun _ _ _ h => h) (by kernel_rfl) ?_ hS0 ?_
            rotate_left
            · intro w' hSw
              simp only [List.getElem_toArray, List.getElem_cons_succ, List.getElem_cons_zero]
              go_simp
              all_goals with_reducible rfl
            simp only [List.getElem_toArray, List.getElem_cons_succ, List.getElem_cons_zero, Act.put, List.setIfInBounds_toArray, List.set_cons_zero, List.set_cons_succ]
            refine wpE_take' (v := ?_) 1 [18] (of_decide_eq_true (by kernel_rfl)) (by kernel_rfl) (by kernel_rfl) (by kernel_rfl) (by kernel_rfl) (fun _ _ _ h => h) (by kernel_rfl) ?_ hS0 ?_
            rotate_left
            · intro w' hSw
              simp only [List.getElem_toArray, List.getElem_cons_succ, List.getElem_cons_zero]
              go_simp
              all_goals with_reducible rfl
            simp only [List.getElem_toArray, List.getElem_cons_succ, List.getElem_cons_zero, Act.put, List.setIfInBounds_toArray, List.set_cons_zero, List.set_cons_succ]
            refine wpE_take' (v := ?_) 2 [18] (of_decide_eq_true (by kernel_rfl)) (by kernel_rfl) (by kernel_rfl) (by kernel_rfl) (by kernel_rfl) (fun _ _ _ h => h) (by kernel_rfl) ?_ hS0 ?_
            rotate_left
            · intro w' hSw
              simp only [List.getElem_toArray, List.getElem_cons_succ, List.getElem_cons_zero]
              go_simp
              all_goals with_reducible rfl
            simp only [List.getElem_toArray, List.getElem_cons_succ, List.getElem_cons_zero, Act.put, List.setIfInBounds_toArray, List.set_cons_zero, List.set_cons_succ]
            refine wpE_take' (v := ?_) 3 [18] (of_decide_eq_true (by kernel_rfl)) (by kernel_rfl) (by kernel_rfl) (by kernel_rfl) (by kernel_rfl) (fun _ _ _ h => h) (by kernel_rfl) ?_ hS0 ?_
            rotate_left
            · intro w' hSw
              simp only [List.getElem_toArray, List.getElem_cons_succ, List.getElem_cons_zero]
              go_simp
              all_goals with_reducible rfl
            simp only [List.getElem_toArray, List.getElem_cons_succ, List.getElem_cons_zero, Act.put, List.setIfInBounds_toArray, List.set_cons_zero, List.set_cons_succ]
            refine wpE_take' (v := ?_) 4 [18] (of_decide_eq_true (by kernel_rfl)) (by kernel_rfl) (by kernel_rfl) (by kernel_rfl) (by kernel_rfl) (fun _ _ _ h => h) (by kernel_rfl) ?_ hS0 ?_
            rotate_left
            · intro w' hSw
              simp only [List.getElem_toArray, List.getElem_cons_succ, List.getElem_cons_zero]
              go_simp
              all_goals with_reducible rfl
            simp only [List.getElem_toArray, List.getElem_cons_succ, List.getElem_cons_zero, Act.put, List.setIfInBounds_toArray, List.set_cons_zero, List.set_cons_succ]
            refine wpE_take' (v := ?_) 5 [18] (of_decide_eq_true (by kernel_rfl)) (by kernel_rfl) (by kernel_rfl) (by kernel_rfl) (by kernel_rfl) (fun _ _ _ h => h) (by kernel_rfl) ?_ hS0 ?_
            rotate_left
            · intro w' hSw
              simp only [List.getElem_toArray, List.getElem_cons_succ, List.getElem_cons_zero]
              go_simp
              all_goals with_reducible rfl
            simp only [List.getElem_toArray, List.getElem_cons_succ, List.getElem_cons_zero, Act.put, List.setIfInBounds_toArray, List.set_cons_zero, List.set_cons_succ]
            refine wpE_take' (v := ?_) 6 [18] (of_decide_eq_true (by kernel_rfl)) (by kernel_rfl) (by kernel_rfl) (by kernel_rfl) (by kernel_rfl) (fun _ _ _ h => h) (by kernel_rfl) ?_ hS0 ?_
            rotate_left
            · intro w' hSw
              simp only [List.getElem_toArray, List.getElem_cons_succ, List.getElem_cons_zero]
              go_simp
              all_goals with_reducible rfl
            simp only [List.getElem_toArray, List.getElem_cons_succ, List.getElem_cons_zero, Act.put, List.setIfInBounds_toArray, List.set_cons_zero, List.set_cons_succ]
            refine wpE_take' (v := ?_) 7 [18] (of_decide_eq_true (by kernel_rfl)) (by kernel_rfl) (by kernel_rfl) (by kernel_rfl) (by kernel_rfl) (fun _ _ _ h => h) (by kernel_rfl) ?_ hS0 ?_
            rotate_left
            · intro w' hSw
              simp only [List.getElem_toArray, List.getElem_cons_succ, List.getElem_cons_zero]
              go_simp
              all_goals with_reducible rfl
            simp only [List.getElem_toArray, List.getElem_cons_succ, List.getElem_cons_zero, Act.put, List.setIfInBounds_toArray, List.set_cons_zero, List.set_cons_succ]
            refine wpE_take' (v := ?_) 8 [18] (of_decide_eq_true (by kernel_rfl)) (by kernel_rfl) (by kernel_rfl) (by kernel_rfl) (by kernel_rfl) (fun _ _ _ h => h) (by kernel_rfl) ?_ hS0 ?_
            rotate_left
            · intro w' hSw
              simp only [List.getElem_toArray, List.getElem_cons_succ, List.getElem_cons_zero]
              go_simp
              all_goals with_reducible rfl
            simp only [List.getElem_toArray, List.getElem_cons_succ, List.getElem_cons_zero, Act.put, List.setIfInBounds_toArray, List.set_cons_zero, List.set_cons_succ]
            refine wpE_take' (v := ?_) 9 [18] (of_decide_eq_true (by kernel_rfl)) (by kernel_rfl) (by kernel_rfl) (by kernel_rfl) (by kernel_rfl) (fun _ _ _ h => h) (by kernel_rfl) ?_ hS0 ?_
            rotate_left
            · intro w' hSw
              simp only [List.getElem_toArray, List.getElem_cons_succ, List.getElem_cons_zero]
              go_simp
              all_goals with_reducible rfl
            simp only [List.getElem_toArray, List.getElem_cons_succ, List.getElem_cons_zero, Act.put, List.setIfInBounds_toArray, List.set_cons_zero, List.set_cons_succ]
            refine wpE_take' (v := ?_) 10 [18] (of_decide_eq_true (by kernel_rfl)) (by kernel_rfl) (by kernel_rfl) (by kernel_rfl) (by kernel_rfl) (fun _ _ _ h => h) (by kernel_rfl) ?_ hS0 ?_
            rotate_left
            · intro w' hSw
              simp only [List.getElem_toArray, List.getElem_cons_succ, List.getElem_cons_zero]
              go_simp
              all_goals with_reducible rfl
            simp only [List.getElem_toArray, List.getElem_cons_succ, List.getElem_cons_zero, Act.put, List.setIfInBounds_toArray, List.set_cons_zero, List.set_cons_succ]
            refine wpE_take' (v := ?_) 11 [18] (of_decide_eq_true (by kernel_rfl)) (by kernel_rfl) (by kernel_rfl) (by kernel_rfl) (by kernel_rfl) (fun _ _ _ h => h) (by kernel_rfl) ?_ hS0 ?_
            rotate_left
            · intro w' hSw
              simp only [List.getElem_toArray, List.getElem_cons_succ, List.getElem_cons_zero]
              go_simp
              all_goals with_reducible rfl
            simp only [List.getElem_toArray, List.getElem_cons_succ, List.getElem_cons_zero, Act.put, List.setIfInBounds_toArray, List.set_cons_zero, List.set_cons_succ]
            refine wpE_take' (v := ?_) 12 [18] (of_decide_eq_true (by kernel_rfl)) (by kernel_rfl) (by kernel_rfl) (by kernel_rfl) (by kernel_rfl) (fun _ _ _ h => h) (by kernel_rfl) ?_ hS0 ?_
            rotate_left
            · intro w' hSw
              simp only [List.getElem_toArray, List.getElem_cons_succ, List.getElem_cons_zero]
              go_simp
              all_goals with_reducible rfl
            simp only [List.getElem_toArray, List.getElem_cons_succ, List.getElem_cons_zero, Act.put, List.setIfInBounds_toArray, List.set_cons_zero, List.set_cons_succ]
            refine wpE_take' (v := ?_) 13 [18] (of_decide_eq_true (by kernel_rfl)) (by kernel_rfl) (by kernel_rfl) (by kernel_rfl) (by kernel_rfl) (fun _ _ _ h => h) (by kernel_rfl) ?_ hS0 ?_
            rotate_left
            · intro w' hSw
              simp only [List.getElem_toArray, List.getElem_cons_succ, List.getElem_cons_zero]
              go_simp
              all_goals with_reducible rfl
            simp only [List.getElem_toArray, List.getElem_cons_succ, List.getElem_cons_zero, Act.put, List.setIfInBounds_toArray, List.set_cons_zero, List.set_cons_succ]
            refine wpE_take' (v := ?_) 14 [18] (of_decide_eq_true (by kernel_rfl)) (by kernel_rfl) (by kernel_rfl) (by kernel_rfl) (by kernel_rfl) (fun _ _ _ h => h) (by kernel_rfl) ?_ hS0 ?_
            rotate_left
            · intro w' hSw
              simp only [List.getElem_toArray, List.getElem_cons_succ, List.getElem_cons_zero]
              go_simp
              all_goals with_reducible rfl
            simp only [List.getElem_toArray, List.getElem_cons_succ, List.getElem_cons_zero, Act.put, List.setIfInBounds_toArray, List.set_cons_zero, List.set_cons_succ]
            refine wpE_take' (v := ?_) 15 [18] (of_decide_eq_true (by kernel_rfl)) (by kernel_rfl) (by kernel_rfl) (by kernel_rfl) (by kernel_rfl) (fun _ _ _ h => h) (by kernel_rfl) ?_ hS0 ?_
            rotate_left
            · intro w' hSw
              simp only [List.getElem_toArray, List.getElem_cons_succ, List.getElem_cons_zero]
              go_simp
              all_goals with_reducible rfl
            simp only [List.getElem_toArray, List.getElem_cons_succ, List.getElem_cons_zero, Act.put, List.setIfInBounds_toArray, List.set_cons_zero, List.set_cons_succ]
            refine wpE_take' (v := ?_) 16 [18] (of_decide_eq_true (by kernel_rfl)) (by kernel_rfl) (by kernel_rfl) (by kernel_rfl) (by kernel_rfl) (fun _ _ _ h => h) (by kernel_rfl) ?_ hS0 ?_
            rotate_left
            · intro w' hSw
              simp only [List.getElem_toArray, List.getElem_cons_succ, List.getElem_cons_zero]
              go_simp
              all_goals with_reducible rfl
            simp only [List.getElem_toArray, List.getElem_cons_succ, List.getElem_cons_zero, Act.put, List.setIfInBounds_toArray, List.set_cons_zero, List.set_cons_succ]
            refine wpE_take' (v := ?_) 17 [18] (of_decide_eq_true (by kernel_rfl)) (by kernel_rfl) (by kernel_rfl) (by kernel_rfl) (by kernel_rfl) (fun _ _ _ h => h) (by kernel_rfl) ?_ hS0 ?_
            rotate_left
            · intro w' hSw
              simp only [List.getElem_toArray, List.getElem_cons_succ, List.getElem_cons_zero]
              go_simp
              all_goals with_reducible rfl
            simp only [List.getElem_toArray, List.getElem_cons_succ, List.getElem_cons_zero, Act.put, List.setIfInBounds_toArray, List.set_cons_zero, List.set_cons_succ]
            refine wpE_step' 18 (of_decide_eq_true (by kernel_rfl)) (by kernel_rfl) (by kernel_rfl) (fun K hK => ?_)
            simp only [List.getElem_toArray, List.getElem_cons_succ, List.getElem_cons_zero]
            go_simp
            refine hK.out _ _ (.inl rfl) ?_
            clear hK K
            simp only [Act.put, List.setIfInBounds_toArray, List.set_cons_zero, List.set_cons_succ]
            refine wpE_done (by kernel_rfl) ?_ _
            have hrow8 := Hset.out mv
            have hW8 := hW5.setCell (p := ⟨g, i, none⟩) hgW (.int .i64 mv)
            obtain ⟨f2, hf2⟩ : ∃ f2 : Nat → Int, (fun j => if j = i then mv else f j) = f2 := ⟨_, rfl⟩
            have hat : ∀ j, f2 j = if j = i then mv else f j := fun j => by rw [← hf2]
            have hrow9 : (w5.setCell ⟨g, i, none⟩ (.int .i64 mv)).rowIs g 3 L.length (fun j => .int .i64 (f2 j)) := hrow8.congr (fun j _ => by rw [hat]; by_cases e : j = i <;> simp [e])
            have HF2 : Hid ((∀ j, j ≠ i → f2 j = lateTo L F C m j) ∧ f2 i = ltl L F (lateTo L F C m) C i (d + 1)) :=
              ⟨fun j hj => by rw [hat, if_neg hj]; exact HF.out.1 j hj, by rw [hat, if_pos rfl, HM.out]⟩
            clear hf2 hat
            clear hS0 u1 u2 uf p0 y0 hm1 hm2 hws hrow8
            go_wp2_with fail
            go_roundg (m - (d + 1))
            case measure => go_light; omega
            case rel => go_light; exact ⟨d + 1, f2, by omega, rfl, by rw [← Hkn.out], by first | exact hrow9 | exact hrow9.drew, HF2, by first | exact hW8 | exact hW8.drew⟩
        · have hdm' : ¬ (i : Int) + 1 + (d : Int) < (L.length : Int) := by have := Hi.out; omega
          have HN : wr.rowIs g 3 L.length (fun j => .int .i64 (lateTo L F C (m + 1) j)) := hrow.congr (fun j hj => by
            have hie : L.length - 1 - m = i := by have := Hi.out; omega
            have e2 : lateTo L F C (m + 1) j = if j = i then ltl L F (lateTo L F C m) C i m else lateTo L F C m j := by
              show (if j = L.length - 1 - m then ltl L F (lateTo L F C m) C (L.length - 1 - m) m else lateTo L F C m j) = _
              rw [hie]
            rw [e2]
            by_cases e : j = i
            · rw [if_pos e, e, HF.out.2, show d = m by omega]
            · rw [if_neg e, HF.out.1 j e])
          go_wp2_with fail
          go_roundg (L.length - (m + 1))
          case measure => go_light; omega
          case rel => go_light; exact ⟨m + 1, by omega, rfl, by rw [← Hnext.out], HN, hW⟩
    · have hme : m = L.length := by omega
      have hlt' : ¬ (0 : Int) ≤ (L.length : Int) - 1 - (m : Int) := by omega
      have hfin : wr.rowIs g 3 L.length (fun j => .int .i64 (lateAt L F j)) := hrow.congr (fun j hj => by unfold lateAt; rw [HC.out, hme])
      have hbw := hD.bel.trans (hW.mono hD.bel.size)
      clear hme
      go_wp2_with fail
      go_ret
      exact ⟨g, rfl, hgw, hfin, hbw⟩
end Go.Proofs.Ytmgikoaeomieeaa
