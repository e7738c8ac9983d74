/-
  spec: BeginsBy; how many hands are taken.
-/
import Derived.Test.YtmgikoaeomieeaaS74
namespace Go.Proofs.Ytmgikoaeomieeaa
set_option linter.unusedVariables false
set_option linter.unusedSimpArgs false
open Go.RowKit Pp

set_option maxHeartbeats 2000000 in
set_option maxRecDepth 100000 in
theorem sBeginsBy_no (L F xs : List Int) (h : Int) (hof : orderFits L F h xs = false) (AL AF AX : Option Addr) (bl ol cl bf of' cf bx ox cx B : Nat) (w : World) (hll : L.length ≤ 2000000) (hlf : F.length ≤ 2000000) (hlx : xs.length ≤ 2000000) (hB : B ≤ w.heap.size) (hl : IntsR w B bl ol AL L) (hf : IntsR w B bf of' AF F) (hX : IntsR w B bx ox AX xs) :
    Calls Try.prog 30 #[.agg #[.slice AL L.length cl, .slice AF F.length cf], .int .i64 h, .slice AX xs.length cx] w fun e w' => ∃ A, e = .returned (.tuple #[.slice A 0 0, .bool false]) ∧ Below w.heap.size w w' := by
  have hD := pj_new (t := 25) (cl := cl) (cf := cf) hB hl hf
  have hI := (hX.below (hD.bel.mono hB)).more (Nat.le_trans hB hD.bel.size)
  obtain ⟨r1, hr1⟩ : ∃ r1, projOk L F = r1 := ⟨_, rfl⟩
  obtain ⟨r2, hr2⟩ : ∃ r2, inB h 1 3 = r2 := ⟨_, rfl⟩
  obtain ⟨r3, hr3⟩ : ∃ r3, orderOk xs (L.length : Int) = r3 := ⟨_, rfl⟩
  have hall : (r1 && r2 && r3) = false := by rw [← hr1, ← hr2, ← hr3]; exact hof
  have H1 := hide hr1
  have H2 := hide hr2
  have H3 := hide hr3
  clear hl hf hB hX hof hr1 hr2 hr3
  cases r1
  · clear hall
    go_enter Try.func30, Try.ntmps30
    go_upto_region 1 with fail
    generalize w.alloc (.cells #[.slice AL L.length cl, .slice AF F.length cf] 25) = W at hD hI ⊢
    have p0 := hD.c0
    have p1 := hD.c1
    go_wp2_with (go_at_call 48; go_fit (sProjectOk_c L F AL AF bl ol cl bf of' cf _ _ hll hlf (Nat.le_refl _) hD.rl hD.rf); rintro e w2 ⟨rfl, hb⟩; rw [H1.out]; replace hI := (hI.below hb).more hb.size; replace hD := hD.below hb; clear p0 p1; have p0 := hD.c0; have p1 := hD.c1)
    refine bodyPost_ret (v := .tuple #[.slice (some ⟨w2.heap.size, 0, none⟩) 0 0, .bool false]) (by simp [results, Try.results30, go_sem]) rfl ?_
    exact ⟨_, rfl, hD.bel.alloc (by have := hD.bel.size; omega) _⟩
  · cases r2
    · clear hall
      go_enter Try.func30, Try.ntmps30
      go_upto_region 1 with fail
      generalize w.alloc (.cells #[.slice AL L.length cl, .slice AF F.length cf] 25) = W at hD hI ⊢
      have p0 := hD.c0
      have p1 := hD.c1
      go_wp2_with (first
        | (go_at_call 48; go_fit (sProjectOk_c L F AL AF bl ol cl bf of' cf _ _ hll hlf (Nat.le_refl _) hD.rl hD.rf); rintro e w2 ⟨rfl, hb⟩; rw [H1.out]; replace hI := (hI.below hb).more hb.size; replace hD := hD.below hb; clear p0 p1; have p0 := hD.c0; have p1 := hD.c1)
        | (go_at_call 57; go_fit (l1In_b H2.out _); rintro e w3 ⟨rfl, h3⟩; have h4 := h3.symm; subst h4; clear h3))
      refine bodyPost_ret (v := .tuple #[.slice (some ⟨w2.heap.size, 0, none⟩) 0 0, .bool false]) (by simp [results, Try.results30, go_sem]) rfl ?_
      exact ⟨_, rfl, hD.bel.alloc (by have := hD.bel.size; omega) _⟩
    · obtain rfl : r3 = false := by simpa using hall
      clear hall
      go_enter Try.func30, Try.ntmps30
      go_upto_region 1 with fail
      generalize w.alloc (.cells #[.slice AL L.length cl, .slice AF F.length cf] 25) = W at hD hI ⊢
      have p0 := hD.c0
      have p1 := hD.c1
      go_wp2_with (first
        | (go_at_call 48; go_fit (sProjectOk_c L F AL AF bl ol cl bf of' cf _ _ hll hlf (Nat.le_refl _) hD.rl hD.rf); rintro e w2 ⟨rfl, hb⟩; rw [H1.out]; replace hI := (hI.below hb).more hb.size; replace hD := hD.below hb; clear p0 p1; have p0 := hD.c0; have p1 := hD.c1)
        | (go_at_call 57; go_fit (l1In_b H2.out _); rintro e w3 ⟨rfl, h3⟩; have h4 := h3.symm; subst h4; clear h3)
        | (go_at_call 69; go_fit (sOrderOk_c xs (L.length : Int) AX bx ox cx _ _ (by omega) hlx (Nat.le_refl _) hI); rintro e w4 ⟨rfl, hb⟩; rw [H3.out]; replace hI := (hI.below hb).more hb.size; replace hD := hD.below hb; clear p0 p1; have p0 := hD.c0; have p1 := hD.c1))
      refine bodyPost_ret (v := .tuple #[.slice (some ⟨w4.heap.size, 0, none⟩) 0 0, .bool false]) (by simp [results, Try.results30, go_sem]) rfl ?_
      exact ⟨_, rfl, hD.bel.alloc (by have := hD.bel.size; omega) _⟩
set_option maxHeartbeats 2000000 in
set_option maxRecDepth 100000 in
theorem sBeginsBy_yes (L F xs : List Int) (h : Int) (hof : orderFits L F h xs = true) (AL AF AX : Option Addr) (bl ol cl bf of' cf bx ox cx B : Nat) (w : World) (hB : B ≤ w.heap.size) (hl : IntsR w B bl ol AL L) (hf : IntsR w B bf of' AF F) (hX : IntsR w B bx ox AX xs) :
    Calls Try.prog 30 #[.agg #[.slice AL L.length cl, .slice AF F.length cf], .int .i64 h, .slice AX xs.length cx] w fun e w' => ∃ A c, e = .returned (.tuple #[.slice A xs.length c, .bool true]) ∧ OwnI w.heap.size w' (.slice A xs.length c) (beginsBy L F h xs) ∧ Below w.heap.size w w' := by
  have hD := pj_new (t := 25) (cl := cl) (cf := cf) hB hl hf
  have hI := (hX.below (hD.bel.mono hB)).more (Nat.le_trans hB hD.bel.size)
  obtain ⟨hp, hh, ho⟩ := orderFits_iff.1 hof
  obtain ⟨h6, hle, _, _⟩ := projOk_iff.1 hp
  have hxl := ho.1
  have hlx : xs.length ≤ 2000000 := by omega
  have hll : L.length ≤ 2000000 := by omega
  have hlf : F.length ≤ 2000000 := by omega
  have H1 := hide hp
  have H2 := hide (inB_iff.2 hh)
  have H3 := hide (orderOk_iff.2 ⟨h6, ho⟩)
  have Hof := hide hof
  clear hl hf hB hX hof hp hh ho hle hxl
  go_enter Try.func30, Try.ntmps30
  go_upto_region 1 with fail
  generalize w.alloc (.cells #[.slice AL L.length cl, .slice AF F.length cf] 25) = W at hD hI ⊢
  have p0 := hD.c0
  have p1 := hD.c1
  go_wp2_with (first
    | (go_at_call 48; go_fit (sProjectOk_c L F AL AF bl ol cl bf of' cf _ _ hll hlf (Nat.le_refl _) hD.rl hD.rf); rintro e w2 ⟨rfl, hb⟩; rw [H1.out]; replace hI := (hI.below hb).more hb.size; replace hD := hD.below hb; clear p0 p1; have p0 := hD.c0; have p1 := hD.c1)
    | (go_at_call 57; go_fit (l1In_b H2.out _); rintro e w3 ⟨rfl, h3⟩; have h4 := h3.symm; subst h4; clear h3)
    | (go_at_call 69; go_fit (sOrderOk_c xs (L.length : Int) AX bx ox cx _ _ (by omega) hlx (Nat.le_refl _) hI); rintro e w4 ⟨rfl, hb⟩; rw [H3.out]; replace hI := (hI.below hb).more hb.size; replace hD := hD.below hb; clear p0 p1; have p0 := hD.c0; have p1 := hD.c1)
    | (go_at_call 70; go_fit (l10Begins_q L F xs h Hof.out AL AF AX bl ol cl bf of' cf bx ox cx _ _ (Nat.le_refl _) hD.rl hD.rf hI); rintro e w6 ⟨A6, c6, rfl, hO6, hb6⟩))
  have hO7 := own_less hO6 hD.bel.size
  have hb7 := bthen hD.bel hb6
  refine bodyPost_ret (v := .tuple #[.slice A6 xs.length c6, .bool true]) (by simp [results, Try.results30, go_sem]) rfl ?_
  exact ⟨A6, c6, rfl, hO7, hb7⟩

set_option maxHeartbeats 4000000 in
set_option maxRecDepth 100000 in
theorem l10Taken_c (L F xs : List Int) (t : Int) (hx : xs.length = L.length) (hb : ∀ j, j < L.length → (0 ≤ L.getD j 0 ∧ L.getD j 0 ≤ 100) ∧ (-1 ≤ xs.getD j 0 ∧ xs.getD j 0 ≤ 10000)) (AL AF AX : Option Addr) (bl ol cl bf of' cf bx ox cx B : Nat) (w : World) (hll : L.length ≤ 2000000) (hB : B ≤ w.heap.size) (hl : IntsR w B bl ol AL L) (hf : IntsR w B bf of' AF F) (hX : IntsR w B bx ox AX xs) :
    Calls Try.prog 76 #[.agg #[.slice AL L.length cl, .slice AF F.length cf], .slice AX xs.length cx, .int .i64 t] w fun e w' => e = .returned (.int .i64 (busyN L xs t : Nat)) ∧ Below w.heap.size w w' := by
  have hD := pj_new (t := 25) (cl := cl) (cf := cf) hB hl hf
  have hI := (hX.below (hD.bel.mono hB)).more (Nat.le_trans hB hD.bel.size)
  have hxl : xs.length ≤ 2000000 := by omega
  have Hx := hide hx
  have Hb := hide hb
  obtain ⟨M, hm⟩ : ∃ M, busyN L xs t = M := ⟨_, rfl⟩
  rw [hm]
  have Hm : Hid (cnt (isBusy L xs t) xs.length = M) := hm
  clear hl hf hB hX hx hb hm
  go_enter Try.func76, Try.ntmps76
  go_upto_region 1 with fail
  generalize w.alloc (.cells #[.slice AL L.length cl, .slice AF F.length cf] 25) = W at hD hI ⊢
  go_wp2_with fail
  go_loopg [7, 8] xs.length (fun gh s7 s8 wi => ∃ j m : Nat, j ≤ xs.length ∧ gh = xs.length - j ∧ s8 = .int .i64 j ∧ s7 = .int .i64 m ∧ m ≤ j ∧ PJ w wi w.heap.size bl ol AL cl L bf of' AF cf F ∧ IntsR wi wi.heap.size bx ox AX xs ∧ Hid (cnt (isBusy L xs t) j = m))
  case atStart => exact ⟨0, 0, Nat.zero_le _, rfl, rfl, rfl, Nat.le_refl _, hD, hI, rfl⟩
  case round =>
    clear hD hI
    obtain ⟨j, m, hj, rfl, rfl, rfl, hmj, hD, hI, HC⟩ := hrel
    by_cases hjlt : j < xs.length
    · have hjlt' : (j : Int) < (xs.length : Int) := by omega
      have hjL : j < L.length := by have := Hx.out; omega
      have hjL' : (j : Int) < (L.length : Int) := by omega
      obtain rfl := hI.addr (by omega)
      obtain rfl := hD.rl.addr (by omega)
      have p0 := hD.c0
      have x0 := hI.cell j hjlt
      have y0 := hD.rl.cell j hjL
      have hbk := Hb.out j hjL
      have HS : Hid (cnt (isBusy L xs t) (j + 1) = m + (if decide (0 ≤ xs.getD j 0 ∧ xs.getD j 0 ≤ t ∧ t < xs.getD j 0 + L.getD j 0) = true then 1 else 0)) := by unfold Hid; simp only [cnt]; rw [HC.out]; rfl
      generalize xs.getD j 0 = x at x0 hbk HS
      generalize L.getD j 0 = l at y0 hbk HS
      obtain ⟨⟨l0, l1⟩, ⟨z0, z1⟩⟩ := hbk
      have hws : IntKind.i64.wrap (x + l) = x + l := IntWalk.i64_in _ (by omega)
      go_upto_region 5 with fail
      by_cases c1 : 0 ≤ x
      · by_cases c2 : x ≤ t
        · by_cases c3 : t < x + l
          · have HS2 : Hid (cnt (isBusy L xs t) (j + 1) = m + 1) := by unfold Hid; rw [HS.out, decide_eq_true ⟨c1, c2, c3⟩]; rfl
            go_quiet (fail)
            have hd : Below wr.heap.size wr (wr.drewN nq) := ⟨rfl, rfl, rfl, Nat.le_refl _, fun _ _ => rfl⟩
            replace hD := hD.below hd
            replace hI := (hI.below hd).more hd.size
            clear p0 x0 y0 hd hws
            go_wp2_with fail
            go_roundg (xs.length - (j + 1))
            case measure => go_light; omega
            case rel => go_light; exact ⟨j + 1, m + 1, by omega, rfl, by go_num, by go_num, by omega, hD, hI, HS2⟩
          · have HS2 : Hid (cnt (isBusy L xs t) (j + 1) = m) := by unfold Hid; rw [HS.out, decide_eq_false (fun h => c3 h.2.2)]; rfl
            go_quiet (fail)
            have hd : Below wr.heap.size wr (wr.drewN nq) := ⟨rfl, rfl, rfl, Nat.le_refl _, fun _ _ => rfl⟩
            replace hD := hD.below hd
            replace hI := (hI.below hd).more hd.size
            clear p0 x0 y0 hd hws
            go_wp2_with fail
            go_roundg (xs.length - (j + 1))
            case measure => go_light; omega
            case rel => go_light; exact ⟨j + 1, m, by omega, rfl, by go_num, rfl, by omega, hD, hI, HS2⟩
        · have HS2 : Hid (cnt (isBusy L xs t) (j + 1) = m) := by unfold Hid; rw [HS.out, decide_eq_false (fun h => c2 h.2.1)]; rfl
          have hd2 : decide (x ≤ t) = false := by simpa using c2
          go_quiet (fail)
          have hd : Below wr.heap.size wr (wr.drewN nq) := ⟨rfl, rfl, rfl, Nat.le_refl _, fun _ _ => rfl⟩
          replace hD := hD.below hd
          replace hI := (hI.below hd).more hd.size
          clear p0 x0 y0 hd hws
          go_wp2_with fail
          go_roundg (xs.length - (j + 1))
          case measure => go_light; omega
          case rel => go_light; exact ⟨j + 1, m, by omega, rfl, by go_num, rfl, by omega, hD, hI, HS2⟩
      · have HS2 : Hid (cnt (isBusy L xs t) (j + 1) = m) := by unfold Hid; rw [HS.out, decide_eq_false (fun h => c1 h.1)]; rfl
        have hd2 : decide (0 ≤ x) = false := by simpa using c1
        go_quiet (fail)
        have hd : Below wr.heap.size wr (wr.drewN nq) := ⟨rfl, rfl, rfl, Nat.le_refl _, fun _ _ => rfl⟩
        replace hD := hD.below hd
        replace hI := (hI.below hd).more hd.size
        clear p0 x0 y0 hd hws
        go_wp2_with fail
        go_roundg (xs.length - (j + 1))
        case measure => go_light; omega
        case rel => go_light; exact ⟨j + 1, m, by omega, rfl, by go_num, rfl, by omega, hD, hI, HS2⟩
    · have hje : j = xs.length := by omega
      obtain rfl : m = M := by rw [← HC.out, hje]; exact Hm.out
      have hjlt' : ¬ (j : Int) < (xs.length : Int) := by omega
      clear hje
      go_wp2_with fail
      go_ret
      exact ⟨rfl, hD.bel⟩
end Go.Proofs.Ytmgikoaeomieeaa
