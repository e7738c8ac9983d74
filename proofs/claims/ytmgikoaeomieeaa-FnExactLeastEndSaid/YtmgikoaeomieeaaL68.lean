/-
  impl: begins of none; from when a task may begin, and whether a hand is free.
-/
import Derived.Test.YtmgikoaeomieeaaL67
import Derived.Test.YtmgikoaeomieeaaL2
namespace Go.Proofs.Ytmgikoaeomieeaa
set_option linter.unusedVariables false
set_option linter.unusedSimpArgs false
open Go.RowKit Pp

set_option maxHeartbeats 1000000 in
set_option maxRecDepth 100000 in
theorem orderFits_c (L F xs : List Int) (h : Int) (AL AF AX : Option Addr) (bl ol cl bf of' cf bx ox cx B : Nat) (w : World) (hll : L.length ≤ 2000000) (hlf : F.length ≤ 2000000) (hlx : xs.length ≤ 2000000) (hcx : xs.length ≤ cx) (hB : B ≤ w.heap.size) (hl : IntsR w B bl ol AL L) (hf : IntsR w B bf of' AF F) (hX : IntsR w B bx ox AX xs) :
    Calls Try.prog 65 #[.agg #[.slice AL L.length cl, .slice AF F.length cf], .int .i64 h, .slice AX xs.length cx] w fun e w' => e = .returned (.bool (orderFits L F h xs)) ∧ Below w.heap.size w w' := by
  have hD := pj_new (t := 25) (cl := cl) (cf := cf) hB hl hf
  have hI := (hX.below (hD.bel.mono hB)).more (Nat.le_trans hB hD.bel.size)
  have e : orderFits L F h xs = (projOk L F && inB h 1 3 && orderOk xs (L.length : Int)) := rfl
  rw [e]
  obtain ⟨r1, hr1⟩ : ∃ r1, projOk L F = r1 := ⟨_, rfl⟩
  obtain ⟨r2, hr2⟩ : ∃ r2, inB h 1 3 = r2 := ⟨_, rfl⟩
  obtain ⟨r3, hr3⟩ : ∃ r3, orderOk xs (L.length : Int) = r3 := ⟨_, rfl⟩
  rw [hr1, hr2, hr3]
  have H1 := hide hr1
  have H2 := hide hr2
  have H3 := hide hr3
  clear hr1 hr2 hr3 e hl hf hB hX
  go_enter Try.func65, Try.ntmps65
  go_upto_region 1 with fail
  generalize w.alloc (.cells #[.slice AL L.length cl, .slice AF F.length cf] 25) = W at hD hI ⊢
  have p0 := hD.c0
  have p1 := hD.c1
  cases r1
  · go_wp2_with (go_at_call 45; go_fit (projectOk_c L F AL AF bl ol cl bf of' cf _ _ hll hlf (Nat.le_refl _) hD.rl hD.rf); rintro e w2 ⟨rfl, hb⟩; rw [H1.out]; replace hD := hD.below hb; clear p0 p1; have p0 := hD.c0; have p1 := hD.c1)
    go_ret
    exact ⟨rfl, hD.bel⟩
  · cases r2
    · go_wp2_with (first
        | (go_at_call 45; go_fit (projectOk_c L F AL AF bl ol cl bf of' cf _ _ hll hlf (Nat.le_refl _) hD.rl hD.rf); rintro e w2 ⟨rfl, hb⟩; rw [H1.out]; replace hI := (hI.below hb).more hb.size; replace hD := hD.below hb; clear p0 p1; have p0 := hD.c0; have p1 := hD.c1)
        | (go_at_call 60; go_fit (isHands_c h _); rintro e w3 ⟨rfl, rfl⟩; rw [H2.out]))
      go_ret
      exact ⟨rfl, hD.bel⟩
    · go_wp2_with (first
        | (go_at_call 45; go_fit (projectOk_c L F AL AF bl ol cl bf of' cf _ _ hll hlf (Nat.le_refl _) hD.rl hD.rf); rintro e w2 ⟨rfl, hb⟩; rw [H1.out]; replace hI := (hI.below hb).more hb.size; replace hD := hD.below hb; clear p0 p1; have p0 := hD.c0; have p1 := hD.c1)
        | (go_at_call 60; go_fit (isHands_c h _); rintro e w3 ⟨rfl, rfl⟩; rw [H2.out])
        | (go_at_call 90; go_fit (orderOk_c xs (L.length : Int) AX bx ox cx _ _ (by omega) hlx hcx (Nat.le_refl _) hI); rintro e w4 ⟨rfl, rfl⟩; rw [H3.out]))
      go_ret
      exact ⟨by cases r3 <;> rfl, hD.bel⟩

set_option maxHeartbeats 1000000 in
set_option maxRecDepth 100000 in
theorem none_c (L F : List Int) (AL AF : Option Addr) (bl ol cl bf of' cf B : Nat) (w : World) (hll : L.length ≤ 1000) (hB : B ≤ w.heap.size) (hl : IntsR w B bl ol AL L) (hf : IntsR w B bf of' AF F) :
    Calls Try.prog 66 #[.agg #[.slice AL L.length cl, .slice AF F.length cf]] w fun e w' => ∃ g, e = .returned (.slice (some ⟨g, 0, none⟩) L.length L.length) ∧ w.heap.size ≤ g ∧ w'.rowIs g 3 L.length (fun j => .int .i64 ((noneB L.length).getD j 0)) ∧ Below w.heap.size w w' := by
  have hmk := run_make_row' (P := Try.prog) 23 3 (.int .i64 0) 8 Try.underlying23 infoI rfl .i64 .i64 L.length (by omega) (by omega)
  have hD := pj_new (t := 25) (cl := cl) (cf := cf) hB hl hf
  clear hl hf hB
  go_enter Try.func66, Try.ntmps66
  go_upto_region 1 with fail
  generalize w.alloc (.cells #[.slice AL L.length cl, .slice AF F.length cf] 25) = W at hD ⊢
  have p0 := hD.c0
  go_upto_region 2 with fail
  have hrow0 := World.rowIs_made W (.int .i64 0) L.length 3
  have hW0 : Below W.heap.size W (W.alloc (.cells (madeCells #[.int .i64 0] L.length) 3)) := by go_grown
  generalize W.alloc (.cells (madeCells #[.int .i64 0] L.length) 3) = W2 at hrow0 hW0 ⊢
  obtain ⟨g, hg⟩ : ∃ g, W.heap.size = g := ⟨_, rfl⟩
  rw [hg] at hrow0 ⊢
  have hgW : W.heap.size ≤ g := by omega
  have hgw : w.heap.size ≤ g := by have := hD.bel.size; omega
  clear hmk p0 hg
  go_wp2_with fail
  go_loopg [11] L.length (fun gh s wr => ∃ k : Nat, k ≤ L.length ∧ gh = L.length - k ∧ s = .int .i64 k ∧ wr.rowIs g 3 L.length (fun j => .int .i64 (if j < k then -1 else 0)) ∧ Below W.heap.size W wr)
  case atStart => exact ⟨0, Nat.zero_le _, rfl, rfl, hrow0.congr (fun j _ => by simp), hW0⟩
  case round =>
    clear hrow0 hW0
    obtain ⟨k, hk, rfl, rfl, hrow, hW⟩ := hrel
    by_cases hlt : k < L.length
    · have hlt' : (k : Int) < (L.length : Int) := by omega
      have u1 := hrow.cell hlt
      have uf := hrow.frozen k
      have hset : (wr.setCell ⟨g, k, none⟩ (.int .i64 (-1))).rowIs g 3 L.length (fun j => .int .i64 (if j < k + 1 then -1 else 0)) := (hrow.set k (.int .i64 (-1))).congr (fun j _ => by
        by_cases e : j = k
        · subst e; simp
        · rw [if_neg e]
          by_cases e2 : j < k
          · rw [if_pos e2, if_pos (by omega)]
          · rw [if_neg e2, if_neg (by omega)])
      have hW2 := hW.setCell (p := ⟨g, k, none⟩) hgW (.int .i64 (-1))
      have Hset := hide hset
      clear hset
      go_wp2_with fail
      go_roundg (L.length - (k + 1))
      case measure => go_light; omega
      case rel => go_light; exact ⟨k + 1, by omega, rfl, by go_num, Hset.out, hW2⟩
    · have hlt' : ¬ (k : Int) < (L.length : Int) := by omega
      have hbw := hD.bel.trans (hW.mono hD.bel.size)
      have hrow2 : wr.rowIs g 3 L.length (fun j => .int .i64 ((noneB L.length).getD j 0)) := hrow.congr (fun j hj => by rw [getD_none hj, if_pos (by omega)])
      go_wp2_with fail
      go_ret
      exact ⟨g, rfl, hgw, hrow2, hbw⟩

theorem frOk_no {F b : List Int} {i k n : Nat} (hk : k < n) (ha : aft F i k = true) (h : ¬ 0 ≤ b.getD k 0) : frOk F b i n = false := by
  rw [Bool.eq_false_iff]
  intro hh
  exact h (frOk_iff.1 hh k hk ha)
set_option maxHeartbeats 2000000 in
set_option maxRecDepth 100000 in
theorem from_c (L F xs : List Int) (i : Nat) (hi : i < L.length) (hp : projOk L F = true) (hx : xs.length = L.length) (hb : ∀ j, j < L.length → -1 ≤ xs.getD j 0 ∧ xs.getD j 0 ≤ 10000) (AL AF AX : Option Addr) (bl ol cl bf of' cf bx ox cx B : Nat) (w : World) (hB : B ≤ w.heap.size) (hl : IntsR w B bl ol AL L) (hf : IntsR w B bf of' AF F) (hX : IntsR w B bx ox AX xs) :
    Calls Try.prog 67 #[.agg #[.slice AL L.length cl, .slice AF F.length cf], .slice AX xs.length cx, .int .i64 (i : Int)] w fun e w' => e = .returned (.tuple #[.int .i64 (if frOk F xs i i then erl L F xs i i else 0), .bool (frOk F xs i i)]) ∧ Below w.heap.size w w' := by
  obtain ⟨h6, hle, _, _⟩ := projOk_iff.1 hp
  have hD := pj_new (t := 25) (cl := cl) (cf := cf) hB hl hf
  have hI := (hX.below (hD.bel.mono hB)).more (Nat.le_trans hB hD.bel.size)
  have hbits := proj_bits hp (show i < F.length by omega)
  have Hx := hide hx
  have Hb := hide hb
  have Hp := hide hp
  have Hle := hide hle
  obtain ⟨rf, Hf⟩ : ∃ rf, Hid (frOk F xs i i = rf) := ⟨_, rfl⟩
  obtain ⟨rt, Ht⟩ : ∃ rt, Hid (erl L F xs i i = rt) := ⟨_, rfl⟩
  rw [Hf.out, Ht.out]
  clear hl hf hB hX hx hb hp hle
  go_enter Try.func67, Try.ntmps67
  go_upto_region 1 with fail
  generalize w.alloc (.cells #[.slice AL L.length cl, .slice AF F.length cf] 25) = W at hD hI ⊢
  go_wp2_with fail
  go_loopg [8, 11] i (fun gh s8 s11 wr => ∃ (k : Nat) (m : Int), k ≤ i ∧ gh = i - k ∧ s11 = .int .i64 k ∧ s8 = .int .i64 m ∧ (0 ≤ m ∧ m ≤ 10100) ∧ Hid (erl L F xs i k = m ∧ frOk F xs i k = true) ∧ PJ w wr w.heap.size bl ol AL cl L bf of' AF cf F ∧ IntsR wr wr.heap.size bx ox AX xs)
  case atStart => exact ⟨0, 0, Nat.zero_le _, rfl, rfl, rfl, by omega, ⟨rfl, rfl⟩, hD, hI⟩
  case round =>
    clear hD hI
    obtain ⟨k, m, hk, rfl, rfl, rfl, hm, HE, hD, hI⟩ := hrel
    have p0 := hD.c0
    have p1 := hD.c1
    by_cases hki : k < i
    · have hki' : (k : Int) < (i : Int) := by omega
      cases ha : aft F i k
      · have HE2 : Hid (erl L F xs i (k + 1) = m ∧ frOk F xs i (k + 1) = true) := by
          refine ⟨?_, ?_⟩
          · simp only [erl]; rw [ha, if_neg (by simp)]; exact HE.out.1
          · simp only [frOk]; rw [ha, HE.out.2]; rfl
        have Ha := hide ha
        clear ha
        go_wp2_with (go_at_call 46; go_fit (after_c L F i k (by have := Hle.out; omega) (by omega) hbits AL AF bl ol cl bf of' cf _ _ (by have := Hle.out; omega) (Nat.le_refl _) hD.rl hD.rf); rintro e w2 ⟨rfl, hb⟩; rw [Ha.out]; replace hI := (hI.below hb).more hb.size; replace hD := hD.below hb; clear p0 p1; have p0 := hD.c0; have p1 := hD.c1)
        go_roundg (i - (k + 1))
        case measure => go_light; omega
        case rel => go_light; exact ⟨k + 1, m, by omega, rfl, by go_num, rfl, hm, HE2, hD, hI⟩
      · have Ha := hide ha
        obtain rfl := hI.addr (by have := Hx.out; omega)
        have hkx : (k : Int) < (xs.length : Int) := by have := Hx.out; omega
        have hkL : (k : Int) < (L.length : Int) := by omega
        have hbk := Hb.out k (by omega)
        have hLk := long_at Hp.out (show k < L.length by omega)
        go_upto_if 18 with (go_at_call 46; go_fit (after_c L F i k (by have := Hle.out; omega) (by omega) hbits AL AF bl ol cl bf of' cf _ _ (by have := Hle.out; omega) (Nat.le_refl _) hD.rl hD.rf); rintro e w2 ⟨rfl, hb⟩; rw [Ha.out]; replace hI := (hI.below hb).more hb.size; replace hD := hD.below hb; clear p0 p1; have p0 := hD.c0; have p1 := hD.c1)
        have x0 := hI.cell k (by have := Hx.out; omega)
        by_cases hneg : xs.getD k 0 = -1
        · obtain rfl : rf = false := by rw [← Hf.out]; exact frOk_no hki ha (by omega)
          rw [hneg] at x0
          clear ha hneg hbk
          go_wp2_with fail
          refine bodyPost_ret (v := .tuple #[.int .i64 0, .bool false]) (by simp [results, Try.results67, go_sem]) rfl ?_
          exact ⟨rfl, hD.bel⟩
        · obtain rfl := hD.rl.addr (by omega)
          have y0 := hD.rl.cell k (by omega)
          have HE2 : Hid (erl L F xs i (k + 1) = max m (xs.getD k 0 + L.getD k 0) ∧ frOk F xs i (k + 1) = true) := by
            refine ⟨?_, ?_⟩
            · simp only [erl]; rw [ha, if_pos rfl, HE.out.1]
            · simp only [frOk]; rw [ha, HE.out.2, decide_eq_true (by omega)]; rfl
          generalize xs.getD k 0 = x at x0 hbk hneg HE2
          generalize L.getD k 0 = l at y0 hLk HE2
          have hne : (x == -1) = false := by simpa using hneg
          have hws : IntKind.i64.wrap (x + l) = x + l := IntWalk.i64_in _ (by omega)
          obtain ⟨mv, hmv⟩ : ∃ mv, max m (x + l) = mv := ⟨_, rfl⟩
          have hm1 : (if m < x + l then x + l else m) = mv := by rw [← hmv]; split <;> omega
          have hm2 : (if x + l < m then m else x + l) = mv := by rw [← hmv]; split <;> omega
          have hmb : 0 ≤ mv ∧ mv ≤ 10100 := by omega
          rw [hmv] at HE2
          clear hmv ha
          go_upto_region 8 with fail
          go_quiet (fail)
          have hd : Below w2.heap.size w2 (w2.drewN nq) := ⟨rfl, rfl, rfl, Nat.le_refl _, fun _ _ => rfl⟩
          replace hD := hD.below hd
          replace hI := (hI.below hd).more hd.size
          clear p0 p1 x0 y0 hm1 hm2 hws hd hne hneg hbk hLk
          go_wp2_with fail
          go_roundg (i - (k + 1))
          case measure => go_light; omega
          case rel => go_light; exact ⟨k + 1, mv, by omega, rfl, by go_num, rfl, hmb, HE2, hD, hI⟩
    · obtain rfl : k = i := by omega
      have hki' : ¬ (k : Int) < (k : Int) := by omega
      have e1 : m = rt := by rw [← Ht.out]; exact HE.out.1.symm
      obtain rfl : rf = true := by rw [← Hf.out]; exact HE.out.2
      subst e1
      go_wp2_with fail
      refine bodyPost_ret (v := .tuple #[.int .i64 m, .bool true]) (by simp [results, Try.results67, go_sem]) rfl ?_
      exact ⟨rfl, hD.bel⟩

set_option maxHeartbeats 2000000 in
set_option maxRecDepth 100000 in
theorem free_c (L F xs : List Int) (h t : Int) (i : Nat) (hi : i < L.length) (ht : 0 ≤ t ∧ t ≤ 100000) (hx : xs.length = L.length) (hb : ∀ j, j < L.length → (0 ≤ L.getD j 0 ∧ L.getD j 0 ≤ 100) ∧ (-1 ≤ xs.getD j 0 ∧ xs.getD j 0 ≤ 10000)) (AL AF AX : Option Addr) (bl ol cl bf of' cf bx ox cx B : Nat) (w : World) (hll : L.length ≤ 2000000) (hB : B ≤ w.heap.size) (hl : IntsR w B bl ol AL L) (hf : IntsR w B bf of' AF F) (hX : IntsR w B bx ox AX xs) :
    Calls Try.prog 68 #[.agg #[.slice AL L.length cl, .slice AF F.length cf], .slice AX xs.length cx, .int .i64 h, .int .i64 (i : Int), .int .i64 t] w fun e w' => e = .returned (.bool (freeAt L xs h i t)) ∧ Below w.heap.size w w' := by
  have hD := pj_new (t := 25) (cl := cl) (cf := cf) hB hl hf
  have hI := (hX.below (hD.bel.mono hB)).more (Nat.le_trans hB hD.bel.size)
  have Hx := hide hx
  have Hb := hide hb
  obtain ⟨r, Hr⟩ : ∃ r, Hid (freeAt L xs h i t = r) := ⟨_, rfl⟩
  rw [Hr.out]
  obtain ⟨l, hl'⟩ : ∃ l, L.getD i 0 = l := ⟨_, rfl⟩
  have hlb := (hb i hi).1
  rw [hl'] at hlb
  obtain ⟨N, rfl⟩ := Int.eq_ofNat_of_zero_le hlb.1
  have Hl := hide hl'
  have Hr2 : Hid (freeN L xs h t N = r) := by unfold Hid; rw [← Hr.out]; unfold freeAt; rw [hl']; rfl
  obtain ⟨ht0, ht1⟩ := ht
  clear hl hf hB hX hx hb hl' Hr
  go_enter Try.func68, Try.ntmps68
  go_upto_region 1 with fail
  generalize w.alloc (.cells #[.slice AL L.length cl, .slice AF F.length cf] 25) = W at hD hI ⊢
  go_wp2_with fail
  go_loopg [11] N (fun gh s wr => ∃ k : Nat, k ≤ N ∧ gh = N - k ∧ s = .int .i64 (t + k) ∧ Hid (freeN L xs h t k = true) ∧ PJ w wr w.heap.size bl ol AL cl L bf of' AF cf F ∧ IntsR wr wr.heap.size bx ox AX xs)
  case atStart => exact ⟨0, Nat.zero_le _, rfl, by simp, rfl, hD, hI⟩
  case round =>
    clear hD hI
    obtain ⟨k, hk, rfl, rfl, HF, hD, hI⟩ := hrel
    have p0 := hD.c0
    have p1 := hD.c1
    obtain rfl := hD.rl.addr (by omega)
    have y0 := hD.rl.cell i hi
    rw [Hl.out] at y0
    have hiL : (i : Int) < (L.length : Int) := by omega
    by_cases hkN : k < N
    · have hkN' : t + (k : Int) < t + (N : Int) := by omega
      obtain ⟨u, hu⟩ : ∃ u, t + (k : Int) = u := ⟨_, rfl⟩
      rw [hu] at hkN' ⊢
      have hub : 0 ≤ u ∧ u ≤ 200000 := by omega
      obtain ⟨hu0, hu1⟩ := hub
      have Hu : Hid (u + 1 = t + ((k + 1 : Nat) : Int)) := by unfold Hid; omega
      have HF2 : Hid (freeN L xs h t (k + 1) = decide ((busyN L xs u : Int) < h)) := by unfold Hid; simp only [freeN]; rw [HF.out, hu]; rfl
      obtain ⟨m, hm⟩ : ∃ m, busyN L xs u = m := ⟨_, rfl⟩
      rw [hm] at HF2
      have Hm := hide hm
      clear hm hu
      by_cases hc : (m : Int) < h
      · have HF3 : Hid (freeN L xs h t (k + 1) = true) := by unfold Hid; rw [HF2.out, decide_eq_true hc]
        have hc2 : ¬ h ≤ (m : Int) := by omega
        go_wp2_with (go_at_call 72; go_fit (busyX_c L F xs u Hx.out Hb.out _ AF AX bl ol cl bf of' cf bx ox cx _ _ hll (Nat.le_refl _) hD.rl hD.rf hI); rintro e w2 ⟨rfl, hb⟩; rw [Hm.out]; replace hI := (hI.below hb).more hb.size; replace hD := hD.below hb; clear p0 p1; have p0 := hD.c0; have p1 := hD.c1)
        go_roundg (N - (k + 1))
        case measure => go_light; omega
        case rel => go_light; exact ⟨k + 1, by omega, rfl, by rw [← Hu.out], HF3, hD, hI⟩
      · have hc2 : h ≤ (m : Int) := by omega
        obtain rfl : r = false := by
          rw [← Hr2.out, Bool.eq_false_iff]
          intro hh
          have := freeN_iff.1 hh k hkN
          rw [show t + (k : Int) = u by have := Hu.out; omega, Hm.out] at this
          exact hc this
        go_wp2_with (go_at_call 72; go_fit (busyX_c L F xs u Hx.out Hb.out _ AF AX bl ol cl bf of' cf bx ox cx _ _ hll (Nat.le_refl _) hD.rl hD.rf hI); rintro e w2 ⟨rfl, hb⟩; rw [Hm.out]; replace hI := (hI.below hb).more hb.size; replace hD := hD.below hb; clear p0 p1; have p0 := hD.c0; have p1 := hD.c1)
        go_ret
        exact ⟨rfl, hD.bel⟩
    · obtain rfl : k = N := by omega
      obtain rfl : r = true := by rw [← Hr2.out]; exact HF.out
      have hkN' : ¬ t + (k : Int) < t + (k : Int) := by omega
      go_wp2_with fail
      go_ret
      exact ⟨rfl, hD.bel⟩
end Go.Proofs.Ytmgikoaeomieeaa
