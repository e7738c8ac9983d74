/-
  impl: ProjectOk; early begins, ends.
  impl: early begins.
  impl: EarlyOf, LengthOf.
  impl: how many tasks are being done.
  impl: begins of all tasks; their end.
  impl: the end of begins.
-/
import Derived.Test.YtmgikoaeomieeaaR60
import Derived.Test.YtmgikoaeomieeaaL5a
import Derived.Test.YtmgikoaeomieeaaL1
import Derived.Test.YtmgikoaeomieeaaL11a
import Derived.Test.YtmgikoaeomieeaaZ1
import Derived.Test.YtmgikoaeomieeaaL2
namespace Go.Proofs.Ytmgikoaeomieeaa
set_option linter.unusedVariables false
set_option linter.unusedSimpArgs false
open Go.RowKit Pp

theorem two_pow {i : Nat} (h : i < 7) : 1 ≤ (2 : Int) ^ i ∧ (2 : Int) ^ i ≤ 64 := by
  have : i = 0 ∨ i = 1 ∨ i = 2 ∨ i = 3 ∨ i = 4 ∨ i = 5 ∨ i = 6 := by omega
  rcases this with rfl | rfl | rfl | rfl | rfl | rfl | rfl <;> decide
theorem proj_bits {L F : List Int} (h : projOk L F = true) {i : Nat} (hi : i < F.length) : 0 ≤ F.getD i 0 ∧ F.getD i 0 ≤ 63 := by
  obtain ⟨h1, h2, _, h4⟩ := projOk_iff.1 h
  have := h4 i hi
  have := (two_pow (i := i) (by omega)).2
  omega
set_option maxHeartbeats 2000000 in
set_option maxRecDepth 100000 in
theorem projectOk_c (L F : List Int) (AL AF : Option Addr) (bl ol cl bf of' cf B : Nat) (w : World) (hll : L.length ≤ 2000000) (hlf : F.length ≤ 2000000) (hB : B ≤ w.heap.size) (hl : IntsR w B bl ol AL L) (hf : IntsR w B bf of' AF F) :
    Calls Try.prog 45 #[.agg #[.slice AL L.length cl, .slice AF F.length cf]] w fun e w' => e = .returned (.bool (projOk L F)) ∧ Below w.heap.size w w' := by
  obtain ⟨r, Hr⟩ : ∃ r, Hid (projOk L F = r) := ⟨_, rfl⟩
  rw [Hr.out]
  have hD := pj_new (t := 25) (cl := cl) (cf := cf) hB hl hf
  clear hl hf hB
  by_cases h6 : L.length ≤ 6
  · by_cases hle : F.length = L.length
    · have hlez : ((F.length : Int) == (L.length : Int)) = true := by simp [hle]
      have hlez2 : ((F.length : Int) != (L.length : Int)) = false := by simp [hle]
      have h6z : ¬ (6 : Int) < (L.length : Int) := by omega
      have hf6 : F.length ≤ 6 := by omega
      have Hle := hide hle
      obtain ⟨ra, hra⟩ : ∃ ra, (L.all fun v => inB v 1 20) = ra := ⟨_, rfl⟩
      have Hra := hide hra
      clear hle hra
      cases ra
      · obtain rfl : r = false := by rw [← Hr.out]; unfold projOk; rw [Hra.out]; simp
        go_enter Try.func45, Try.ntmps45
        go_upto_region 1 with fail
        generalize w.alloc (.cells #[.slice AL L.length cl, .slice AF F.length cf] 25) = W at hD ⊢
        have p0 := hD.c0
        have p1 := hD.c1
        go_wp2_with (go_at_call 79; go_fit (allIn_c L 1 20 AL bl ol cl _ _ hll (Nat.le_refl _) hD.rl); rintro e w2 ⟨rfl, hb⟩; rw [Hra.out]; replace hD := hD.below hb)
        go_ret
        exact ⟨rfl, hD.bel⟩
      · skip
        go_enter Try.func45, Try.ntmps45
        go_upto_region 1 with fail
        generalize w.alloc (.cells #[.slice AL L.length cl, .slice AF F.length cf] 25) = W at hD ⊢
        have p0 := hD.c0
        have p1 := hD.c1
        go_upto_region 3 with (go_at_call 79; go_fit (allIn_c L 1 20 AL bl ol cl _ _ hll (Nat.le_refl _) hD.rl); rintro e w2 ⟨rfl, hb⟩; rw [Hra.out]; replace hD := hD.below hb)
        clear p0 p1
        have p1 := hD.c1
        go_wp2_with fail
        go_loopg [27] F.length (fun gh s wr => ∃ k : Nat, k ≤ F.length ∧ gh = F.length - k ∧ s = .int .i64 k ∧ PJ w wr w.heap.size bl ol AL cl L bf of' AF cf F ∧ Hid (∀ i, i < k → inB (F.getD i 0) 0 (2 ^ i - 1) = true))
        case atStart => exact ⟨0, Nat.zero_le _, rfl, rfl, hD, fun i hi => by omega⟩
        case round =>
          clear hD p1
          obtain ⟨k, hk, rfl, rfl, hD, HA⟩ := hrel
          by_cases hlt : k < F.length
          · have hlt' : (k : Int) < (F.length : Int) := by omega
            obtain rfl := hD.rf.addr (by omega)
            have x0 := hD.rf.cell k hlt
            obtain ⟨q1, q2⟩ := two_pow (i := k) (by omega)
            obtain ⟨M, hM⟩ : ∃ M, (2 : Int) ^ k = M := ⟨_, rfl⟩
            obtain ⟨v, hv⟩ : ∃ v, F.getD k 0 = v := ⟨_, rfl⟩
            rw [hv] at x0
            have Hv := hide hv
            rw [hM] at q1 q2
            have hw1 : IntKind.i64.wrap M = M := IntWalk.i64_in _ (by omega)
            have hw2 : IntKind.i64.wrap (M - 1) = M - 1 := IntWalk.i64_in _ (by omega)
            have HM := hide hM
            have hk0 : ¬ (k : Int) < 0 := by omega
            have hk64 : (k : Int) < 64 := by omega
            clear hv
            cases hin : inB v 0 (M - 1)
            · obtain rfl : r = false := by
                rw [← Hr.out]
                unfold projOk
                have : ((List.range F.length).all fun i => inB (F.getD i 0) 0 (2 ^ i - 1)) = false := by
                  rw [Bool.eq_false_iff]
                  intro hh
                  have := List.all_eq_true.1 hh k (List.mem_range.2 hlt)
                  rw [Hv.out, HM.out, hin] at this
                  cases this
                rw [this, Bool.and_false]
              have Hin := hide hin
              clear hin
              go_wp2_with (go_at_call 80; go_fit (in_c _ _ _ _); rintro e w2 ⟨rfl, rfl⟩; rw [Hin.out])
              go_ret
              exact ⟨rfl, hD.bel⟩
            · have HN : Hid (∀ i, i < k + 1 → inB (F.getD i 0) 0 (2 ^ i - 1) = true) := by
                intro i hi
                by_cases e : i = k
                · subst e; rw [Hv.out, HM.out]; exact hin
                · exact HA.out i (by omega)
              have Hin := hide hin
              clear hin
              go_wp2_with (go_at_call 80; go_fit (in_c _ _ _ _); rintro e w2 ⟨rfl, rfl⟩; rw [Hin.out])
              go_roundg (F.length - (k + 1))
              case measure => go_light; omega
              case rel => go_light; exact ⟨k + 1, by omega, rfl, by go_num, hD, HN⟩
          · obtain rfl : r = true := by
              rw [← Hr.out]
              unfold projOk
              rw [Hra.out, decide_eq_true h6, decide_eq_true Hle.out]
              have : ((List.range F.length).all fun i => inB (F.getD i 0) 0 (2 ^ i - 1)) = true := List.all_eq_true.2 (fun i hi => HA.out i (by have := List.mem_range.1 hi; omega))
              rw [this]; rfl
            have hlt' : ¬ (k : Int) < (F.length : Int) := by omega
            go_wp2_with fail
            go_ret
            exact ⟨rfl, hD.bel⟩
    · obtain rfl : r = false := by rw [← Hr.out]; unfold projOk; rw [decide_eq_false hle]; simp
      have hlez : ((F.length : Int) == (L.length : Int)) = false := by simp; omega
      have hlez2 : ((F.length : Int) != (L.length : Int)) = true := by simp; omega
      have h6z : ¬ (6 : Int) < (L.length : Int) := by omega
      go_enter Try.func45, Try.ntmps45
      go_upto_region 1 with fail
      generalize w.alloc (.cells #[.slice AL L.length cl, .slice AF F.length cf] 25) = W at hD ⊢
      have p0 := hD.c0
      have p1 := hD.c1
      go_wp2_with fail
      go_ret
      exact ⟨rfl, hD.bel⟩
  · obtain rfl : r = false := by rw [← Hr.out]; unfold projOk; rw [decide_eq_false h6]; simp
    have h6z : (6 : Int) < (L.length : Int) := by omega
    go_enter Try.func45, Try.ntmps45
    go_upto_region 1 with fail
    generalize w.alloc (.cells #[.slice AL L.length cl, .slice AF F.length cf] 25) = W at hD ⊢
    have p0 := hD.c0
    have p1 := hD.c1
    go_wp2_with fail
    go_ret
    exact ⟨rfl, hD.bel⟩

set_option maxHeartbeats 2000000 in
set_option maxRecDepth 100000 in
theorem end_c (L F xs : List Int) (hx : xs.length = L.length) (hb : ∀ i, i < L.length → (0 ≤ L.getD i 0 ∧ L.getD i 0 ≤ 100) ∧ (-1 ≤ xs.getD i 0 ∧ xs.getD i 0 ≤ 10000)) (AL AF AX : Option Addr) (bl ol cl bf of' cf bx ox cx B : Nat) (w : World) (hll : L.length ≤ 2000000) (hB : B ≤ w.heap.size) (hl : IntsR w B bl ol AL L) (hf : IntsR w B bf of' AF F) (hX : IntsR w B bx ox AX xs) :
    Calls Try.prog 52 #[.agg #[.slice AL L.length cl, .slice AF F.length cf], .slice AX L.length cx] w fun e w' => e = .returned (.int .i64 (endOf L xs)) ∧ Below w.heap.size w w' := by
  have hD := pj_new (t := 25) (cl := cl) (cf := cf) hB hl hf
  have hI := (hX.below (hD.bel.mono hB)).more (Nat.le_trans hB hD.bel.size)
  have Hx := hide hx
  have Hb := hide hb
  clear hl hf hB hX hx hb
  go_enter Try.func52, Try.ntmps52
  go_upto_region 1 with fail
  generalize w.alloc (.cells #[.slice AL L.length cl, .slice AF F.length cf] 25) = W at hD hI ⊢
  go_wp2_with fail
  go_loopg [5, 10] L.length (fun gh s5 s10 wr => ∃ (k : Nat) (m : Int), k ≤ L.length ∧ gh = L.length - k ∧ s10 = .int .i64 k ∧ s5 = .int .i64 m ∧ (0 ≤ m ∧ m ≤ 10100) ∧ Hid (endTo L xs k = m) ∧ PJ w wr w.heap.size bl ol AL cl L bf of' AF cf F ∧ IntsR wr wr.heap.size bx ox AX xs)
  case atStart => exact ⟨0, 0, Nat.zero_le _, rfl, rfl, rfl, by omega, rfl, hD, hI⟩
  case round =>
    clear hD hI
    obtain ⟨k, m, hk, rfl, rfl, rfl, hm, HE, hD, hI⟩ := hrel
    have p0 := hD.c0
    by_cases hlt : k < L.length
    · have hlt' : (k : Int) < (L.length : Int) := by omega
      obtain rfl := hI.addr (by have := Hx.out; omega)
      obtain rfl := hD.rl.addr (by omega)
      have x0 := hI.cell k (by have := Hx.out; omega)
      have y0 := hD.rl.cell k hlt
      have hbk := Hb.out k hlt
      have HS : Hid (endTo L xs (k + 1) = max m (xs.getD k 0 + L.getD k 0)) := by unfold Hid; simp only [endTo]; rw [HE.out]
      generalize xs.getD k 0 = x at x0 hbk HS
      generalize L.getD k 0 = l at y0 hbk HS
      obtain ⟨⟨l0, l1⟩, ⟨z0, z1⟩⟩ := hbk
      have hws : IntKind.i64.wrap (x + l) = x + l := IntWalk.i64_in _ (by omega)
      obtain ⟨mv, hmv⟩ : ∃ mv, max m (x + l) = mv := ⟨_, rfl⟩
      have hm1 : (if m < x + l then x + l else m) = mv := by rw [← hmv]; split <;> omega
      have hm2 : (if x + l < m then m else x + l) = mv := by rw [← hmv]; split <;> omega
      have hmb : 0 ≤ mv ∧ mv ≤ 10100 := by omega
      rw [hmv] at HS
      clear hmv
      go_wp2_with fail
      go_roundg (L.length - (k + 1))
      case measure => go_light; omega
      case rel => go_light; exact ⟨k + 1, mv, by omega, rfl, by go_num, rfl, hmb, HS, hD, hI⟩
    · obtain rfl : k = L.length := by omega
      go_wp2_with fail
      go_ret
      exact ⟨by unfold endOf; rw [HE.out]; rfl, hD.bel⟩

theorem early_bound {L F : List Int} (hp : projOk L F = true) : ∀ i, i < L.length → 0 ≤ (Pp.early L F).getD i 0 ∧ (Pp.early L F).getD i 0 ≤ 20 * (i : Int) := by
  intro i
  induction i using Nat.strongRecOn with
  | _ i ih =>
    intro hi
    rw [early_at hi]
    refine ⟨erl_nonneg _ _ _ _ _, erl_le (by omega) (fun k hk _ => ?_)⟩
    have := ih k hk (by omega)
    have := long_at hp (show k < L.length by omega)
    omega
theorem erl_bound {L F : List Int} (hp : projOk L F = true) {i : Nat} (hi : i < L.length) {k : Nat} (hk : k ≤ i) : 0 ≤ erl L F (Pp.early L F) i k ∧ erl L F (Pp.early L F) i k ≤ 20 * (i : Int) := by
  refine ⟨erl_nonneg _ _ _ _ _, erl_le (by omega) (fun j hj _ => ?_)⟩
  have := early_bound hp j (by omega)
  have := long_at hp (show j < L.length by omega)
  omega
set_option maxHeartbeats 4000000 in
set_option maxRecDepth 100000 in
theorem early_q (L F : List Int) (hp : projOk L F = true) (AL AF : Option Addr) (bl ol cl bf of' cf B : Nat) (w : World) (hB : B ≤ w.heap.size) (hl : IntsR w B bl ol AL L) (hf : IntsR w B bf of' AF F) :
    Calls Try.prog 51 #[.agg #[.slice AL L.length cl, .slice AF F.length cf]] w fun e w' => ∃ g, e = .returned (.slice (some ⟨g, 0, none⟩) L.length L.length) ∧ w.heap.size ≤ g ∧ w'.rowIs g 3 L.length (fun j => .int .i64 ((Pp.early L F).getD j 0)) ∧ Below w.heap.size w w' := by
  obtain ⟨h6, hle, hL20, hF⟩ := projOk_iff.1 hp
  have hmk := run_make_row' (P := Try.prog) 23 3 (.int .i64 0) 8 Try.underlying23 infoI rfl .i64 .i64 L.length (by omega) (by omega)
  have hD := pj_new (t := 25) (cl := cl) (cf := cf) hB hl hf
  have Hp := hide hp
  have Hle := hide hle
  clear hl hf hB hp hle hL20 hF
  go_enter Try.func51, Try.ntmps51
  go_upto_region 1 with fail
  generalize w.alloc (.cells #[.slice AL L.length cl, .slice AF F.length cf] 25) = W at hD ⊢
  have p0 := hD.c0
  go_upto_region 2 with fail
  have hrow0 := World.rowIs_made W (.int .i64 0) L.length 3
  have hW0 : Below W.heap.size W (W.alloc (.cells (madeCells #[.int .i64 0] L.length) 3)) := by go_grown
  generalize W.alloc (.cells (madeCells #[.int .i64 0] L.length) 3) = W2 at hrow0 hW0 ⊢
  obtain ⟨g, hg⟩ : ∃ g, W.heap.size = g := ⟨_, rfl⟩
  rw [hg] at hrow0 ⊢
  have hgW : W.heap.size ≤ g := by omega
  have hgw : w.heap.size ≤ g := by have := hD.bel.size; omega
  clear hmk p0 hg
  go_wp2_with fail
  go_loopg [12] L.length (fun gh s wr => ∃ (i : Nat) (f : Nat → Int), i ≤ L.length ∧ gh = L.length - i ∧ s = .int .i64 i ∧ wr.rowIs g 3 L.length (fun j => .int .i64 (f j)) ∧ Hid ((∀ j, j < i → f j = (Pp.early L F).getD j 0) ∧ ∀ j, i ≤ j → f j = 0) ∧ Below W.heap.size W wr)
  case atStart => exact ⟨0, fun _ => 0, Nat.zero_le _, rfl, rfl, hrow0, ⟨fun j hj => by omega, fun _ _ => rfl⟩, hW0⟩
  case round =>
    clear hrow0 hW0
    obtain ⟨i, f, hi, rfl, rfl, hrow, HF, hW⟩ := hrel
    by_cases hlt : i < L.length
    · have hlt' : (i : Int) < (L.length : Int) := by omega
      have hi0 : (0 : Int) ≤ (i : Int) := by omega
      go_upto_region 5 with fail
      go_wp2_with fail
      go_loopg [16] i (fun gh s wi => ∃ (k : Nat) (f : Nat → Int), k ≤ i ∧ gh = i - k ∧ s = .int .i64 k ∧ wi.rowIs g 3 L.length (fun j => .int .i64 (f j)) ∧ Hid ((∀ j, j < i → f j = (Pp.early L F).getD j 0) ∧ f i = erl L F (Pp.early L F) i k ∧ ∀ j, i < j → f j = 0) ∧ Below W.heap.size W wi)
      case atStart => exact ⟨0, f, Nat.zero_le _, rfl, rfl, hrow, ⟨HF.out.1, HF.out.2 i (Nat.le_refl _), fun j hj => HF.out.2 j (by omega)⟩, hW⟩
      case round =>
        clear hrow hW HF
        obtain ⟨k, f, hk, rfl, rfl, hrow, HF, hW⟩ := hrel
        by_cases hki : k < i
        · have hki' : (k : Int) < (i : Int) := by omega
          have hkl : (k : Int) < (L.length : Int) := by omega
          have hDi := hD.below hW
          have p0 := hDi.c0
          have p1 := hDi.c1
          have hbits := proj_bits Hp.out (show i < F.length by have := Hle.out; omega)
          go_upto_if 22 with (go_at_call 46; go_fit (after_c L F i k (by have := Hle.out; omega) (by omega) hbits AL AF bl ol cl bf of' cf _ _ (by have := Hle.out; omega) (Nat.le_refl _) hDi.rl hDi.rf); rintro e w3 ⟨rfl, hb3⟩)
          have hrow3 := rowIs_below hrow hb3 (hrow.lt)
          have hW3 := hW.trans (hb3.mono hW.size)
          have hD3 := hDi.below hb3
          clear p0 p1 hrow hDi hW hb3
          cases ha : aft F i k
          · have HF2 : Hid ((∀ j, j < i → f j = (Pp.early L F).getD j 0) ∧ f i = erl L F (Pp.early L F) i (k + 1) ∧ ∀ j, i < j → f j = 0) := by
              refine ⟨HF.out.1, ?_, HF.out.2.2⟩
              simp only [erl]
              rw [ha, if_neg (by simp)]
              exact HF.out.2.1
            clear ha
            go_wp2_with fail
            go_roundg (i - (k + 1))
            case measure => go_light; omega
            case rel => go_light; exact ⟨k + 1, f, by omega, rfl, by go_num, hrow3, HF2, hW3⟩
          · have hek := early_bound Hp.out k (by omega)
            have hei := erl_bound Hp.out hlt (Nat.le_of_lt hki)
            have hLk := long_at Hp.out (show k < L.length by omega)
            have hfk := HF.out.1 k hki
            have hfi := HF.out.2.1
            have HM : Hid (erl L F (Pp.early L F) i (k + 1) = max (f i) (f k + L.getD k 0)) := by
              unfold Hid
              simp only [erl]
              rw [ha, if_pos rfl, hfk, hfi]
            have hbk : 0 ≤ f k ∧ f k ≤ 120 := by rw [hfk]; omega
            have hbi : 0 ≤ f i ∧ f i ≤ 120 := by rw [hfi]; omega
            clear ha hek hei hfk hfi
            go_upto_region 9 with fail
            have p0 := hD3.c0
            obtain rfl := hD3.rl.addr (by omega)
            have y0 := hD3.rl.cell k (by omega)
            have u1 := hrow3.cell hlt
            have u2 := hrow3.cell (show k < L.length by omega)
            have uf := hrow3.frozen i
            have hset := fun v => hrow3.set i (.int .i64 v)
            have Hset := hide hset
            obtain ⟨x, hx⟩ : ∃ x, f i = x := ⟨_, rfl⟩
            obtain ⟨y, hy⟩ : ∃ y, f k = y := ⟨_, rfl⟩
            obtain ⟨l, hl⟩ : ∃ l, L.getD k 0 = l := ⟨_, rfl⟩
            rw [hx] at u1 hbi HM
            rw [hy] at u2 hbk HM
            rw [hl] at y0 hLk HM
            clear hset hx hy hl
            have hws : IntKind.i64.wrap (y + l) = y + l := IntWalk.i64_in _ (by omega)
            obtain ⟨mv, hmv⟩ : ∃ mv, max x (y + l) = mv := ⟨_, rfl⟩
            have hm1 : (if x < y + l then y + l else x) = mv := by rw [← hmv]; split <;> omega
            have hm2 : (if y + l < x then x else y + l) = mv := by rw [← hmv]; split <;> omega
            rw [hmv] at HM
            clear hmv
            refine wp_regionE (fun w' => w'.cell? ⟨g, i, none⟩ = some (.int .i64 x) ∧ w'.cell? ⟨g, k, none⟩ = some (.int .i64 y) ∧ w'.cell? ⟨w.heap.size, 0, none⟩ = some (.slice (some ⟨bl, ol, none⟩) L.length cl) ∧ w'.cell? ⟨bl, ol + k, none⟩ = some (.int .i64 l)) 18 (by kernel_rfl) ?_
            change wpE _ _ _ _ _ _ 19 #[false, false, false, false, false, false, false, false, false, false, false, false, false, false, false, false, false, false, false] _ _
            have hS0 : w3.drew.cell? ⟨g, i, none⟩ = some (.int .i64 x) ∧ w3.drew.cell? ⟨g, k, none⟩ = some (.int .i64 y) ∧ w3.drew.cell? ⟨w.heap.size, 0, none⟩ = some (.slice (some ⟨bl, ol, none⟩) L.length cl) ∧ w3.drew.cell? ⟨bl, ol + k, none⟩ = some (.int .i64 l) := ⟨u1, u2, p0, y0⟩
            refine wpE_take' (v := ?_) 0 [18] (of_decide_eq_true (by kernel_rfl)) (by kernel_rfl) (by kernel_rfl) (by kernel_rfl) (by kernel_rfl) (fun _ _ _ h => h) (by kernel_rfl) ?_ hS0 ?_
            rotate_left
            · intro w' hSw
              simp only [List.getElem_toArray, List.getElem_cons_succ, List.getElem_cons_zero]
              go_simp
              all_goals with_reducible rfl
            simp only [List.getElem_toArray, List.getElem_cons_succ, List.getElem_cons_zero, Act.put, List.setIfInBounds_toArray, List.set_cons_zero, List.set_cons_succ]
            refine wpE_take' (v := ?_) 1 [18] (of_decide_eq_true (by kernel_rfl)) (by kernel_rfl) (by kernel_rfl) (by kernel_rfl) (by kernel_rfl) (fun _ _ _ h => h) (by kernel_rfl) ?_ hS0 ?_
            rotate_left
            · intro w' hSw
              simp only [List.getElem_toArray, List.getElem_cons_succ, List.getElem_cons_zero]
              go_simp
              all_goals with_reducible rfl
            simp only [List.getElem_toArray, List.getElem_cons_succ, List.getElem_cons_zero, Act.put, List.setIfInBounds_toArray, List.set_cons_zero, List.set_cons_succ]
            refine wpE_take' (v := ?_) 2 [18] (of_decide_eq_true (by kernel_rfl)) (by kernel_rfl) (by kernel_rfl) (by kernel_rfl) (by kernel_rfl) (fun _ _ _ h => h) (by kernel_rfl) ?_ hS0 ?_
            rotate_left
            · intro w' hSw
              simp only [List.getElem_toArray, List.getElem_cons_succ, List.getElem_cons_zero]
              go_simp
              all_goals with_reducible rfl
            simp only [List.getElem_toArray, List.getElem_cons_succ, List.getElem_cons_zero, Act.put, List.setIfInBounds_toArray, List.set_cons_zero, List.set_cons_succ]
            refine wpE_take' (v := ?_) 3 [18] (of_decide_eq_true (by kernel_rfl)) (by kernel_rfl) (by kernel_rfl) (by kernel_rfl) (by kernel_rfl) (fun _ _ _ h => h) (by kernel_rfl) ?_ hS0 ?_
            rotate_left
            · intro w' hSw
              simp only [List.getElem_toArray, List.getElem_cons_succ, List.getElem_cons_zero]
              go_simp
              all_goals with_reducible rfl
            simp only [List.getElem_toArray, List.getElem_cons_succ, List.getElem_cons_zero, Act.put, List.setIfInBounds_toArray, List.set_cons_zero, List.set_cons_succ]
            refine wpE_take' (v := ?_) 4 [18] (of_decide_eq_true (by kernel_rfl)) (by kernel_rfl) (by kernel_rfl) (by kernel_rfl) (by kernel_rfl) (fun _ _ _ h => h) (by kernel_rfl) ?_ hS0 ?_
            rotate_left
            · intro w' hSw
              simp only [List.getElem_toArray, List.getElem_cons_succ, List.getElem_cons_zero]
              go_simp
              all_goals with_reducible rfl
            simp only [List.getElem_toArray, List.getElem_cons_succ, List.getElem_cons_zero, Act.put, List.setIfInBounds_toArray, List.set_cons_zero, List.set_cons_succ]
            refine wpE_take' (v := ?_) 5 [18] (of_decide_eq_true (by kernel_rfl)) (by kernel_rfl) (by kernel_rfl) (by kernel_rfl) (by kernel_rfl) (fun _ _ _ h => h) (by kernel_rfl) ?_ hS0 ?_
            rotate_left
            · intro w' hSw
              simp only [List.getElem_toArray, List.getElem_cons_succ, List.getElem_cons_zero]
              go_simp
              all_goals with_reducible rfl
            simp only [List.getElem_toArray, List.getElem_cons_succ, List.getElem_cons_zero, Act.put, List.setIfInBounds_toArray, List.set_cons_zero, List.set_cons_succ]
            refine wpE_take' (v := ?_) 6 [18] (of_decide_eq_true (by kernel_rfl)) (by kernel_rfl) (by kernel_rfl) (by kernel_rfl) (by kernel_rfl) (fun _ _ _ h => h) (by kernel_rfl) ?_ hS0 ?_
            rotate_left
            · intro w' hSw
              simp only [List.getElem_toArray, List.getElem_cons_succ, List.getElem_cons_zero]
              go_simp
              all_goals with_reducible rfl
            simp only [List.getElem_toArray, List.getElem_cons_succ, List.getElem_cons_zero, Act.put, List.setIfInBounds_toArray, List.set_cons_zero, List.set_cons_succ]
            refine wpE_take' (v := ?_) 7 [18] (of_decide_eq_true (by kernel_rfl)) (by kernel_rfl) (by kernel_rfl) (by kernel_rfl) (by kernel_rfl) (fun _ _ _ h => h) (by kernel_rfl) ?_ hS0 ?_
            rotate_left
            · intro w' hSw
              simp only [List.getElem_toArray, List.getElem_cons_succ, List.getElem_cons_zero]
              go_simp
              all_goals with_reducible rfl
            simp only [List.getElem_toArray, List.getElem_cons_succ, List.getElem_cons_zero, Act.put, List.setIfInBounds_toArray, List.set_cons_zero, List.set_cons_succ]
            refine wpE_take' (v := ?_) 8 [18] (of_decide_eq_true (by kernel_rfl)) (by kernel_rfl) (by kernel_rfl) (by kernel_rfl) (by kernel_rfl) (fun _ _ _ h => h) (by kernel_rfl) ?_ hS0 ?_
            rotate_left
            · intro w' hSw
              simp only [List.getElem_toArray, List.getElem_cons_succ, List.getElem_cons_zero]
              go_simp
              all_goals with_reducible rfl
            simp only [List.getElem_toArray, List.getElem_cons_succ, List.getElem_cons_zero, Act.put, List.setIfInBounds_toArray, List.set_cons_zero, List.set_cons_succ]
            refine wpE_take' (v := ?_) 9 [18] (of_decide_eq_true (by kernel_rfl)) (by kernel_rfl) (by kernel_rfl) (by kernel_rfl) (by kernel_rfl) (fun _ _ _ h => h) (by kernel_rfl) ?_ hS0 ?_
            rotate_left
            · intro w' hSw
              simp only [List.getElem_toArray, List.getElem_cons_succ, List.getElem_cons_zero]
              go_simp
              all_goals with_reducible rfl
            simp only [List.getElem_toArray, List.getElem_cons_succ, List.getElem_cons_zero, Act.put, List.setIfInBounds_toArray, List.set_cons_zero, List.set_cons_succ]
            refine wpE_take' (v := ?_) 10 [18] (of_decide_eq_true (by kernel_rfl)) (by kernel_rfl) (by kernel_rfl) (by kernel_rfl) (by kernel_rfl) (fun _ _ _ h => h) (by kernel_rfl) ?_ hS0 ?_
            rotate_left
            · intro w' hSw
              simp only [List.getElem_toArray, List.getElem_cons_succ, List.getElem_cons_zero]
              go_simp
              all_goals with_reducible rfl
            simp only [List.getElem_toArray, List.getElem_cons_succ, List.getElem_cons_zero, Act.put, List.setIfInBounds_toArray, List.set_cons_zero, List.set_cons_succ]
            refine wpE_take' (v := ?_) 11 [18] (of_decide_eq_true (by kernel_rfl)) (by kernel_rfl) (by kernel_rfl) (by kernel_rfl) (by kernel_rfl) (fun _ _ _ h => h) (by kernel_rfl) ?_ hS0 ?_
            rotate_left
            · intro w' hSw
              simp only [List.getElem_toArray, List.getElem_cons_succ, List.getElem_cons_zero]
              go_simp
              all_goals with_reducible rfl
            simp only [List.getElem_toArray, List.getElem_cons_succ, List.getElem_cons_zero, Act.put, List.setIfInBounds_toArray, List.set_cons_zero, List.set_cons_succ]
            refine wpE_take' (v := ?_) 12 [18] (of_decide_eq_true (by kernel_rfl)) (by kernel_rfl) (by kernel_rfl) (by kernel_rfl) (by kernel_rfl) (fun _ _ _ h => h) (by kernel_rfl) ?_ hS0 ?_
            rotate_left
            · intro w' hSw
              simp only [List.getElem_toArray, List.getElem_cons_succ, List.getElem_cons_zero]
              go_simp
              all_goals with_reducible rfl
            simp only [List.getElem_toArray, List.getElem_cons_succ, List.getElem_cons_zero, Act.put, List.setIfInBounds_toArray, List.set_cons_zero, List.set_cons_succ]
            refine wpE_take' (v := ?_) 13 [18] (of_decide_eq_true (by kernel_rfl)) (by kernel_rfl) (by kernel_rfl) (by kernel_rfl) (by kernel_rfl) (fun _ _ _ h => h) (by kernel_rfl) ?_ hS0 ?_
            rotate_left
            · intro w' hSw
              simp only [List.getElem_toArray, List.getElem_cons_succ, List.getElem_cons_zero]
              go_simp
              all_goals with_reducible rfl
            simp only [List.getElem_toArray, List.getElem_cons_succ, List.getElem_cons_zero, Act.put, List.setIfInBounds_toArray, List.set_cons_zero, List.set_cons_succ]
            refine wpE_take' (v := ?_) 14 [18] (of_decide_eq_true (by kernel_rfl)) (by kernel_rfl) (by kernel_rfl) (by kernel_rfl) (by kernel_rfl) (fun _ _ _ h => h) (by kernel_rfl) ?_ hS0 ?_
            rotate_left
            · intro w' hSw
              simp only [List.getElem_toArray, List.getElem_cons_succ, List.getElem_cons_zero]
              go_simp
              all_goals with_reducible rfl
            simp only [List.getElem_toArray, List.getElem_cons_succ, List.getElem_cons_zero, Act.put, List.setIfInBounds_toArray, List.set_cons_zero, List.set_cons_succ]
            refine wpE_take' (v := ?_) 15 [18] (of_decide_eq_true (by kernel_rfl)) (by kernel_rfl) (by kernel_rfl) (by kernel_rfl) (by kernel_rfl) (fun _ _ _ h => h) (by kernel_rfl) ?_ hS0 ?_
            rotate_left
            · intro w' hSw
              simp only [List.getElem_toArray, List.getElem_cons_succ, List.getElem_cons_zero]
              go_simp
              all_goals with_reducible rfl
            simp only [List.getElem_toArray, List.getElem_cons_succ, List.getElem_cons_zero, Act.put, List.setIfInBounds_toArray, List.set_cons_zero, List.set_cons_succ]
            refine wpE_take' (v := ?_) 16 [18] (of_decide_eq_true (by kernel_rfl)) (by kernel_rfl) (by kernel_rfl) (by kernel_rfl) (by kernel_rfl) (fun _ _ _ h => h) (by kernel_rfl) ?_ hS0 ?_
            rotate_left
            · intro w' hSw
              simp only [List.getElem_toArray, List.getElem_cons_succ, List.getElem_cons_zero]
              go_simp
              all_goals with_reducible rfl
            simp only [List.getElem_toArray, List.getElem_cons_succ, List.getElem_cons_zero, Act.put, List.setIfInBounds_toArray, List.set_cons_zero, List.set_cons_succ]
            refine wpE_take' (v := ?_) 17 [18] (of_decide_eq_true (by kernel_rfl)) (by kernel_rfl) (by kernel_rfl) (by kernel_rfl) (by kernel_rfl) (fun _ _ _ h => h) (by kernel_rfl) ?_ hS0 ?_
            rotate_left
            · intro w' hSw
              simp only [List.getElem_toArray, List.getElem_cons_succ, List.getElem_cons_zero]
              go_simp
              all_goals with_reducible rfl
            simp only [List.getElem_toArray, List.getElem_cons_succ, List.getElem_cons_zero, Act.put, List.setIfInBounds_toArray, List.set_cons_zero, List.set_cons_succ]
            refine wpE_step' 18 (of_decide_eq_true (by kernel_rfl)) (by kernel_rfl) (by kernel_rfl) (fun K hK => ?_)
            simp only [List.getElem_toArray, List.getElem_cons_succ, List.getElem_cons_zero]
            go_simp
            refine hK.out _ _ (.inl rfl) ?_
            clear hK K
            simp only [Act.put, List.setIfInBounds_toArray, List.set_cons_zero, List.set_cons_succ]
            refine wpE_done (by kernel_rfl) ?_ _
            have hrow4 := Hset.out mv
            have hW4 := hW3.setCell (p := ⟨g, i, none⟩) hgW (.int .i64 mv)
            obtain ⟨f2, hf2⟩ : ∃ f2 : Nat → Int, (fun j => if j = i then mv else f j) = f2 := ⟨_, rfl⟩
            have hat : ∀ j, f2 j = if j = i then mv else f j := fun j => by rw [← hf2]
            have hrow5 : (w3.setCell ⟨g, i, none⟩ (.int .i64 mv)).rowIs g 3 L.length (fun j => .int .i64 (f2 j)) := hrow4.congr (fun j _ => by rw [hat]; by_cases e : j = i <;> simp [e])
            have HF2 : Hid ((∀ j, j < i → f2 j = (Pp.early L F).getD j 0) ∧ f2 i = erl L F (Pp.early L F) i (k + 1) ∧ ∀ j, i < j → f2 j = 0) := by
              refine ⟨fun j hj => by rw [hat, if_neg (by omega)]; exact HF.out.1 j hj, by rw [hat, if_pos rfl, HM.out], fun j hj => by rw [hat, if_neg (by omega)]; exact HF.out.2.2 j hj⟩
            clear hf2 hat
            clear hS0 u1 u2 uf p0 y0 hm1 hm2 hws hrow4
            go_wp2_with fail
            go_roundg (i - (k + 1))
            case measure => go_light; omega
            case rel => go_light; exact ⟨k + 1, f2, by omega, rfl, by go_num, by first | exact hrow5 | exact hrow5.drew, HF2, by first | exact hW4 | exact hW4.drew⟩
        · have hki' : ¬ (k : Int) < (i : Int) := by omega
          have HF2 : Hid ((∀ j, j < i + 1 → f j = (Pp.early L F).getD j 0) ∧ ∀ j, i + 1 ≤ j → f j = 0) := by
            refine ⟨fun j hj => ?_, fun j hj => HF.out.2.2 j (by omega)⟩
            by_cases e : j = i
            · subst e
              rw [early_at hlt, HF.out.2.1, show k = j by omega]
            · exact HF.out.1 j (by omega)
          go_wp2_with fail
          go_roundg (L.length - (i + 1))
          case measure => go_light; omega
          case rel => go_light; exact ⟨i + 1, f, by omega, rfl, by go_num, hrow, HF2, hW⟩
    · have hrow2 : wr.rowIs g 3 L.length (fun j => .int .i64 ((Pp.early L F).getD j 0)) := hrow.congr (fun j hj => by rw [HF.out.1 j (by omega)])
      have hlt' : ¬ (i : Int) < (L.length : Int) := by omega
      have hbw := hD.bel.trans (hW.mono hD.bel.size)
      go_wp2_with fail
      go_ret
      exact ⟨g, rfl, hgw, hrow2, hbw⟩

theorem row_ints {w : World} {g n : Nat} {xs : List Int} (h : w.rowIs g 3 n (fun j => .int .i64 (xs.getD j 0))) (hn : xs.length = n) : IntsR w w.heap.size g 0 (some ⟨g, 0, none⟩) xs :=
  ⟨fun _ => rfl, fun _ => h.lt, fun j hj => by rw [Nat.zero_add]; exact h.cell (by omega)⟩
/-- What EarlyOf returns. -/
def earlyOf (L F : List Int) : List Int := if projOk L F then Pp.early L F else []
theorem early_length (L F : List Int) : (Pp.early L F).length = L.length := earlyTo_length L F _
set_option maxHeartbeats 1000000 in
set_option maxRecDepth 100000 in
theorem earlyOf_q (L F : List Int) (AL AF : Option Addr) (bl ol cl bf of' cf B : Nat) (w : World) (hll : L.length ≤ 2000000) (hlf : F.length ≤ 2000000) (hB : B ≤ w.heap.size) (hl : IntsR w B bl ol AL L) (hf : IntsR w B bf of' AF F) :
    Calls Try.prog 15 #[.agg #[.slice AL L.length cl, .slice AF F.length cf]] w fun e w' => ∃ A1 c1 g1, e = .returned (.slice A1 (earlyOf L F).length c1) ∧ IntsR w' w'.heap.size g1 0 A1 (earlyOf L F) ∧ Below w.heap.size w w' := by
  have hD := pj_new (t := 25) (cl := cl) (cf := cf) hB hl hf
  clear hl hf hB
  cases hp : projOk L F
  · have e : earlyOf L F = [] := by unfold earlyOf; rw [hp]; rfl
    rw [e]
    have Hp := hide hp
    clear hp e
    go_enter Try.func15, Try.ntmps15
    go_upto_region 1 with fail
    generalize w.alloc (.cells #[.slice AL L.length cl, .slice AF F.length cf] 25) = W at hD ⊢
    have p0 := hD.c0
    have p1 := hD.c1
    go_wp2_with (go_at_call 45; go_fit (projectOk_c L F AL AF bl ol cl bf of' cf _ _ hll hlf (Nat.le_refl _) hD.rl hD.rf); rintro e w2 ⟨rfl, hb⟩; rw [Hp.out]; replace hD := hD.below hb; clear p0 p1; have p0 := hD.c0; have p1 := hD.c1)
    go_ret
    exact ⟨none, 0, 0, rfl, IntsR.nil _ _ _, hD.bel⟩
  · have e : earlyOf L F = Pp.early L F := by unfold earlyOf; rw [hp]; rfl
    have hel := early_length L F
    rw [e]
    obtain ⟨ys, hys⟩ : ∃ ys, Pp.early L F = ys := ⟨_, rfl⟩
    rw [hys] at hel ⊢
    have Hys := hide hys
    have Hel := hide hel
    have Hp := hide hp
    clear hp e hys hel
    go_enter Try.func15, Try.ntmps15
    go_upto_region 1 with fail
    generalize w.alloc (.cells #[.slice AL L.length cl, .slice AF F.length cf] 25) = W at hD ⊢
    have p0 := hD.c0
    have p1 := hD.c1
    go_wp2_with (first
      | (go_at_call 45; go_fit (projectOk_c L F AL AF bl ol cl bf of' cf _ _ hll hlf (Nat.le_refl _) hD.rl hD.rf); rintro e w2 ⟨rfl, hb⟩; rw [Hp.out]; replace hD := hD.below hb; clear p0 p1; have p0 := hD.c0; have p1 := hD.c1)
      | (go_at_call 51; go_fit (early_q L F Hp.out AL AF bl ol cl bf of' cf _ _ (Nat.le_refl _) hD.rl hD.rf); rintro e w3 ⟨g, rfl, hg, hrow, hb⟩; rw [Hys.out] at hrow; have hbel := bthen hD.bel hb))
    go_ret
    rw [Hel.out]
    exact ⟨_, _, g, rfl, row_ints hrow Hel.out, hbel⟩
theorem early_all {L F : List Int} (hp : projOk L F = true) : ∀ i, i < L.length → (0 ≤ L.getD i 0 ∧ L.getD i 0 ≤ 100) ∧ (-1 ≤ (Pp.early L F).getD i 0 ∧ (Pp.early L F).getD i 0 ≤ 10000) := fun i hi => by
  have := early_bound hp i hi
  have := long_at hp hi
  have := (projOk_iff.1 hp).1
  omega
set_option maxHeartbeats 2000000 in
set_option maxRecDepth 100000 in
theorem lengthOf_c (L F : List Int) (AL AF : Option Addr) (bl ol cl bf of' cf B : Nat) (w : World) (hll : L.length ≤ 2000000) (hlf : F.length ≤ 2000000) (hB : B ≤ w.heap.size) (hl : IntsR w B bl ol AL L) (hf : IntsR w B bf of' AF F) :
    Calls Try.prog 17 #[.agg #[.slice AL L.length cl, .slice AF F.length cf]] w fun e w' => e = .returned (.int .i64 (if projOk L F then lenOf L F else -1)) ∧ Below w.heap.size w w' := by
  have hD := pj_new (t := 25) (cl := cl) (cf := cf) hB hl hf
  clear hl hf hB
  cases hp : projOk L F
  · have Hp := hide hp
    clear hp
    go_enter Try.func17, Try.ntmps17
    go_upto_region 1 with fail
    generalize w.alloc (.cells #[.slice AL L.length cl, .slice AF F.length cf] 25) = W at hD ⊢
    have p0 := hD.c0
    have p1 := hD.c1
    go_wp2_with (go_at_call 45; go_fit (projectOk_c L F AL AF bl ol cl bf of' cf _ _ hll hlf (Nat.le_refl _) hD.rl hD.rf); rintro e w2 ⟨rfl, hb⟩; rw [Hp.out]; replace hD := hD.below hb; clear p0 p1; have p0 := hD.c0; have p1 := hD.c1)
    go_ret
    exact ⟨rfl, hD.bel⟩
  · have hel := early_length L F
    have hal := early_all hp
    obtain ⟨R, hR⟩ : ∃ R, endOf L (Pp.early L F) = R := ⟨_, rfl⟩
    obtain ⟨ys, hys⟩ : ∃ ys, Pp.early L F = ys := ⟨_, rfl⟩
    have hlen : lenOf L F = R := hR
    rw [hys] at hel hal hR
    have Hys := hide hys
    have Hel := hide hel
    have Hal := hide hal
    have HR := hide hR
    have Hlen := hide hlen
    have Hp := hide hp
    clear hp hys hel hal hR hlen
    go_enter Try.func17, Try.ntmps17
    go_upto_region 1 with fail
    generalize w.alloc (.cells #[.slice AL L.length cl, .slice AF F.length cf] 25) = W at hD ⊢
    have p0 := hD.c0
    have p1 := hD.c1
    go_upto_region 3 with (go_at_call 45; go_fit (projectOk_c L F AL AF bl ol cl bf of' cf _ _ hll hlf (Nat.le_refl _) hD.rl hD.rf); rintro e w2 ⟨rfl, hb⟩; rw [Hp.out]; replace hD := hD.below hb; clear p0 p1; have p0 := hD.c0; have p1 := hD.c1)
    have hDd := hD.drew
    go_region_held3 (fun w' => w'.cell? ⟨w.heap.size, 0, none⟩ = some (.slice AL L.length cl) ∧ w'.cell? ⟨w.heap.size, 1, none⟩ = some (.slice AF F.length cf))
      (first
        | exact ⟨hD5.c0, hD5.c1⟩
        | exact ⟨hD4.c0, hD4.c1⟩
        | (go_split_ands; (repeat' apply And.intro) <;> assumption)
        | (go_keep; done))
      (first
        | (go_at_call 51; go_fit (early_q L F Hp.out AL AF bl ol cl bf of' cf _ _ (Nat.le_refl _) hDd.rl hDd.rf); rintro e w4 ⟨g, rfl, hg, hrow, hb4⟩; rw [Hys.out] at hrow; have hD4 := hDd.below hb4; have hI4 := row_ints hrow Hel.out)
        | (go_at_call 52; have hcall := end_c L F ys Hel.out Hal.out AL AF _ bl ol cl bf of' cf g 0 L.length _ w4 hll (Nat.le_refl _) hD4.rl hD4.rf hI4; rw [HR.out] at hcall; refine hcall.mono ?_; clear hcall; rintro e w5 ⟨rfl, hb5⟩; have hD5 := hD4.below hb5))
    all_goals
      go_wp2_with fail
      go_ret
      exact ⟨by rw [Hlen.out]; rfl, hD5.bel⟩

set_option maxHeartbeats 2000000 in
set_option maxRecDepth 100000 in
theorem busy_c (L F xs : List Int) (t : Int) (hx : xs.length = L.length) (hb : ∀ i, i < L.length → (0 ≤ L.getD i 0 ∧ L.getD i 0 ≤ 100) ∧ (-1 ≤ xs.getD i 0 ∧ xs.getD i 0 ≤ 10000)) (AL AF AX : Option Addr) (bl ol cl bf of' cf bx ox cx B : Nat) (w : World) (hll : L.length ≤ 2000000) (hB : B ≤ w.heap.size) (hl : IntsR w B bl ol AL L) (hf : IntsR w B bf of' AF F) (hX : IntsR w B bx ox AX xs) :
    Calls Try.prog 72 #[.agg #[.slice AL L.length cl, .slice AF F.length cf], .slice AX L.length cx, .int .i64 t] w fun e w' => e = .returned (.int .i64 (busyN L xs t : Nat)) ∧ Below w.heap.size w w' := by
  have hD := pj_new (t := 25) (cl := cl) (cf := cf) hB hl hf
  have hI := (hX.below (hD.bel.mono hB)).more (Nat.le_trans hB hD.bel.size)
  have Hx := hide hx
  have Hb := hide hb
  clear hl hf hB hX hx hb
  go_enter Try.func72, Try.ntmps72
  go_upto_region 1 with fail
  generalize w.alloc (.cells #[.slice AL L.length cl, .slice AF F.length cf] 25) = W at hD hI ⊢
  go_wp2_with fail
  go_loopg [7, 12] L.length (fun gh s7 s12 wr => ∃ k m : Nat, k ≤ L.length ∧ gh = L.length - k ∧ s12 = .int .i64 k ∧ s7 = .int .i64 m ∧ m ≤ k ∧ Hid (cnt (isBusy L xs t) k = m) ∧ PJ w wr w.heap.size bl ol AL cl L bf of' AF cf F ∧ IntsR wr wr.heap.size bx ox AX xs)
  case atStart => exact ⟨0, 0, Nat.zero_le _, rfl, rfl, rfl, Nat.le_refl _, rfl, hD, hI⟩
  case round =>
    clear hD hI
    obtain ⟨k, m, hk, rfl, rfl, rfl, hm, HE, hD, hI⟩ := hrel
    have p0 := hD.c0
    by_cases hlt : k < L.length
    · have hlt' : (k : Int) < (L.length : Int) := by omega
      obtain rfl := hI.addr (by have := Hx.out; omega)
      obtain rfl := hD.rl.addr (by omega)
      have x0 := hI.cell k (by have := Hx.out; omega)
      have y0 := hD.rl.cell k hlt
      have hbk := Hb.out k hlt
      have HS : Hid (cnt (isBusy L xs t) (k + 1) = m + (if decide (0 ≤ xs.getD k 0 ∧ xs.getD k 0 ≤ t ∧ t < xs.getD k 0 + L.getD k 0) = true then 1 else 0)) := by unfold Hid; simp only [cnt]; rw [HE.out]; rfl
      generalize xs.getD k 0 = x at x0 hbk HS
      generalize L.getD k 0 = l at y0 hbk HS
      obtain ⟨⟨l0, l1⟩, ⟨z0, z1⟩⟩ := hbk
      have hws : IntKind.i64.wrap (x + l) = x + l := IntWalk.i64_in _ (by omega)
      by_cases hc : 0 ≤ x ∧ x ≤ t ∧ t < x + l
      · rw [decide_eq_true hc, if_pos rfl] at HS
        obtain ⟨c1, c2, c3⟩ := hc
        have hne : (x != -1) = true := by simp; omega
        have hne2 : ¬ x = -1 := by omega
        go_wp2_with fail
        go_roundg (L.length - (k + 1))
        case measure => go_light; omega
        case rel => go_light; exact ⟨k + 1, m + 1, by omega, rfl, by go_num, by go_num, by omega, HS, hD, hI⟩
      · rw [decide_eq_false hc] at HS
        have HS2 : Hid (cnt (isBusy L xs t) (k + 1) = m) := by unfold Hid; rw [HS.out]; rfl
        clear HS
        by_cases c1 : x = -1
        · subst c1
          go_wp2_with fail
          go_roundg (L.length - (k + 1))
          case measure => go_light; omega
          case rel => go_light; exact ⟨k + 1, m, by omega, rfl, by go_num, rfl, by omega, HS2, hD, hI⟩
        · have hne : (x != -1) = true := by simpa using c1
          by_cases c2 : x ≤ t
          · have c3 : ¬ t < x + l := by omega
            clear hc
            go_wp2_with fail
            go_roundg (L.length - (k + 1))
            case measure => go_light; omega
            case rel => go_light; exact ⟨k + 1, m, by omega, rfl, by go_num, rfl, by omega, HS2, hD, hI⟩
          · clear hc
            go_wp2_with fail
            go_roundg (L.length - (k + 1))
            case measure => go_light; omega
            case rel => go_light; exact ⟨k + 1, m, by omega, rfl, by go_num, rfl, by omega, HS2, hD, hI⟩
    · obtain rfl : k = L.length := by omega
      go_wp2_with fail
      go_ret
      exact ⟨by unfold busyN; rw [Hx.out, HE.out]; rfl, hD.bel⟩

def fitB (L F b : List Int) : Bool := projOk L F && decide (b.length = L.length) && b.all (fun v => inB v 0 2000)
theorem fitB_iff {L F b : List Int} : fitB L F b = true ↔ projOk L F = true ∧ b.length = L.length ∧ ∀ v ∈ b, 0 ≤ v ∧ v ≤ 2000 := by
  simp [fitB, inB_iff, and_assoc]
theorem fit_all {L F b : List Int} (h : fitB L F b = true) : ∀ i, i < L.length → (0 ≤ L.getD i 0 ∧ L.getD i 0 ≤ 100) ∧ (-1 ≤ b.getD i 0 ∧ b.getD i 0 ≤ 10000) := fun i hi => by
  obtain ⟨h1, h2, h3⟩ := fitB_iff.1 h
  have := long_at h1 hi
  have h4 : b.getD i 0 ∈ b := by rw [List.getD_eq_getElem?_getD, List.getElem?_eq_getElem (show i < b.length by omega)]; exact List.getElem_mem _
  have := h3 _ h4
  omega
set_option maxHeartbeats 2000000 in
set_option maxRecDepth 100000 in
theorem beginsFit_c (L F xs : List Int) (AL AF AX : Option Addr) (bl ol cl bf of' cf bx ox cx B : Nat) (w : World) (hll : L.length ≤ 2000000) (hlf : F.length ≤ 2000000) (hlx : xs.length ≤ 2000000) (hB : B ≤ w.heap.size) (hl : IntsR w B bl ol AL L) (hf : IntsR w B bf of' AF F) (hX : IntsR w B bx ox AX xs) :
    Calls Try.prog 71 #[.agg #[.slice AL L.length cl, .slice AF F.length cf], .slice AX xs.length cx] w fun e w' => e = .returned (.bool (fitB L F xs)) ∧ Below w.heap.size w w' := by
  have hD := pj_new (t := 25) (cl := cl) (cf := cf) hB hl hf
  have hI := (hX.below (hD.bel.mono hB)).more (Nat.le_trans hB hD.bel.size)
  obtain ⟨r, Hr⟩ : ∃ r, Hid (fitB L F xs = r) := ⟨_, rfl⟩
  rw [Hr.out]
  obtain ⟨ra, hra⟩ : ∃ ra, (xs.all fun v => inB v 0 2000) = ra := ⟨_, rfl⟩
  have Hra := hide hra
  clear hl hf hB hX hra
  cases hp : projOk L F
  · obtain rfl : r = false := by rw [← Hr.out]; unfold fitB; rw [hp]; rfl
    have Hp := hide hp
    clear hp
    go_enter Try.func71, Try.ntmps71
    go_upto_region 1 with fail
    generalize w.alloc (.cells #[.slice AL L.length cl, .slice AF F.length cf] 25) = W at hD hI ⊢
    have p0 := hD.c0
    have p1 := hD.c1
    go_wp2_with (go_at_call 45; go_fit (projectOk_c L F AL AF bl ol cl bf of' cf _ _ hll hlf (Nat.le_refl _) hD.rl hD.rf); rintro e w2 ⟨rfl, hb⟩; rw [Hp.out]; replace hD := hD.below hb; clear p0 p1; have p0 := hD.c0; have p1 := hD.c1)
    go_ret
    exact ⟨rfl, hD.bel⟩
  · by_cases hle : xs.length = L.length
    · have hrr : ra = r := by rw [← Hr.out]; unfold fitB; rw [hp, decide_eq_true hle, Hra.out]; rfl
      have hlez : ((xs.length : Int) == (L.length : Int)) = true := by simp [hle]
      have Hp := hide hp
      have Hrr := hide hrr
      clear hp hrr hle
      go_enter Try.func71, Try.ntmps71
      go_upto_region 1 with fail
      generalize w.alloc (.cells #[.slice AL L.length cl, .slice AF F.length cf] 25) = W at hD hI ⊢
      have p0 := hD.c0
      have p1 := hD.c1
      go_wp2_with (first
        | (go_at_call 45; go_fit (projectOk_c L F AL AF bl ol cl bf of' cf _ _ hll hlf (Nat.le_refl _) hD.rl hD.rf); rintro e w2 ⟨rfl, hb⟩; rw [Hp.out]; replace hI := (hI.below hb).more hb.size; replace hD := hD.below hb; clear p0 p1; have p0 := hD.c0; have p1 := hD.c1)
        | (go_at_call 79; go_fit (allIn_c xs 0 2000 AX bx ox cx _ _ hlx (Nat.le_refl _) hI); rintro e w3 ⟨rfl, hb⟩; rw [Hra.out]; replace hD := hD.below hb))
      go_ret
      exact ⟨by rw [← Hrr.out]; cases ra <;> rfl, hD.bel⟩
    · obtain rfl : r = false := by rw [← Hr.out]; unfold fitB; rw [decide_eq_false hle]; simp
      have hlez : ((xs.length : Int) == (L.length : Int)) = false := by simp; omega
      have Hp := hide hp
      clear hp
      go_enter Try.func71, Try.ntmps71
      go_upto_region 1 with fail
      generalize w.alloc (.cells #[.slice AL L.length cl, .slice AF F.length cf] 25) = W at hD hI ⊢
      have p0 := hD.c0
      have p1 := hD.c1
      go_wp2_with (go_at_call 45; go_fit (projectOk_c L F AL AF bl ol cl bf of' cf _ _ hll hlf (Nat.le_refl _) hD.rl hD.rf); rintro e w2 ⟨rfl, hb⟩; rw [Hp.out]; replace hD := hD.below hb; clear p0 p1; have p0 := hD.c0; have p1 := hD.c1)
      go_ret
      exact ⟨rfl, hD.bel⟩

set_option maxHeartbeats 2000000 in
set_option maxRecDepth 100000 in
theorem endOf_c (L F xs : List Int) (AL AF AX : Option Addr) (bl ol cl bf of' cf bx ox cx B : Nat) (w : World) (hll : L.length ≤ 2000000) (hlf : F.length ≤ 2000000) (hlx : xs.length ≤ 2000000) (hB : B ≤ w.heap.size) (hl : IntsR w B bl ol AL L) (hf : IntsR w B bf of' AF F) (hX : IntsR w B bx ox AX xs) :
    Calls Try.prog 32 #[.agg #[.slice AL L.length cl, .slice AF F.length cf], .slice AX xs.length cx] w fun e w' => e = .returned (.int .i64 (if fitB L F xs then endOf L xs else -1)) ∧ Below w.heap.size w w' := by
  have hD := pj_new (t := 25) (cl := cl) (cf := cf) hB hl hf
  have hI := (hX.below (hD.bel.mono hB)).more (Nat.le_trans hB hD.bel.size)
  clear hl hf hB hX
  cases hp : fitB L F xs
  · have Hp := hide hp
    clear hp
    go_enter Try.func32, Try.ntmps32
    go_upto_region 1 with fail
    generalize w.alloc (.cells #[.slice AL L.length cl, .slice AF F.length cf] 25) = W at hD hI ⊢
    have p0 := hD.c0
    have p1 := hD.c1
    go_wp2_with (go_at_call 71; go_fit (beginsFit_c L F xs AL AF AX bl ol cl bf of' cf bx ox cx _ _ hll hlf hlx (Nat.le_refl _) hD.rl hD.rf hI); rintro e w2 ⟨rfl, hb⟩; rw [Hp.out]; replace hD := hD.below hb; clear p0 p1; have p0 := hD.c0; have p1 := hD.c1)
    go_ret
    exact ⟨rfl, hD.bel⟩
  · have Hal := hide (fit_all hp)
    have Hxl := hide (fitB_iff.1 hp).2.1
    have Hp := hide hp
    obtain ⟨R, hR⟩ : ∃ R, endOf L xs = R := ⟨_, rfl⟩
    have HR := hide hR
    clear hp hR
    go_enter Try.func32, Try.ntmps32
    go_upto_region 1 with fail
    generalize w.alloc (.cells #[.slice AL L.length cl, .slice AF F.length cf] 25) = W at hD hI ⊢
    have p0 := hD.c0
    have p1 := hD.c1
    go_wp2_with (first
      | (go_at_call 71; go_fit (beginsFit_c L F xs AL AF AX bl ol cl bf of' cf bx ox cx _ _ hll hlf hlx (Nat.le_refl _) hD.rl hD.rf hI); rintro e w2 ⟨rfl, hb⟩; rw [Hp.out]; replace hI := (hI.below hb).more hb.size; replace hD := hD.below hb; clear p0 p1; have p0 := hD.c0; have p1 := hD.c1)
      | (go_at_call 52; have hcall := end_c L F xs Hxl.out Hal.out AL AF AX bl ol cl bf of' cf bx ox cx _ w2 hll (Nat.le_refl _) hD.rl hD.rf hI; rw [HR.out, show (Value.slice AX L.length cx) = Value.slice AX xs.length cx by rw [Hxl.out]] at hcall; refine hcall.mono ?_; clear hcall; rintro e w3 ⟨rfl, hb⟩; replace hD := hD.below hb))
    go_ret
    exact ⟨by rw [HR.out]; rfl, hD.bel⟩
end Go.Proofs.Ytmgikoaeomieeaa
