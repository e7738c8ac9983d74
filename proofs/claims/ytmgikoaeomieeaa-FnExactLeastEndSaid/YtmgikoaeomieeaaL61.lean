/-
  impl: early begins.
-/
import Derived.Test.YtmgikoaeomieeaaL60
import Derived.Test.YtmgikoaeomieeaaL2
namespace Go.Proofs.Ytmgikoaeomieeaa
set_option linter.unusedVariables false
set_option linter.unusedSimpArgs false
open Go.RowKit Pp

theorem early_bound {L F : List Int} (hp : projOk L F = true) : ∀ i, i < L.length → 0 ≤ (Pp.early L F).getD i 0 ∧ (Pp.early L F).getD i 0 ≤ 20 * (i : Int) := by
  intro i
  induction i using Nat.strongRecOn with
  | _ i ih =>
    intro hi
    rw [early_at hi]
    refine ⟨erl_nonneg _ _ _ _ _, erl_le (by omega) (fun k hk _ => ?_)⟩
    have := ih k hk (by omega)
    have := long_at hp (show k < L.length by omega)
    omega
theorem erl_bound {L F : List Int} (hp : projOk L F = true) {i : Nat} (hi : i < L.length) {k : Nat} (hk : k ≤ i) : 0 ≤ erl L F (Pp.early L F) i k ∧ erl L F (Pp.early L F) i k ≤ 20 * (i : Int) := by
  refine ⟨erl_nonneg _ _ _ _ _, erl_le (by omega) (fun j hj _ => ?_)⟩
  have := early_bound hp j (by omega)
  have := long_at hp (show j < L.length by omega)
  omega
set_option maxHeartbeats 4000000 in
set_option maxRecDepth 100000 in
theorem early_q (L F : List Int) (hp : projOk L F = true) (AL AF : Option Addr) (bl ol cl bf of' cf B : Nat) (w : World) (hB : B ≤ w.heap.size) (hl : IntsR w B bl ol AL L) (hf : IntsR w B bf of' AF F) :
    Calls Try.prog 51 #[.agg #[.slice AL L.length cl, .slice AF F.length cf]] w fun e w' => ∃ g, e = .returned (.slice (some ⟨g, 0, none⟩) L.length L.length) ∧ w.heap.size ≤ g ∧ w'.rowIs g 3 L.length (fun j => .int .i64 ((Pp.early L F).getD j 0)) ∧ Below w.heap.size w w' := by
  obtain ⟨h6, hle, hL20, hF⟩ := projOk_iff.1 hp
  have hmk := run_make_row' (P := Try.prog) 23 3 (.int .i64 0) 8 Try.underlying23 infoI rfl .i64 .i64 L.length (by omega) (by omega)
  have hD := pj_new (t := 25) (cl := cl) (cf := cf) hB hl hf
  have Hp := hide hp
  have Hle := hide hle
  clear hl hf hB hp hle hL20 hF
  go_enter Try.func51, Try.ntmps51
  go_upto_region 1 with fail
  generalize w.alloc (.cells #[.slice AL L.length cl, .slice AF F.length cf] 25) = W at hD ⊢
  have p0 := hD.c0
  go_upto_region 2 with fail
  have hrow0 := World.rowIs_made W (.int .i64 0) L.length 3
  have hW0 : Below W.heap.size W (W.alloc (.cells (madeCells #[.int .i64 0] L.length) 3)) := by go_grown
  generalize W.alloc (.cells (madeCells #[.int .i64 0] L.length) 3) = W2 at hrow0 hW0 ⊢
  obtain ⟨g, hg⟩ : ∃ g, W.heap.size = g := ⟨_, rfl⟩
  rw [hg] at hrow0 ⊢
  have hgW : W.heap.size ≤ g := by omega
  have hgw : w.heap.size ≤ g := by have := hD.bel.size; omega
  clear hmk p0 hg
  go_wp2_with fail
  go_loopg [12] L.length (fun gh s wr => ∃ (i : Nat) (f : Nat → Int), i ≤ L.length ∧ gh = L.length - i ∧ s = .int .i64 i ∧ wr.rowIs g 3 L.length (fun j => .int .i64 (f j)) ∧ Hid ((∀ j, j < i → f j = (Pp.early L F).getD j 0) ∧ ∀ j, i ≤ j → f j = 0) ∧ Below W.heap.size W wr)
  case atStart => exact ⟨0, fun _ => 0, Nat.zero_le _, rfl, rfl, hrow0, ⟨fun j hj => by omega, fun _ _ => rfl⟩, hW0⟩
  case round =>
    clear hrow0 hW0
    obtain ⟨i, f, hi, rfl, rfl, hrow, HF, hW⟩ := hrel
    by_cases hlt : i < L.length
    · have hlt' : (i : Int) < (L.length : Int) := by omega
      have hi0 : (0 : Int) ≤ (i : Int) := by omega
      go_upto_region 5 with fail
      go_wp2_with fail
      go_loopg [16] i (fun gh s wi => ∃ (k : Nat) (f : Nat → Int), k ≤ i ∧ gh = i - k ∧ s = .int .i64 k ∧ wi.rowIs g 3 L.length (fun j => .int .i64 (f j)) ∧ Hid ((∀ j, j < i → f j = (Pp.early L F).getD j 0) ∧ f i = erl L F (Pp.early L F) i k ∧ ∀ j, i < j → f j = 0) ∧ Below W.heap.size W wi)
      case atStart => exact ⟨0, f, Nat.zero_le _, rfl, rfl, hrow, ⟨HF.out.1, HF.out.2 i (Nat.le_refl _), fun j hj => HF.out.2 j (by omega)⟩, hW⟩
      case round =>
        clear hrow hW HF
        obtain ⟨k, f, hk, rfl, rfl, hrow, HF, hW⟩ := hrel
        by_cases hki : k < i
        · have hki' : (k : Int) < (i : Int) := by omega
          have hkl : (k : Int) < (L.length : Int) := by omega
          have hDi := hD.below hW
          have p0 := hDi.c0
          have p1 := hDi.c1
          have hbits := proj_bits Hp.out (show i < F.length by have := Hle.out; omega)
          go_upto_if 22 with (go_at_call 46; go_fit (after_c L F i k (by have := Hle.out; omega) (by omega) hbits AL AF bl ol cl bf of' cf _ _ (by have := Hle.out; omega) (Nat.le_refl _) hDi.rl hDi.rf); rintro e w3 ⟨rfl, hb3⟩)
          have hrow3 := rowIs_below hrow hb3 (hrow.lt)
          have hW3 := hW.trans (hb3.mono hW.size)
          have hD3 := hDi.below hb3
          clear p0 p1 hrow hDi hW hb3
          cases ha : aft F i k
          · have HF2 : Hid ((∀ j, j < i → f j = (Pp.early L F).getD j 0) ∧ f i = erl L F (Pp.early L F) i (k + 1) ∧ ∀ j, i < j → f j = 0) := by
              refine ⟨HF.out.1, ?_, HF.out.2.2⟩
              simp only [erl]
              rw [ha, if_neg (by simp)]
              exact HF.out.2.1
            clear ha
            go_wp2_with fail
            go_roundg (i - (k + 1))
            case measure => go_light; omega
            case rel => go_light; exact ⟨k + 1, f, by omega, rfl, by go_num, hrow3, HF2, hW3⟩
          · have hek := early_bound Hp.out k (by omega)
            have hei := erl_bound Hp.out hlt (Nat.le_of_lt hki)
            have hLk := long_at Hp.out (show k < L.length by omega)
            have hfk := HF.out.1 k hki
            have hfi := HF.out.2.1
            have HM : Hid (erl L F (Pp.early L F) i (k + 1) = max (f i) (f k + L.getD k 0)) := by
              unfold Hid
              simp only [erl]
              rw [ha, if_pos rfl, hfk, hfi]
            have hbk : 0 ≤ f k ∧ f k ≤ 120 := by rw [hfk]; omega
            have hbi : 0 ≤ f i ∧ f i ≤ 120 := by rw [hfi]; omega
            clear ha hek hei hfk hfi
            go_upto_region 9 with fail
            have p0 := hD3.c0
            obtain rfl := hD3.rl.addr (by omega)
            have y0 := hD3.rl.cell k (by omega)
            have u1 := hrow3.cell hlt
            have u2 := hrow3.cell (show k < L.length by omega)
            have uf := hrow3.frozen i
            have hset := fun v => hrow3.set i (.int .i64 v)
            have Hset := hide hset
            obtain ⟨x, hx⟩ : ∃ x, f i = x := ⟨_, rfl⟩
            obtain ⟨y, hy⟩ : ∃ y, f k = y := ⟨_, rfl⟩
            obtain ⟨l, hl⟩ : ∃ l, L.getD k 0 = l := ⟨_, rfl⟩
            rw [hx] at u1 hbi HM
            rw [hy] at u2 hbk HM
            rw [hl] at y0 hLk HM
            clear hset hx hy hl
            have hws : IntKind.i64.wrap (y + l) = y + l := IntWalk.i64_in _ (by omega)
            obtain ⟨mv, hmv⟩ : ∃ mv, max x (y + l) = mv := ⟨_, rfl⟩
            have hm1 : (if x < y + l then y + l else x) = mv := by rw [← hmv]; split <;> omega
            have hm2 : (if y + l < x then x else y + l) = mv := by rw [← hmv]; split <;> omega
            rw [hmv] at HM
            clear hmv
            refine wp_regionE (fun w' => w'.cell? ⟨g, i, none⟩ = some (.int .i64 x) ∧ w'.cell? ⟨g, k, none⟩ = some (.int .i64 y) ∧ w'.cell? ⟨w.heap.size, 0, none⟩ = some (.slice (some ⟨bl, ol, none⟩) L.length cl) ∧ w'.cell? ⟨bl, ol + k, none⟩ = some (.int .i64 l)) 18 (by kernel_rfl) ?_
            change wpE _ _ _ _ _ _ 19 #[false, false, false, false, false, false, false, false, false, false, false, false, false, false, false, false, false, false, false] _ _
            have hS0 : w3.drew.cell? ⟨g, i, none⟩ = some (.int .i64 x) ∧ w3.drew.cell? ⟨g, k, none⟩ = some (.int .i64 y) ∧ w3.drew.cell? ⟨w.heap.size, 0, none⟩ = some (.slice (some ⟨bl, ol, none⟩) L.length cl) ∧ w3.drew.cell? ⟨bl, ol + k, none⟩ = some (.int .i64 l) := ⟨u1, u2, p0, y0⟩
            refine wpE_take' (v := ?_) 0 [18] (of_decide_eq_true (by kernel_rfl)) (by kernel_rfl) (by kernel_rfl) (by kernel_rfl) (by kernel_rfl) (fun _ _ _ h => h) (by kernel_rfl) ?_ hS0 ?_
            rotate_left
            · intro w' hSw
              simp only [List.getElem_toArray, List.getElem_cons_succ, List.getElem_cons_zero]
              go_simp
              all_goals with_reducible rfl
            simp only [List.getElem_toArray, List.getElem_cons_succ, List.getElem_cons_zero, Act.put, List.setIfInBounds_toArray, List.set_cons_zero, List.set_cons_succ]
            refine wpE_take' (v := ?_) 1 [18] (of_decide_eq_true (by kernel_rfl)) (by kernel_rfl) (by kernel_rfl) (by kernel_rfl) (by kernel_rfl) (fun _ _ _ h => h) (by kernel_rfl) ?_ hS0 ?_
            rotate_left
            · intro w' hSw
              simp only [List.getElem_toArray, List.getElem_cons_succ, List.getElem_cons_zero]
              go_simp
              all_goals with_reducible rfl
            simp only [List.getElem_toArray, List.getElem_cons_succ, List.getElem_cons_zero, Act.put, List.setIfInBounds_toArray, List.set_cons_zero, List.set_cons_succ]
            refine wpE_take' (v := ?_) 2 [18] (of_decide_eq_true (by kernel_rfl)) (by kernel_rfl) (by kernel_rfl) (by kernel_rfl) (by kernel_rfl) (fun _ _ _ h => h) (by kernel_rfl) ?_ hS0 ?_
            rotate_left
            · intro w' hSw
              simp only [List.getElem_toArray, List.getElem_cons_succ, List.getElem_cons_zero]
              go_simp
              all_goals with_reducible rfl
            simp only [List.getElem_toArray, List.getElem_cons_succ, List.getElem_cons_zero, Act.put, List.setIfInBounds_toArray, List.set_cons_zero, List.set_cons_succ]
            refine wpE_take' (v := ?_) 3 [18] (of_decide_eq_true (by kernel_rfl)) (by kernel_rfl) (by kernel_rfl) (by kernel_rfl) (by kernel_rfl) (fun _ _ _ h => h) (by kernel_rfl) ?_ hS0 ?_
            rotate_left
            · intro w' hSw
              simp only [List.getElem_toArray, List.getElem_cons_succ, List.getElem_cons_zero]
              go_simp
              all_goals with_reducible rfl
            simp only [List.getElem_toArray, List.getElem_cons_succ, List.getElem_cons_zero, Act.put, List.setIfInBounds_toArray, List.set_cons_zero, List.set_cons_succ]
            refine wpE_take' (v := ?_) 4 [18] (of_decide_eq_true (by kernel_rfl)) (by kernel_rfl) (by kernel_rfl) (by kernel_rfl) (by kernel_rfl) (fun _ _ _ h => h) (by kernel_rfl) ?_ hS0 ?_
            rotate_left
            · intro w' hSw
              simp only [List.getElem_toArray, List.getElem_cons_succ, List.getElem_cons_zero]
              go_simp
              all_goals with_reducible rfl
            simp only [List.getElem_toArray, List.getElem_cons_succ, List.getElem_cons_zero, Act.put, List.setIfInBounds_toArray, List.set_cons_zero, List.set_cons_succ]
            refine wpE_take' (v := ?_) 5 [18] (of_decide_eq_true (by kernel_rfl)) (by kernel_rfl) (by kernel_rfl) (by kernel_rfl) (by kernel_rfl) (fun _ _ _ h => h) (by kernel_rfl) ?_ hS0 ?_
            rotate_left
            · intro w' hSw
              simp only [List.getElem_toArray, List.getElem_cons_succ, List.getElem_cons_zero]
              go_simp
              all_goals with_reducible rfl
            simp only [List.getElem_toArray, List.getElem_cons_succ, List.getElem_cons_zero, Act.put, List.setIfInBounds_toArray, List.set_cons_zero, List.set_cons_succ]
            refine wpE_take' (v := ?_) 6 [18] (of_decide_eq_true (by kernel_rfl)) (by kernel_rfl) (by kernel_rfl) (by kernel_rfl) (by kernel_rfl) (fun _ _ _ h => h) (by kernel_rfl) ?_ hS0 ?_
            rotate_left
            · intro w' hSw
              simp only [List.getElem_toArray, List.getElem_cons_succ, List.getElem_cons_zero]
              go_simp
              all_goals with_reducible rfl
            simp only [List.getElem_toArray, List.getElem_cons_succ, List.getElem_cons_zero, Act.put, List.setIfInBounds_toArray, List.set_cons_zero, List.set_cons_succ]
            refine wpE_take' (v := ?_) 7 [18] (of_decide_eq_true (by kernel_rfl)) (by kernel_rfl) (by kernel_rfl) (by kernel_rfl) (by kernel_rfl) (fun _ _ _ h => h) (by kernel_rfl) ?_ hS0 ?_
            rotate_left
            · intro w' hSw
              simp only [List.getElem_toArray, List.getElem_cons_succ, List.getElem_cons_zero]
              go_simp
              all_goals with_reducible rfl
            simp only [List.getElem_toArray, List.getElem_cons_succ, List.getElem_cons_zero, Act.put, List.setIfInBounds_toArray, List.set_cons_zero, List.set_cons_succ]
            refine wpE_take' (v := ?_) 8 [18] (of_decide_eq_true (by kernel_rfl)) (by kernel_rfl) (by kernel_rfl) (by kernel_rfl) (by kernel_rfl) (fun _ _ _ h => h) (by kernel_rfl) ?_ hS0 ?_
            rotate_left
            · intro w' hSw
              simp only [List.getElem_toArray, List.getElem_cons_succ, List.getElem_cons_zero]
              go_simp
              all_goals with_reducible rfl
            simp only [List.getElem_toArray, List.getElem_cons_succ, List.getElem_cons_zero, Act.put, List.setIfInBounds_toArray, List.set_cons_zero, List.set_cons_succ]
            refine wpE_take' (v := ?_) 9 [18] (of_decide_eq_true (by kernel_rfl)) (by kernel_rfl) (by kernel_rfl) (by kernel_rfl) (by kernel_rfl) (fun _ _ _ h => h) (by kernel_rfl) ?_ hS0 ?_
            rotate_left
            · intro w' hSw
              simp only [List.getElem_toArray, List.getElem_cons_succ, List.getElem_cons_zero]
              go_simp
              all_goals with_reducible rfl
            simp only [List.getElem_toArray, List.getElem_cons_succ, List.getElem_cons_zero, Act.put, List.setIfInBounds_toArray, List.set_cons_zero, List.set_cons_succ]
            refine wpE_take' (v := ?_) 10 [18] (of_decide_eq_true (by kernel_rfl)) (by kernel_rfl) (by kernel_rfl) (by kernel_rfl) (by kernel_rfl) (fun _ _ _ h => h) (by kernel_rfl) ?_ hS0 ?_
            rotate_left
            · intro w' hSw
              simp only [List.getElem_toArray, List.getElem_cons_succ, List.getElem_cons_zero]
              go_simp
              all_goals with_reducible rfl
            simp only [List.getElem_toArray, List.getElem_cons_succ, List.getElem_cons_zero, Act.put, List.setIfInBounds_toArray, List.set_cons_zero, List.set_cons_succ]
            refine wpE_take' (v := ?_) 11 [18] (of_decide_eq_true (by kernel_rfl)) (by kernel_rfl) (by kernel_rfl) (by kernel_rfl) (by kernel_rfl) (fun _ _ _ h => h) (by kernel_rfl) ?_ hS0 ?_
            rotate_left
            · intro w' hSw
              simp only [List.getElem_toArray, List.getElem_cons_succ, List.getElem_cons_zero]
              go_simp
              all_goals with_reducible rfl
            simp only [List.getElem_toArray, List.getElem_cons_succ, List.getElem_cons_zero, Act.put, List.setIfInBounds_toArray, List.set_cons_zero, List.set_cons_succ]
            refine wpE_take' (v := ?_) 12 [18] (of_decide_eq_true (by kernel_rfl)) (by kernel_rfl) (by kernel_rfl) (by kernel_rfl) (by kernel_rfl) (fun _ _ _ h => h) (by kernel_rfl) ?_ hS0 ?_
            rotate_left
            · intro w' hSw
              simp only [List.getElem_toArray, List.getElem_cons_succ, List.getElem_cons_zero]
              go_simp
              all_goals with_reducible rfl
            simp only [List.getElem_toArray, List.getElem_cons_succ, List.getElem_cons_zero, Act.put, List.setIfInBounds_toArray, List.set_cons_zero, List.set_cons_succ]
            refine wpE_take' (v := ?_) 13 [18] (of_decide_eq_true (by kernel_rfl)) (by kernel_rfl) (by kernel_rfl) (by kernel_rfl) (by kernel_rfl) (fun _ _ _ h => h) (by kernel_rfl) ?_ hS0 ?_
            rotate_left
            · intro w' hSw
              simp only [List.getElem_toArray, List.getElem_cons_succ, List.getElem_cons_zero]
              go_simp
              all_goals with_reducible rfl
            simp only [List.getElem_toArray, List.getElem_cons_succ, List.getElem_cons_zero, Act.put, List.setIfInBounds_toArray, List.set_cons_zero, List.set_cons_succ]
            refine wpE_take' (v := ?_) 14 [18] (of_decide_eq_true (by kernel_rfl)) (by kernel_rfl) (by kernel_rfl) (by kernel_rfl) (by kernel_rfl) (fun _ _ _ h => h) (by kernel_rfl) ?_ hS0 ?_
            rotate_left
            · intro w' hSw
              simp only [List.getElem_toArray, List.getElem_cons_succ, List.getElem_cons_zero]
              go_simp
              all_goals with_reducible rfl
            simp only [List.getElem_toArray, List.getElem_cons_succ, List.getElem_cons_zero, Act.put, List.setIfInBounds_toArray, List.set_cons_zero, List.set_cons_succ]
            refine wpE_take' (v := ?_) 15 [18] (of_decide_eq_true (by kernel_rfl)) (by kernel_rfl) (by kernel_rfl) (by kernel_rfl) (by kernel_rfl) (fun _ _ _ h => h) (by kernel_rfl) ?_ hS0 ?_
            rotate_left
            · intro w' hSw
              simp only [List.getElem_toArray, List.getElem_cons_succ, List.getElem_cons_zero]
              go_simp
              all_goals with_reducible rfl
            simp only [List.getElem_toArray, List.getElem_cons_succ, List.getElem_cons_zero, Act.put, List.setIfInBounds_toArray, List.set_cons_zero, List.set_cons_succ]
            refine wpE_take' (v := ?_) 16 [18] (of_decide_eq_true (by kernel_rfl)) (by kernel_rfl) (by kernel_rfl) (by kernel_rfl) (by kernel_rfl) (fun _ _ _ h => h) (by kernel_rfl) ?_ hS0 ?_
            rotate_left
            · intro w' hSw
              simp only [List.getElem_toArray, List.getElem_cons_succ, List.getElem_cons_zero]
              go_simp
              all_goals with_reducible rfl
            simp only [List.getElem_toArray, List.getElem_cons_succ, List.getElem_cons_zero, Act.put, List.setIfInBounds_toArray, List.set_cons_zero, List.set_cons_succ]
            refine wpE_take' (v := ?_) 17 [18] (of_decide_eq_true (by kernel_rfl)) (by kernel_rfl) (by kernel_rfl) (by kernel_rfl) (by kernel_rfl) (fun _ _ _ h => h) (by kernel_rfl) ?_ hS0 ?_
            rotate_left
            · intro w' hSw
              simp only [List.getElem_toArray, List.getElem_cons_succ, List.getElem_cons_zero]
              go_simp
              all_goals with_reducible rfl
            simp only [List.getElem_toArray, List.getElem_cons_succ, List.getElem_cons_zero, Act.put, List.setIfInBounds_toArray, List.set_cons_zero, List.set_cons_succ]
            refine wpE_step' 18 (of_decide_eq_true (by kernel_rfl)) (by kernel_rfl) (by kernel_rfl) (fun K hK => ?_)
            simp only [List.getElem_toArray, List.getElem_cons_succ, List.getElem_cons_zero]
            go_simp
            refine hK.out _ _ (.inl rfl) ?_
            clear hK K
            simp only [Act.put, List.setIfInBounds_toArray, List.set_cons_zero, List.set_cons_succ]
            refine wpE_done (by kernel_rfl) ?_ _
            have hrow4 := Hset.out mv
            have hW4 := hW3.setCell (p := ⟨g, i, none⟩) hgW (.int .i64 mv)
            obtain ⟨f2, hf2⟩ : ∃ f2 : Nat → Int, (fun j => if j = i then mv else f j) = f2 := ⟨_, rfl⟩
            have hat : ∀ j, f2 j = if j = i then mv else f j := fun j => by rw [← hf2]
            have hrow5 : (w3.setCell ⟨g, i, none⟩ (.int .i64 mv)).rowIs g 3 L.length (fun j => .int .i64 (f2 j)) := hrow4.congr (fun j _ => by rw [hat]; by_cases e : j = i <;> simp [e])
            have HF2 : Hid ((∀ j, j < i → f2 j = (Pp.early L F).getD j 0) ∧ f2 i = erl L F (Pp.early L F) i (k + 1) ∧ ∀ j, i < j → f2 j = 0) := by
              refine ⟨fun j hj => by rw [hat, if_neg (by omega)]; exact HF.out.1 j hj, by rw [hat, if_pos rfl, HM.out], fun j hj => by rw [hat, if_neg (by omega)]; exact HF.out.2.2 j hj⟩
            clear hf2 hat
            clear hS0 u1 u2 uf p0 y0 hm1 hm2 hws hrow4
            go_wp2_with fail
            go_roundg (i - (k + 1))
            case measure => go_light; omega
            case rel => go_light; exact ⟨k + 1, f2, by omega, rfl, by go_num, by first | exact hrow5 | exact hrow5.drew, HF2, by first | exact hW4 | exact hW4.drew⟩
        · have hki' : ¬ (k : Int) < (i : Int) := by omega
          have HF2 : Hid ((∀ j, j < i + 1 → f j = (Pp.early L F).getD j 0) ∧ ∀ j, i + 1 ≤ j → f j = 0) := by
            refine ⟨fun j hj => ?_, fun j hj => HF.out.2.2 j (by omega)⟩
            by_cases e : j = i
            · subst e
              rw [early_at hlt, HF.out.2.1, show k = j by omega]
            · exact HF.out.1 j (by omega)
          go_wp2_with fail
          go_roundg (L.length - (i + 1))
          case measure => go_light; omega
          case rel => go_light; exact ⟨i + 1, f, by omega, rfl, by go_num, hrow, HF2, hW⟩
    · have hrow2 : wr.rowIs g 3 L.length (fun j => .int .i64 ((Pp.early L F).getD j 0)) := hrow.congr (fun j hj => by rw [HF.out.1 j (by omega)])
      have hlt' : ¬ (i : Int) < (L.length : Int) := by omega
      have hbw := hD.bel.trans (hW.mono hD.bel.size)
      go_wp2_with fail
      go_ret
      exact ⟨g, rfl, hgw, hrow2, hbw⟩
end Go.Proofs.Ytmgikoaeomieeaa
