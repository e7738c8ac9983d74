/-
  The law of ExactLeastEnd: its walk.
-/
import Derived.Test.YtmgikoaeomieeaaE60
import Derived.Test.YtmgikoaeomieeaaS77
namespace Go.Proofs.Ytmgikoaeomieeaa
set_option linter.unusedVariables false
set_option linter.unusedSimpArgs false
open Go.RowKit Pp

set_option maxHeartbeats 8000000 in
set_option maxRecDepth 100000 in
theorem exactLeastEnd_c (L F : List Int) (h : Int) (AL AF : Option Addr) (bl ol cl bf of' cf : Nat) (w : World) (hl : L.length ≤ 9223372036854775807) (hl2 : F.length ≤ 9223372036854775807) (hR : IntsR w w.heap.size bl ol AL L) (hP : IntsR w w.heap.size bf of' AF F) :
    Calls Try.prog 4 #[.agg #[.slice AL L.length cl, .slice AF F.length cf], .int .i64 h] w fun e w' => e = .returned (.bool true) ∧ Below w.heap.size w w' := by
  have hA := pj_new (t := 41) (cl := cl) (cf := cf) (Nat.le_refl _) hR hP
  have hW : Below w.heap.size w (w.alloc (.cells #[.slice AL L.length cl, .slice AF F.length cf] 41)) := by go_grown
  clear hR hP
  obtain ⟨R, hRq⟩ : ∃ R : Int, szV 1048576 L.length F.length = R := ⟨_, rfl⟩
  have hcase : R = -1 ∨ (0 ≤ R ∧ L.length ≤ 2000000 ∧ F.length ≤ 2000000) := by
    unfold szV at hRq
    by_cases h1 : (1048576 : Int) - (L.length : Int) < 0
    · rw [if_pos h1] at hRq; exact .inl hRq.symm
    · rw [if_neg h1] at hRq
      by_cases h2 : (1048576 : Int) - (L.length : Int) - (F.length : Int) < 0
      · rw [if_pos h2] at hRq; exact .inl hRq.symm
      · rw [if_neg h2] at hRq; exact .inr ⟨by omega, by omega, by omega⟩
  have H := hide hRq
  clear hRq
  rcases hcase with h1 | ⟨h1, hn, hn2⟩
  · subst h1
    go_enter Try.func4, Try.ntmps4
    go_wp2_with (go_at_call 22; go_fit (szProject_c 1048576 AL AF L.length cl F.length cf _ (by omega) hl hl2); rintro e w2 ⟨rfl, hb2⟩; rw [H.out])
    go_ret
    exact ⟨rfl, bthen hW hb2⟩
  · have h1' : ¬ R < 0 := by omega
    clear hl hl2
    obtain ⟨q, hq⟩ : ∃ q, leastV L F h = q := ⟨_, rfl⟩
    have Hq := hide hq
    clear hq
    go_enter Try.func4, Try.ntmps4
    go_upto_region 1 with fail
    generalize w.alloc (.cells #[.slice AL L.length cl, .slice AF F.length cf] 41) = W at hA hW ⊢
    have a0 := hA.c0
    have a1 := hA.c1
    go_upto_region 5 with (go_at_call 22; go_fit (szProject_c 1048576 AL AF L.length cl F.length cf _ (by omega) (by omega) (by omega)); rintro e w2 ⟨rfl, hb2⟩; rw [H.out]; replace hW := bthen hW hb2; replace hA := hA.below hb2; (try replace h5 := h5.below hb2); clear a0 a1; have a0 := hA.c0; have a1 := hA.c1)
    go_upto_region 6 with (first
      | (go_at_call 24; go_fit (toProject_q L F AL AF bl ol cl bf of' cf _ _ hn hn2 (Nat.le_refl _) hA.rl hA.rf); rintro e w3 ⟨A1, c1, g1, A3, c3, g3, rfl, hr1, hr3, hb3⟩; replace hW := bthen hW hb3; replace hA := hA.below hb3; (try replace h5 := h5.below hb3))
      | (go_at_call 23; go_fit (sLeastEnd_c L F h A1 A3 g1 0 c1 g3 0 c3 _ _ hn hn2 (Nat.le_refl _) hr1 hr3); rintro e w4 ⟨rfl, hb4⟩; rw [Hq.out]; replace hW := bthen hW hb4; replace hA := hA.below hb4; (try replace h5 := h5.below hb4); clear a0 a1; have a0 := hA.c0; have a1 := hA.c1))
    clear hr1 hr3 hb3 hb4
    go_upto_region 7 with (go_at_call 24; go_fit (toProject_q L F AL AF bl ol cl bf of' cf _ _ hn hn2 (Nat.le_refl _) hA.rl hA.rf); rintro e w5 ⟨A1, c1, g1, A3, c3, g3, rfl, hr1, hr3, hb5⟩; replace hW := bthen hW hb5; replace hA := hA.below hb5; (try replace h5 := h5.below hb5))
    have h5 := pj_law (t := 25) (cl := c1) (cf := c3) hW hr1 hr3
    have hbn : Below w5.heap.size w5 (w5.alloc (.cells #[.slice A1 L.length c1, .slice A3 F.length c3] 25)) := by go_grown
    replace hW := bthen hW hbn
    replace hA := hA.below hbn
    generalize w5.alloc (.cells #[.slice A1 L.length c1, .slice A3 F.length c3] 25) = W5 at hA hW h5 ⊢
    generalize w5.heap.size = X5 at h5 ⊢
    clear a0 a1 hr1 hr3 hb5 hbn
    have e0 := h5.c0
    have e1 := h5.c1
    go_upto_region 10 with (go_at_call 25; go_fit (leastEnd_c L F h A1 A3 g1 0 c1 g3 0 c3 _ _ hn hn2 (Nat.le_refl _) h5.rl h5.rf); rintro e w6 ⟨rfl, hb6⟩; rw [Hq.out]; replace hW := bthen hW hb6; replace hA := hA.below hb6; (try replace h5 := h5.below hb6))
    clear e0 e1 hb6
    have hX0w := hA.ex
    have hX5w := h5.ex
    have a0 := hA.c0
    have a1 := hA.c1
    have e0 := h5.c0
    have e1 := h5.c1
    go_cut [30] (fun s wx => s = .bool false ∧ Below w.heap.size w wx)
    case first =>
      replace hW := hW.drew
      replace hA := hA.drew
      replace h5 := h5.drew
      go_region_held3 (fun w' => w'.cell? ⟨w.heap.size, 0, none⟩ = some (.slice AL L.length cl) ∧ w'.cell? ⟨w.heap.size, 1, none⟩ = some (.slice AF F.length cf) ∧ w'.cell? ⟨X5, 0, none⟩ = some (.slice A1 L.length c1) ∧ w'.cell? ⟨X5, 1, none⟩ = some (.slice A3 F.length c3))
        (first
          | (go_split_ands; (repeat' apply And.intro) <;> assumption)
          | exact ⟨hA.c0, hA.c1, h5.c0, h5.c1⟩
          | (go_keep; done))
        (first
          | (go_at_call 24; go_fit (toProject_q L F AL AF bl ol cl bf of' cf _ _ hn hn2 (Nat.le_refl _) hA.rl hA.rf); rintro e w8 ⟨A9, c9, g9, B9, d9, g8, rfl, hr9, hr8, hb8⟩; replace hW := bthen hW hb8; replace hA := hA.below hb8; (try replace h5 := h5.below hb8); clear a0 a1 e0 e1; have a0 := hA.c0; have a1 := hA.c1; have e0 := h5.c0; have e1 := h5.c1)
          | (go_at_call 26; go_fit (eqProject_yes L F A1 A3 A9 B9 g1 0 c1 g3 0 c3 g9 0 c9 g8 0 d9 _ _ hn hn2 (Nat.le_refl _) h5.rl h5.rf hr9 hr8); rintro e w9 ⟨rfl, hb9⟩; replace hW := bthen hW hb9; replace hA := hA.below hb9; (try replace h5 := h5.below hb9); clear a0 a1 e0 e1; have a0 := hA.c0; have a1 := hA.c1; have e0 := h5.c0; have e1 := h5.c1))
      go_wp2_with fail
      go_meet
      case rel => exact ⟨rfl, hW⟩
    case rest =>
      clear hW hA h5 hX0w hX5w a0 a1 e0 e1
      obtain ⟨rfl, hW⟩ := hcut
      go_wp2_with fail
      go_ret
      exact ⟨rfl, hW⟩
end Go.Proofs.Ytmgikoaeomieeaa
