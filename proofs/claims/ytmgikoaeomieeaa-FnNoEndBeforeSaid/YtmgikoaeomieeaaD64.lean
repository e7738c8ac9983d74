/-
  The draws of the reference: DrawBeginsOk, DrawIdleOf.
-/
import Derived.Test.YtmgikoaeomieeaaD63
namespace Go.Proofs.Ytmgikoaeomieeaa
set_option linter.unusedVariables false
set_option linter.unusedSimpArgs false
open Go.RowKit Pp

set_option maxHeartbeats 2000000 in
set_option maxRecDepth 100000 in
theorem drawBeginsOk_c (A0 : Option Addr) (n0 c0 : Nat) (zs : List Int) (w : World) (hn0 : n0 ≤ 1048576) (hc0 : n0 ≤ c0) (hA0 : n0 = 0 ∨ A0.isSome = true) (hb0 : BytesAt w w.heap.size A0 n0 zs) :
    Calls Try.prog 34 #[.slice A0 n0 c0] w fun e w' =>
      ∃ A1 c1 L A2 c2 F h A3 c3 xs, e = .returned (.tuple #[.agg #[.slice A1 L.length c1, .slice A2 F.length c2], .int .i64 h, .slice A3 xs.length c3]) ∧ L.length ≤ 7 ∧ F.length ≤ 7 ∧ (0 ≤ h ∧ h ≤ 10) ∧ xs.length ≤ 10 ∧ (∃ b1, IntsR w' w'.heap.size b1 0 A1 L) ∧ (∃ b2, IntsR w' w'.heap.size b2 0 A2 F) ∧ (∃ b3, IntsR w' w'.heap.size b3 0 A3 xs) ∧ Below w.heap.size w w' := by
  go_enter Try.func34, Try.ntmps34
  go_wp2_with (first
    | (go_at_call 42; go_fit (open_c A0 n0 c0 zs _ hn0 hc0 hA0 (hb0.below (show Below w.heap.size w _ by go_grown) (by simp))); rintro e w1 ⟨rfl, hR1, hb1, hs1⟩; simp only [World.size_alloc] at hR1 hs1; have hW1 : Below w.heap.size w w1 := bthen (by go_grown) hb1; have s0 := ((bcell hb1).1 w.heap.size 0 (by simp)).trans (show _ = some (Value.slice none 0 0) by simp [go_sem]); have s1 := ((bcell hb1).1 w.heap.size 1 (by simp)).trans (show _ = some (Value.slice none 0 0) by simp [go_sem]); have sf := fun i => ((bcell hb1).2 w.heap.size i (by simp)).trans (show _ = false by simp [go_sem]))
    | (go_at_call 73; go_fit (begun_c _ 0 _ ⟨by omega, by omega⟩ hR1); rintro e w2 ⟨A1, c1, L, A2, c2, F, h, A3, c3, xs, rfl, hL7, hF7, hh, hx, o1, o2, o3, hR2, G2⟩; have q0 := far_cell G2 s0 (by omega); have q1 := far_cell G2 s1 (by omega); have qf0 := far_frozen G2 (sf 0) (by omega) (by omega); have qf1 := far_frozen G2 (sf 1) (by omega) (by omega); have hW2 : Below w.heap.size w w2 := hW1.grown G2 (by omega) (fun q hq => by cases hq; omega)))
  obtain ⟨r0, r1⟩ := two_cells (a := .slice A1 L.length c1) (b := .slice A2 F.length c2) q0 q1
  have low := fun {A : Option Addr} {c : Nat} {ys : List Int} (o : OwnI w1.heap.size w2 (.slice A ys.length c) ys) => own_IntsR (own_set_low (p := ⟨w.heap.size, 1, none⟩) (own_set_low (p := ⟨w.heap.size, 0, none⟩) o (by dsimp only; omega) (.slice A1 L.length c1)) (by dsimp only; omega) (.slice A2 F.length c2))
  refine bodyPost_ret (v := .tuple #[.agg #[.slice A1 L.length c1, .slice A2 F.length c2], .int .i64 h, .slice A3 xs.length c3]) (by simp [results, Try.results34, go_sem, r0, r1]) rfl ?_
  exact ⟨A1, c1, L, A2, c2, F, h, A3, c3, xs, rfl, hL7, hF7, hh, hx, low o1, low o2, low o3, (hW2.setCell (Nat.le_refl _) _).setCell (Nat.le_refl _) _⟩
set_option maxHeartbeats 2000000 in
set_option maxRecDepth 100000 in
theorem drawIdle_c (A0 : Option Addr) (n0 c0 : Nat) (zs : List Int) (w : World) (hn0 : n0 ≤ 1048576) (hc0 : n0 ≤ c0) (hA0 : n0 = 0 ∨ A0.isSome = true) (hb0 : BytesAt w w.heap.size A0 n0 zs) :
    Calls Try.prog 39 #[.slice A0 n0 c0] w fun e w' =>
      ∃ A1 c1 L A2 c2 F h A3 c3 xs, e = .returned (.tuple #[.agg #[.slice A1 L.length c1, .slice A2 F.length c2], .int .i64 h, .slice A3 xs.length c3]) ∧ L.length ≤ 7 ∧ F.length ≤ 7 ∧ (0 ≤ h ∧ h ≤ 10) ∧ xs.length ≤ 10 ∧ (∃ b1, IntsR w' w'.heap.size b1 0 A1 L) ∧ (∃ b2, IntsR w' w'.heap.size b2 0 A2 F) ∧ (∃ b3, IntsR w' w'.heap.size b3 0 A3 xs) ∧ Below w.heap.size w w' := by
  go_enter Try.func39, Try.ntmps39
  go_wp2_with (first
    | (go_at_call 42; go_fit (open_c A0 n0 c0 zs _ hn0 hc0 hA0 (hb0.below (show Below w.heap.size w _ by go_grown) (by simp))); rintro e w1 ⟨rfl, hR1, hb1, hs1⟩; simp only [World.size_alloc] at hR1 hs1; have hW1 : Below w.heap.size w w1 := bthen (by go_grown) hb1; have s0 := ((bcell hb1).1 w.heap.size 0 (by simp)).trans (show _ = some (Value.slice none 0 0) by simp [go_sem]); have s1 := ((bcell hb1).1 w.heap.size 1 (by simp)).trans (show _ = some (Value.slice none 0 0) by simp [go_sem]); have sf := fun i => ((bcell hb1).2 w.heap.size i (by simp)).trans (show _ = false by simp [go_sem]))
    | (go_at_call 73; go_fit (begun_c _ 0 _ ⟨by omega, by omega⟩ hR1); rintro e w2 ⟨A1, c1, L, A2, c2, F, h, A3, c3, xs, rfl, hL7, hF7, hh, hx, o1, o2, o3, hR2, G2⟩; have q0 := far_cell G2 s0 (by omega); have q1 := far_cell G2 s1 (by omega); have qf0 := far_frozen G2 (sf 0) (by omega) (by omega); have qf1 := far_frozen G2 (sf 1) (by omega) (by omega); have hW2 : Below w.heap.size w w2 := hW1.grown G2 (by omega) (fun q hq => by cases hq; omega)))
  obtain ⟨r0, r1⟩ := two_cells (a := .slice A1 L.length c1) (b := .slice A2 F.length c2) q0 q1
  have low := fun {A : Option Addr} {c : Nat} {ys : List Int} (o : OwnI w1.heap.size w2 (.slice A ys.length c) ys) => own_IntsR (own_set_low (p := ⟨w.heap.size, 1, none⟩) (own_set_low (p := ⟨w.heap.size, 0, none⟩) o (by dsimp only; omega) (.slice A1 L.length c1)) (by dsimp only; omega) (.slice A2 F.length c2))
  refine bodyPost_ret (v := .tuple #[.agg #[.slice A1 L.length c1, .slice A2 F.length c2], .int .i64 h, .slice A3 xs.length c3]) (by simp [results, Try.results39, go_sem, r0, r1]) rfl ?_
  exact ⟨A1, c1, L, A2, c2, F, h, A3, c3, xs, rfl, hL7, hF7, hh, hx, low o1, low o2, low o3, (hW2.setCell (Nat.le_refl _) _).setCell (Nat.le_refl _) _⟩
end Go.Proofs.Ytmgikoaeomieeaa
