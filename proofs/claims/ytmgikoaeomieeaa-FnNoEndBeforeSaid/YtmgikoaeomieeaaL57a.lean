/-
  slices.Contains of numbers.
-/
import Derived.Test.YtmgikoaeomieeaaI3
namespace Go.Proofs.Ytmgikoaeomieeaa
set_option linter.unusedVariables false
set_option linter.unusedSimpArgs false
open Go Go.RowKit Pp

set_option maxHeartbeats 1000000 in
theorem index_c (xs : List Int) (v : Int) (A : Option Addr) (b o c B : Nat) (w : World) (hn : xs.length ≤ 2000000) (hB : B ≤ w.heap.size) (hR : IntsR w B b o A xs) :
    Calls Try.prog 92 #[.slice A xs.length c, .int .i64 v] w fun e w' => ∃ k : Int, e = .returned (.int .i64 k) ∧ (0 ≤ k ↔ v ∈ xs) ∧ w' = w := by
  go_enter Try.func92, Try.ntmps92
  go_wp2
  go_loopg [8] xs.length (fun gh s wr => ∃ k : Nat, k ≤ xs.length ∧ gh = xs.length - k ∧ s = .int .i64 k ∧ wr = w ∧ Hid (v ∉ xs.take k))
  case atStart => exact ⟨0, Nat.zero_le _, rfl, rfl, rfl, by simp [Hid]⟩
  case round =>
    obtain ⟨k, hk, rfl, rfl, rfl, hA⟩ := hrel
    by_cases hlt : k < xs.length
    · obtain rfl := hR.addr (by omega)
      have hx := List.getElem?_eq_getElem hlt
      have d0 := hR.cell k hlt
      rw [List.getD_eq_getElem?_getD, hx] at d0
      dsimp only [Option.getD_some] at d0
      have hz : (k : Int) < (xs.length : Int) := by omega
      have hT : Hid (xs.take (k + 1) = xs.take k ++ [xs[k]]) := by rw [List.take_succ_eq_append_getElem hlt]; rfl
      generalize xs[k] = x at *
      have Hx := hide hx
      clear hx
      by_cases e : v = x
      · subst e
        go_wp2
        go_ret
        exact ⟨k, rfl, ⟨fun _ => List.mem_of_getElem? Hx.out, fun _ => by omega⟩, rfl⟩
      · have e2 : (v == x) = false := by simpa using e
        have E := hide e
        clear e
        go_wp2
        go_roundg (xs.length - (k + 1))
        case measure => go_light; omega
        case rel => go_light; exact ⟨k + 1, by omega, rfl, by go_num, rfl, by unfold Hid; rw [hT.out]; simp only [List.mem_append, List.mem_singleton, not_or]; exact ⟨hA.out, E.out⟩⟩
    · go_wp2
      go_ret
      refine ⟨-1, rfl, ⟨fun h => by omega, fun h => ?_⟩, rfl⟩
      have := hA.out
      rw [List.take_of_length_le (by omega)] at this
      exact absurd h this
set_option maxHeartbeats 1000000 in
theorem contains_c (xs : List Int) (v : Int) (A : Option Addr) (b o c B : Nat) (w : World) (hn : xs.length ≤ 2000000) (hB : B ≤ w.heap.size) (hR : IntsR w B b o A xs) :
    Calls Try.prog 75 #[.slice A xs.length c, .int .i64 v] w fun e w' => e = .returned (.bool (decide (v ∈ xs))) ∧ w' = w := by
  by_cases h : v ∈ xs
  · have H := hide h
    rw [decide_eq_true h]
    clear h
    go_enter Try.func75, Try.ntmps75
    go_wp2_with (go_at_call 92; go_fit (index_c xs v A b o c B w hn hB hR); rintro e w' ⟨k, rfl, hk, rfl⟩; have hk' := hk.2 H.out)
    go_ret
    exact ⟨by simp [hk', H.out], rfl⟩
  · have H := hide h
    rw [decide_eq_false h]
    clear h
    go_enter Try.func75, Try.ntmps75
    go_wp2_with (go_at_call 92; go_fit (index_c xs v A b o c B w hn hB hR); rintro e w' ⟨k, rfl, hk, rfl⟩; have hk' : ¬ 0 ≤ k := (fun h => H.out (hk.1 h)))
    go_ret
    exact ⟨by simp [hk', H.out], rfl⟩
end Go.Proofs.Ytmgikoaeomieeaa
