/-
  slices.Contains, slices.Sort of numbers.
-/
import Derived.Test.YtledgblepdjjlaaL57s
import Derived.Test.YtledgblepdjjlaaI3
import Derived.Sort.OwnSortedInts
namespace Go.Proofs.Ytledgblepdjjlaa
set_option linter.unusedVariables false
set_option linter.unusedSimpArgs false
open Go Go.RowKit Go.Shelf Go.Sort Pp

set_option maxHeartbeats 1000000 in
theorem index_c (xs : List Int) (v : Int) (A : Option Addr) (b o c B : Nat) (w : World) (hn : xs.length ≤ 2000000) (hB : B ≤ w.heap.size) (hR : IntsR w B b o A xs) :
    Calls Try.prog 131 #[.slice A xs.length c, .int .i64 v] w fun e w' => ∃ k : Int, e = .returned (.int .i64 k) ∧ (0 ≤ k ↔ v ∈ xs) ∧ w' = w := by
  go_enter Try.func131, Try.ntmps131
  go_wp2
  go_loopg [8] xs.length (fun gh s wr => ∃ k : Nat, k ≤ xs.length ∧ gh = xs.length - k ∧ s = .int .i64 k ∧ wr = w ∧ Hid (v ∉ xs.take k))
  case atStart => exact ⟨0, Nat.zero_le _, rfl, rfl, rfl, by simp [Hid]⟩
  case round =>
    obtain ⟨k, hk, rfl, rfl, rfl, hA⟩ := hrel
    by_cases hlt : k < xs.length
    · obtain rfl := hR.addr (by omega)
      have hx := List.getElem?_eq_getElem hlt
      have d0 := hR.cell k hlt
      rw [List.getD_eq_getElem?_getD, hx] at d0
      dsimp only [Option.getD_some] at d0
      have hz : (k : Int) < (xs.length : Int) := by omega
      have hT : Hid (xs.take (k + 1) = xs.take k ++ [xs[k]]) := by rw [List.take_succ_eq_append_getElem hlt]; rfl
      generalize xs[k] = x at *
      have Hx := hide hx
      clear hx
      by_cases e : v = x
      · subst e
        go_wp2
        go_ret
        exact ⟨k, rfl, ⟨fun _ => List.mem_of_getElem? Hx.out, fun _ => by omega⟩, rfl⟩
      · have e2 : (v == x) = false := by simpa using e
        have E := hide e
        clear e
        go_wp2
        go_roundg (xs.length - (k + 1))
        case measure => go_light; omega
        case rel => go_light; exact ⟨k + 1, by omega, rfl, by go_num, rfl, by unfold Hid; rw [hT.out]; simp only [List.mem_append, List.mem_singleton, not_or]; exact ⟨hA.out, E.out⟩⟩
    · go_wp2
      go_ret
      refine ⟨-1, rfl, ⟨fun h => by omega, fun h => ?_⟩, rfl⟩
      have := hA.out
      rw [List.take_of_length_le (by omega)] at this
      exact absurd h this
set_option maxHeartbeats 1000000 in
theorem contains_c (xs : List Int) (v : Int) (A : Option Addr) (b o c B : Nat) (w : World) (hn : xs.length ≤ 2000000) (hB : B ≤ w.heap.size) (hR : IntsR w B b o A xs) :
    Calls Try.prog 109 #[.slice A xs.length c, .int .i64 v] w fun e w' => e = .returned (.bool (decide (v ∈ xs))) ∧ w' = w := by
  by_cases h : v ∈ xs
  · have H := hide h
    rw [decide_eq_true h]
    clear h
    go_enter Try.func109, Try.ntmps109
    go_wp2_with (go_at_call 131; go_fit (index_c xs v A b o c B w hn hB hR); rintro e w' ⟨k, rfl, hk, rfl⟩; have hk' := hk.2 H.out)
    go_ret
    exact ⟨by simp [hk', H.out], rfl⟩
  · have H := hide h
    rw [decide_eq_false h]
    clear h
    go_enter Try.func109, Try.ntmps109
    go_wp2_with (go_at_call 131; go_fit (index_c xs v A b o c B w hn hB hR); rintro e w' ⟨k, rfl, hk, rfl⟩; have hk' : ¬ 0 ≤ k := (fun h => H.out (hk.1 h)))
    go_ret
    exact ⟨by simp [hk', H.out], rfl⟩

/-- The list in order. -/
def srt (xs : List Int) : List Int := xs.mergeSort fun x y => decide (x ≤ y)
theorem srt_len (xs : List Int) : (srt xs).length = xs.length := List.length_mergeSort _
theorem sort_c (xs : List Int) (base g c : Nat) (w : World) (hn : xs.length ≤ 2000000) (h : OwnI base w (.slice (some ⟨g, 0, none⟩) xs.length c) xs) :
    Calls Try.prog 110 #[.slice (some ⟨g, 0, none⟩) xs.length c] w fun e w' => e = .returned (.tuple #[]) ∧ OwnI base w' (.slice (some ⟨g, 0, none⟩) (srt xs).length c) (srt xs) ∧ w.grownBy w' (some g) := by
  rcases h.2 with ⟨h0, _⟩ | ⟨g', cap', cur, hv, hg, hh, hn', hcap, hsz, htk⟩
  · cases h0
  cases hv
  have hlt : g < w.heap.size := (Array.getElem?_eq_some_iff.1 hh).1
  rw [Nat.mul_one] at htk
  refine (Any.slices_Sort_int (P := Try.prog) (ρ := lays189_ren) lays189 g 0 c xs w (holds_of_blockI hh htk) hlt (by omega)).mono ?_
  rintro e w' ⟨rfl, n, os, rfl⟩
  refine ⟨rfl, ?_, grownBy_sortedI _⟩
  have := ownsRow_sortedI (os := os) (n := n) (ss := xs) (ts := srt xs) (srt_len xs) hg hh hn' hcap hsz
  unfold OwnI
  rw [← srt_len xs] at this
  exact this

set_option maxHeartbeats 2000000 in
set_option maxRecDepth 100000 in
theorem insertNil_c (A : Option Addr) (c : Nat) (w : World) : Calls Try.prog 140 #[.slice A 0 c, .int .i64 0, .int .i64 0] w fun e w' => e = .returned (.tuple #[]) ∧ w' = w := by
  go_enter Try.func140, Try.ntmps140
  go_wp2
  go_loopg [6] 1 (fun gh s wr => gh = 1 ∧ s = .int .i64 1 ∧ wr = w)
  case atStart => exact ⟨rfl, rfl, rfl⟩
  case round =>
    obtain ⟨rfl, rfl, rfl⟩ := hrel
    go_wp2
    go_end0
    exact ⟨rfl, rfl⟩
set_option maxHeartbeats 2000000 in
set_option maxRecDepth 100000 in
theorem pdqNil_c (A : Option Addr) (c : Nat) (k : Int) (w : World) : Calls Try.prog 132 #[.slice A 0 c, .int .i64 0, .int .i64 0, .int .i64 k] w fun e w' => e = .returned (.tuple #[]) ∧ w' = w := by
  go_enter Try.func132, Try.ntmps132
  go_wp2
  go_loopg [1, 2] 1 (fun gh s1 s2 wr => gh = 1 ∧ s1 = .int .i64 0 ∧ s2 = .int .i64 0 ∧ wr = w)
  case atStart => exact ⟨rfl, rfl, rfl, rfl⟩
  case round =>
    obtain ⟨rfl, rfl, rfl, rfl⟩ := hrel
    go_wp2_with (go_at_call 140; go_fit (insertNil_c A c _); rintro e w' ⟨rfl, rfl⟩)
    (try simp only [Exit.inBlock, Exit.then])
    refine bodyPost_ret (results_none rfl _ _ _) rfl ?_
    exact ⟨rfl, rfl⟩
set_option maxHeartbeats 2000000 in
set_option maxRecDepth 100000 in
theorem len64z_c (w : World) : Calls Try.prog 150 #[.int .u64 0] w fun e w' => ∃ k, e = .returned (.int .i64 k) ∧ w' = w := by
  go_enter Try.func150, Try.ntmps150
  go_wp2
  go_ret
  exact ⟨_, rfl, rfl⟩
set_option maxHeartbeats 2000000 in
set_option maxRecDepth 100000 in
theorem lenz_c (w : World) : Calls Try.prog 133 #[.int .u64 0] w fun e w' => ∃ k, e = .returned (.int .i64 k) ∧ w' = w := by
  go_enter Try.func133, Try.ntmps133
  go_wp2_with (go_at_call 150; go_fit (len64z_c _); rintro e w' ⟨k, rfl, rfl⟩)
  go_ret
  exact ⟨_, rfl, rfl⟩
set_option maxHeartbeats 2000000 in
set_option maxRecDepth 100000 in
theorem sortNil_c (A : Option Addr) (c : Nat) (w : World) : Calls Try.prog 110 #[.slice A 0 c] w fun e w' => e = .returned (.tuple #[]) ∧ w' = w := by
  go_enter Try.func110, Try.ntmps110
  go_wp2_with (first | (go_at_call 133; go_fit (lenz_c _); rintro e w' ⟨k, rfl, rfl⟩) | (go_at_call 132; go_fit (pdqNil_c A c k _); rintro e w' ⟨rfl, rfl⟩))
  go_end0
  exact ⟨rfl, rfl⟩
end Go.Proofs.Ytledgblepdjjlaa
