/-
  Slices of numbers that are made and compared.
-/
import Derived.Test.YtmgikoaeomieeaaL11a
namespace Go.Proofs.Ytmgikoaeomieeaa
set_option linter.unusedVariables false
set_option linter.unusedSimpArgs false
open Go.RowKit Pp

theorem ints_at {xs : List Int} {k : Nat} {x : Int} (h : xs[k]? = some x) : xs.getD k 0 = x := by rw [List.getD_eq_getElem?_getD, h]; rfl
theorem rowI_get {xs : List Int} {k : Nat} {x : Int} (h : xs[k]? = some x) : (xs.map (Value.int .i64))[k]? = some (.int .i64 x) := by rw [List.getElem?_map, h]; rfl

set_option maxHeartbeats 2000000 in
set_option maxRecDepth 100000 in
theorem toIntS_c (A : Option Addr) (b o c B : Nat) (xs : List Int) (w : World) (hl : xs.length ≤ 2000000) (hB : B ≤ w.heap.size) (hR : IntsR w B b o A xs) :
    Calls Try.prog 59 #[.slice A xs.length c] w fun e w' => ∃ A1 c1, e = .returned (.slice A1 xs.length c1) ∧ OwnI w.heap.size w' (.slice A1 xs.length c1) xs ∧ Below w.heap.size w w' := by
  obtain ⟨i0, hi0, hz0, hz1, hz2⟩ := info_parts infoI
  have hmk := fun W => run_make (P := Try.prog) W 23 3 i0 (.int .i64 0) Try.underlying23 hi0 hz0 .i64 .i64 xs.length xs.length (by omega) (Int.le_refl _) (by rw [hz2]; omega) (by omega)
  simp only [Int.toNat_natCast, hz1] at hmk
  have hrow : (w.alloc (.cells (madeCells #[.int .i64 0] xs.length) 3)).rowIs w.heap.size 3 xs.length (rowC (xs.map (Value.int .i64)) 0) := by
    have h := World.rowIs_alloc w (madeCells #[.int .i64 0] xs.length) 3 (rowC (xs.map (Value.int .i64)) 0) (fun i hi => by
      rw [size_madeCells] at hi
      rw [rowC_none]
      simp only [madeCells, Array.getElem?_map]
      rw [Array.getElem?_eq_getElem (by simpa using hi)]
      simp
      rw [Nat.mod_one]; rfl)
    rwa [size_madeCells] at h
  go_enter Try.func59, Try.ntmps59
  go_wp2_with fail
  have hW0 : Below w.heap.size w (w.alloc (.cells (madeCells #[.int .i64 0] xs.length) 3)) := by go_grown
  generalize w.alloc (.cells (madeCells #[.int .i64 0] xs.length) 3) = W at hrow hW0 ⊢
  clear hmk
  go_loopg [4] xs.length (fun gh s wr => ∃ k : Nat, k ≤ xs.length ∧ gh = xs.length - k ∧ s = .int .i64 k ∧ Below w.heap.size w wr ∧ wr.rowIs w.heap.size 3 xs.length (rowC (xs.map (Value.int .i64)) k))
  case atStart => exact ⟨0, Nat.zero_le _, rfl, rfl, hW0, hrow⟩
  case round =>
    clear hW0 hrow
    obtain ⟨k, hk, rfl, rfl, hW, hrow⟩ := hrel
    by_cases hlt : k < xs.length
    · have hlt' : (k : Int) < (xs.length : Int) := by omega
      obtain rfl := hR.addr (by omega)
      have hx := List.getElem?_eq_getElem hlt
      have d0 := (hR.below (hW.mono hB)).cell k hlt
      rw [ints_at hx] at d0
      have hst := rowC_one (rowI_get hx)
      generalize xs[k] = x at d0 hst
      have hst' := hide hst
      clear hx hst
      have hHw := hrow.lt
      have t0 := hrow.cell (i := k) (by omega)
      have tf0 := hrow.frozen k
      go_wp2_with fail
      go_roundg (xs.length - (k + 1))
      case measure => go_light; omega
      case rel => go_light; exact ⟨k + 1, by omega, rfl, by go_num, hW.setCell (Nat.le_refl _) _, (hrow.set k _).congr (fun j _ => hst'.out j)⟩
    · obtain rfl : k = xs.length := by omega
      go_wp2_with fail
      go_ret
      refine ⟨_, _, rfl, ?_, hW⟩
      have h := row_own (n := xs.length) (cap := xs.length) (size := 1) (base := w.heap.size) (xs := xs.map (Value.int .i64)) (by rw [Nat.mul_one]; exact hrow) (fun j hj => rowC_full (by simp) j (by omega)) (by simp) (Nat.le_refl _) (Nat.le_refl _) (by unfold maxLen; omega)
      exact h

theorem toIntS_q (A : Option Addr) (b o c B : Nat) (xs : List Int) (w : World) (hl : xs.length ≤ 2000000) (hB : B ≤ w.heap.size) (hR : IntsR w B b o A xs) :
    Calls Try.prog 59 #[.slice A xs.length c] w fun e w' => ∃ A1 c1 g1, e = .returned (.slice A1 xs.length c1) ∧ IntsR w' w'.heap.size g1 0 A1 xs ∧ OwnI w.heap.size w' (.slice A1 xs.length c1) xs ∧ Below w.heap.size w w' := by
  refine (toIntS_c A b o c B xs w hl hB hR).mono ?_
  rintro e w' ⟨A1, c1, rfl, ho, hb⟩
  obtain ⟨g, hr⟩ := own_IntsR ho
  exact ⟨A1, c1, g, rfl, hr, ho, hb⟩

set_option maxHeartbeats 2000000 in
set_option maxRecDepth 100000 in
theorem eqIntS_yes (xs : List Int) (A A' : Option Addr) (b o c b' o' c' B : Nat) (w : World) (hn : xs.length ≤ 2000000) (hB : B ≤ w.heap.size) (hR : IntsR w B b o A xs) (hR' : IntsR w B b' o' A' xs) :
    Calls Try.prog 63 #[.slice A xs.length c, .slice A' xs.length c'] w fun e w' => e = .returned (.bool true) ∧ Below w.heap.size w w' := by
  go_enter Try.func63, Try.ntmps63
  go_wp2_with fail
  go_loopg [5] xs.length (fun gh i wr => ∃ k : Nat, k ≤ xs.length ∧ gh = xs.length - k ∧ i = .int .i64 k ∧ Below w.heap.size w wr)
  case atStart => exact ⟨0, Nat.zero_le _, rfl, rfl, Below.refl _ _⟩
  case round =>
    obtain ⟨k, hk, rfl, rfl, hW⟩ := hrel
    by_cases hlt : k < xs.length
    · have hz : (k : Int) < (xs.length : Int) := by omega
      have hz0 : (0 : Int) ≤ (k : Int) := by omega
      obtain rfl := hR.addr (by omega)
      obtain rfl := hR'.addr (by omega)
      have d0 := (hR.below (hW.mono hB)).cell k hlt
      have e0 := (hR'.below (hW.mono hB)).cell k hlt
      generalize xs.getD k 0 = x at d0 e0
      go_upto_region 6 with fail
      go_region
      go_wp2_with fail
      go_roundg (xs.length - (k + 1))
      case measure => go_light; omega
      case rel => go_light; exact ⟨k + 1, by omega, rfl, by go_num, hW.trans (by go_grown)⟩
    · go_wp2_with fail
      go_ret
      exact ⟨rfl, hW⟩
end Go.Proofs.Ytmgikoaeomieeaa
