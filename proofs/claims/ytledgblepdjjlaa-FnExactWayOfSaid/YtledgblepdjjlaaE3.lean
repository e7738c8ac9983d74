/-
  Slices of numbers that are made, compared, marked and held.
-/
import Derived.Test.YtledgblepdjjlaaI3
import Derived.Test.YtledgblepdjjlaaE1
namespace Go.Proofs.Ytledgblepdjjlaa
set_option linter.unusedVariables false
set_option linter.unusedSimpArgs false
open Go.RowKit Pp

theorem ints_at {xs : List Int} {k : Nat} {x : Int} (h : xs[k]? = some x) : xs.getD k 0 = x := by rw [List.getD_eq_getElem?_getD, h]; rfl
theorem rowI_get {xs : List Int} {k : Nat} {x : Int} (h : xs[k]? = some x) : (xs.map (Value.int .i64))[k]? = some (.int .i64 x) := by rw [List.getElem?_map, h]; rfl

set_option maxHeartbeats 2000000 in
set_option maxRecDepth 100000 in
theorem toIntS_c (A : Option Addr) (b o c B : Nat) (xs : List Int) (w : World) (hl : xs.length ≤ 2000000) (hB : B ≤ w.heap.size) (hR : IntsR w B b o A xs) :
    Calls Try.prog 18 #[.slice A xs.length c] w fun e w' => ∃ A1 c1, e = .returned (.slice A1 xs.length c1) ∧ OwnI w.heap.size w' (.slice A1 xs.length c1) xs ∧ Below w.heap.size w w' := by
  obtain ⟨i0, hi0, hz0, hz1, hz2⟩ := info_parts infoI
  have hmk := fun W => run_make (P := Try.prog) W 28 3 i0 (.int .i64 0) Try.underlying28 hi0 hz0 .i64 .i64 xs.length xs.length (by omega) (Int.le_refl _) (by rw [hz2]; omega) (by omega)
  simp only [Int.toNat_natCast, hz1] at hmk
  have hrow : (w.alloc (.cells (madeCells #[.int .i64 0] xs.length) 3)).rowIs w.heap.size 3 xs.length (rowC (xs.map (Value.int .i64)) 0) := by
    have h := World.rowIs_alloc w (madeCells #[.int .i64 0] xs.length) 3 (rowC (xs.map (Value.int .i64)) 0) (fun i hi => by
      rw [size_madeCells] at hi
      rw [rowC_none]
      simp only [madeCells, Array.getElem?_map]
      rw [Array.getElem?_eq_getElem (by simpa using hi)]
      simp
      rw [Nat.mod_one]; rfl)
    rwa [size_madeCells] at h
  go_enter Try.func18, Try.ntmps18
  go_wp2_with fail
  have hW0 : Below w.heap.size w (w.alloc (.cells (madeCells #[.int .i64 0] xs.length) 3)) := by go_grown
  generalize w.alloc (.cells (madeCells #[.int .i64 0] xs.length) 3) = W at hrow hW0 ⊢
  clear hmk
  go_loopg [4] xs.length (fun gh s wr => ∃ k : Nat, k ≤ xs.length ∧ gh = xs.length - k ∧ s = .int .i64 k ∧ Below w.heap.size w wr ∧ wr.rowIs w.heap.size 3 xs.length (rowC (xs.map (Value.int .i64)) k))
  case atStart => exact ⟨0, Nat.zero_le _, rfl, rfl, hW0, hrow⟩
  case round =>
    clear hW0 hrow
    obtain ⟨k, hk, rfl, rfl, hW, hrow⟩ := hrel
    by_cases hlt : k < xs.length
    · have hlt' : (k : Int) < (xs.length : Int) := by omega
      obtain rfl := hR.addr (by omega)
      have hx := List.getElem?_eq_getElem hlt
      have d0 := (hR.below (hW.mono hB)).cell k hlt
      rw [ints_at hx] at d0
      have hst := rowC_one (rowI_get hx)
      generalize xs[k] = x at d0 hst
      have hst' := hide hst
      clear hx hst
      have hHw := hrow.lt
      have t0 := hrow.cell (i := k) (by omega)
      have tf0 := hrow.frozen k
      go_wp2_with fail
      go_roundg (xs.length - (k + 1))
      case measure => go_light; omega
      case rel => go_light; exact ⟨k + 1, by omega, rfl, by go_num, hW.setCell (Nat.le_refl _) _, (hrow.set k _).congr (fun j _ => hst'.out j)⟩
    · obtain rfl : k = xs.length := by omega
      go_wp2_with fail
      go_ret
      refine ⟨_, _, rfl, ?_, hW⟩
      have h := row_own (n := xs.length) (cap := xs.length) (size := 1) (base := w.heap.size) (xs := xs.map (Value.int .i64)) (by rw [Nat.mul_one]; exact hrow) (fun j hj => rowC_full (by simp) j (by omega)) (by simp) (Nat.le_refl _) (Nat.le_refl _) (by unfold maxLen; omega)
      exact h

theorem toIntS_q (A : Option Addr) (b o c B : Nat) (xs : List Int) (w : World) (hl : xs.length ≤ 2000000) (hB : B ≤ w.heap.size) (hR : IntsR w B b o A xs) :
    Calls Try.prog 18 #[.slice A xs.length c] w fun e w' => ∃ A1 c1 g1, e = .returned (.slice A1 xs.length c1) ∧ IntsR w' w'.heap.size g1 0 A1 xs ∧ OwnI w.heap.size w' (.slice A1 xs.length c1) xs ∧ Below w.heap.size w w' := by
  refine (toIntS_c A b o c B xs w hl hB hR).mono ?_
  rintro e w' ⟨A1, c1, rfl, ho, hb⟩
  obtain ⟨g, hr⟩ := own_IntsR ho
  exact ⟨A1, c1, g, rfl, hr, ho, hb⟩

set_option maxHeartbeats 2000000 in
set_option maxRecDepth 100000 in
theorem eqIntS_yes (xs : List Int) (A A' : Option Addr) (b o c b' o' c' B : Nat) (w : World) (hn : xs.length ≤ 2000000) (hB : B ≤ w.heap.size) (hR : IntsR w B b o A xs) (hR' : IntsR w B b' o' A' xs) :
    Calls Try.prog 22 #[.slice A xs.length c, .slice A' xs.length c'] w fun e w' => e = .returned (.bool true) ∧ Below w.heap.size w w' := by
  go_enter Try.func22, Try.ntmps22
  go_wp2_with fail
  go_loopg [5] xs.length (fun gh i wr => ∃ k : Nat, k ≤ xs.length ∧ gh = xs.length - k ∧ i = .int .i64 k ∧ Below w.heap.size w wr)
  case atStart => exact ⟨0, Nat.zero_le _, rfl, rfl, Below.refl _ _⟩
  case round =>
    obtain ⟨k, hk, rfl, rfl, hW⟩ := hrel
    by_cases hlt : k < xs.length
    · have hz : (k : Int) < (xs.length : Int) := by omega
      have hz0 : (0 : Int) ≤ (k : Int) := by omega
      obtain rfl := hR.addr (by omega)
      obtain rfl := hR'.addr (by omega)
      have d0 := (hR.below (hW.mono hB)).cell k hlt
      have e0 := (hR'.below (hW.mono hB)).cell k hlt
      generalize xs.getD k 0 = x at d0 e0
      go_upto_region 6 with fail
      go_region
      go_wp2_with fail
      go_roundg (xs.length - (k + 1))
      case measure => go_light; omega
      case rel => go_light; exact ⟨k + 1, by omega, rfl, by go_num, hW.trans (by go_grown)⟩
    · go_wp2_with fail
      go_ret
      exact ⟨rfl, hW⟩

set_option maxHeartbeats 4000000 in
set_option maxRecDepth 100000 in
theorem markIntS_c (k0 : Int) (base : Nat) (A : Option Addr) (c : Nat) (xs : List Int) (w : World) (hk : 0 ≤ k0 ∧ k0 ≤ 1000000000000) (hn : xs.length ≤ 2000000) (hown : OwnI base w (.slice A xs.length c) xs) (hw : base ≤ w.heap.size) :
    Calls Try.prog 24 #[.slice A xs.length c, .int .i64 k0] w fun e w' => e = .returned (.int .i64 (k0 + xs.length)) ∧ OwnI base w' (.slice A xs.length c) (markI k0 xs.length) ∧ w.grownBy w' (Value.slice A xs.length c).ownBlock := by
  obtain ⟨hk0, hk1⟩ := hk
  rcases Nat.eq_zero_or_pos xs.length with h0 | h0
  · have e : xs = [] := List.eq_nil_of_length_eq_zero h0
    subst e
    go_enter Try.func24, Try.ntmps24
    go_wp2_with fail
    go_loopg [1, 5] 0 (fun gh s1 s5 wr => wr = w ∧ s1 = .int .i64 k0 ∧ s5 = .int .i64 0)
    case atStart => exact ⟨rfl, rfl, rfl⟩
    case round =>
      obtain ⟨rfl, rfl, rfl⟩ := hrel
      go_wp2_with fail
      go_ret
      exact ⟨by simp, by simpa [markI] using hown, World.grownBy.refl _ _⟩
  · obtain ⟨A1, g, c1, hv, h1, h2, _⟩ := own_form hown
    injection hv with e1 _ e3
    subst e1; subst e3
    obtain rfl := h1 h0
    obtain ⟨f, hf, hx, hb, hnc, hcm⟩ := own_row hown
    rw [Nat.mul_one] at hf
    obtain ⟨n, hn'⟩ : ∃ n, xs.length = n := ⟨_, rfl⟩
    rw [hn'] at hn h0 hnc ⊢
    clear hown h1 h2 hx hn' hw
    go_enter Try.func24, Try.ntmps24
    go_wp2_with fail
    go_loopg [1, 5] n (fun gh s1 s5 wr => ∃ i : Nat, ∃ v : Int, i ≤ n ∧ gh = n - i ∧ s1 = .int .i64 v ∧ s5 = .int .i64 i ∧ Hid (v = k0 + i) ∧ w.grownBy wr (some g) ∧ wr.rowIs g 3 c (fun j => if j < i then .int .i64 (k0 + j) else f j))
    case atStart => exact ⟨0, k0, Nat.zero_le _, rfl, rfl, rfl, by simp [Hid], World.grownBy.refl _ _, hf.congr (fun j _ => by rw [if_neg (by omega)])⟩
    case round =>
      clear hf
      obtain ⟨i, v, hi, rfl, rfl, rfl, Hv, hG, hrow⟩ := hrel
      have hv0 : 0 ≤ v ∧ v ≤ 1000010000000 := by have := Hv.out; omega
      obtain ⟨hv1, hv2⟩ := hv0
      by_cases hlt : i < n
      · have hlt' : (i : Int) < (n : Int) := by omega
        have t0 := hrow.cell (i := i) (by omega)
        have tf0 := hrow.frozen i
        have hstep := hrow.set i (.int .i64 v)
        have hG3 : w.grownBy (wr.setCell ⟨g, i, none⟩ (.int .i64 v)) (some g) := grown_cells [.int .i64 v] i wr hG
        have HS := hide hstep
        clear hstep
        go_wp2_with fail
        go_roundg (n - (i + 1))
        case measure => go_light; omega
        case rel =>
          go_light
          refine ⟨i + 1, _, by omega, rfl, rfl, by go_num, ?_, hG3, HS.out.congr (fun j _ => ?_)⟩
          · have := Hv.out; unfold Hid; omega
          · have hvv := Hv.out
            by_cases e0 : j = i
            · subst e0; rw [if_pos rfl, if_pos (by omega)]; congr 1
            · rw [if_neg e0]
              by_cases h : j < i
              · rw [if_pos h, if_pos (by omega)]
              · rw [if_neg h, if_neg (by omega)]
      · obtain rfl : i = n := by omega
        go_wp2_with fail
        go_ret
        have hm := markI_length k0 i
        refine ⟨by rw [Hv.out]; rfl, ?_, hG⟩
        have h := row_own (n := i) (base := base) (size := 1) (xs := (markI k0 i).map (Value.int .i64)) (by rw [Nat.mul_one]; exact hrow) (fun j hj => by rw [rowI_get (markI_get k0 i j (by omega)), if_pos (by omega)]) (by rw [List.length_map, hm, Nat.mul_one]) hb hnc hcm
        unfold OwnI
        rw [hm]
        exact h

set_option maxHeartbeats 4000000 in
set_option maxRecDepth 100000 in
theorem heldIntS_c (k0 : Int) (A : Option Addr) (b o c n B : Nat) (w : World) (hk : 0 ≤ k0 ∧ k0 ≤ 1000000000000) (hn : n ≤ 2000000) (hR : IntsR w B b o A (markI k0 n)) :
    Calls Try.prog 56 #[.slice A n c, .int .i64 k0] w fun e w' => e = .returned (.int .i64 (k0 + n)) ∧ w = w' := by
  obtain ⟨hk0, hk1⟩ := hk
  have hm := markI_length k0 n
  go_enter Try.func56, Try.ntmps56
  go_wp2_with fail
  go_loopg [1, 5] n (fun gh s1 s5 wr => wr = w ∧ ∃ i : Nat, ∃ v : Int, i ≤ n ∧ gh = n - i ∧ s1 = .int .i64 v ∧ s5 = .int .i64 i ∧ Hid (v = k0 + i))
  case atStart => exact ⟨rfl, 0, k0, Nat.zero_le _, rfl, rfl, rfl, by simp [Hid]⟩
  case round =>
    obtain ⟨rfl, i, v, hi, rfl, rfl, rfl, Hv⟩ := hrel
    have hv0 : 0 ≤ v ∧ v ≤ 1000010000000 := by have := Hv.out; omega
    obtain ⟨hv1, hv2⟩ := hv0
    by_cases hlt : i < n
    · have hlt' : (i : Int) < (n : Int) := by omega
      obtain rfl := hR.addr (by omega)
      have d0 := hR.cell i (by omega)
      rw [markI_getD k0 n i hlt, ← Hv.out] at d0
      clear hm
      go_wp2_with fail
      go_roundg (n - (i + 1))
      case measure => go_light; omega
      case rel =>
        go_light
        refine ⟨rfl, i + 1, _, by omega, rfl, rfl, by go_num, ?_⟩
        have := Hv.out; unfold Hid; omega
    · obtain rfl : i = n := by omega
      go_wp2_with fail
      go_ret
      exact ⟨by rw [Hv.out]; rfl, rfl⟩
end Go.Proofs.Ytledgblepdjjlaa
