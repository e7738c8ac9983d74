/-
  Marks that are made, compared and marked.
-/
import Derived.Test.YtofodhdpppjaoaaE1
import Derived.Test.YtofodhdpppjaoaaR70
namespace Go.Proofs.Ytofodhdpppjaoaa
set_option linter.unusedVariables false
set_option linter.unusedSimpArgs false
open Go.RowKit Pp

theorem szMarkS_c (l : Int) (A : Option Addr) (n c : Nat) (w : World) (hl : 0 ≤ l ∧ l ≤ 1048576) (hn : n ≤ 9223372036854775807) :
    Calls Try.prog 13 #[.slice A n c, .int .i64 l] w fun e w' => e = .returned (.int .i64 (if l - n < 0 then -1 else l - n)) ∧ w = w' := by
  obtain ⟨hl0, hl1⟩ := hl
  by_cases h : l - (n : Int) < 0
  · rw [if_pos h]
    go_enter Try.func13, Try.ntmps13
    go_wp2_with fail
    go_ret
    exact ⟨rfl, rfl⟩
  · rw [if_neg h]
    go_enter Try.func13, Try.ntmps13
    go_wp2_with fail
    go_ret
    exact ⟨rfl, rfl⟩

set_option maxHeartbeats 1000000 in
set_option maxRecDepth 100000 in
theorem toMark_c (x : Mk) (w : World) : Calls Try.prog 47 #[.agg #[.int .i64 x.k, .int .i64 x.l, .int .i64 x.h]] w fun e w' => e = .returned (.agg #[.int .i64 x.k, .int .i64 x.l, .int .i64 x.h]) ∧ Below w.heap.size w w' := by
  go_enter Try.func47, Try.ntmps47
  go_wp2_with fail
  refine bodyPost_ret (v := .agg #[.int .i64 x.k, .int .i64 x.l, .int .i64 x.h]) (by simp [results, Try.results47, go_sem]) rfl ?_
  exact ⟨rfl, by go_grown⟩

theorem mkRow_step {xs : List Mk} {k : Nat} {x : Mk} (hx : xs[k]? = some x) (j : Nat) :
    (if j = k * 3 + 2 then Value.int .i64 x.h else if j = k * 3 + 1 then Value.int .i64 x.l else if j = k * 3 then Value.int .i64 x.k else rowC (mkCs xs) (k * 3) j) = rowC (mkCs xs) ((k + 1) * 3) j := by
  obtain ⟨g0, g1, g2⟩ := mkCs_get xs k x hx
  rw [rowC_one g0]
  rw [rowC_one (m := k * 3 + 1) g1]
  rw [rowC_one (m := k * 3 + 2) g2]
  rw [show k * 3 + 2 + 1 = (k + 1) * 3 by omega]

set_option maxHeartbeats 2000000 in
set_option maxRecDepth 100000 in
theorem toMarkS_c (A : Option Addr) (b o c B : Nat) (xs : List Mk) (w : World) (hl : xs.length ≤ 2000000) (hB : B ≤ w.heap.size) (hR : CsR w B b o A xs.length (mkCs xs)) :
    Calls Try.prog 15 #[.slice A xs.length c] w fun e w' => ∃ A1 c1, e = .returned (.slice A1 xs.length c1) ∧ w'.ownsRow w.heap.size 43 3 (.slice A1 xs.length c1) xs.length (mkCs xs) ∧ Below w.heap.size w w' := by
  obtain ⟨i0, hi0, hz0, hz1, hz2⟩ := info_parts infoM
  have hmk := fun W => run_make (P := Try.prog) W 23 43 i0 (.agg #[.int .i64 0, .int .i64 0, .int .i64 0]) Try.underlying23 hi0 hz0 .i64 .i64 xs.length xs.length (by omega) (Int.le_refl _) (by rw [hz2]; omega) (by omega)
  simp only [Int.toNat_natCast, hz1] at hmk
  have hrow : (w.alloc (.cells (madeCells #[.int .i64 0, .int .i64 0, .int .i64 0] (xs.length * 3)) 43)).rowIs w.heap.size 43 (xs.length * 3) (rowC (mkCs xs) (0 * 3)) := by
    have h := World.rowIs_alloc w (madeCells #[.int .i64 0, .int .i64 0, .int .i64 0] (xs.length * 3)) 43 (rowC (mkCs xs) (0 * 3)) (fun i hi => by
      rw [size_madeCells] at hi
      have h3 : i % 3 = 0 ∨ i % 3 = 1 ∨ i % 3 = 2 := by omega
      rw [Nat.zero_mul, rowC_none]
      simp only [madeCells, Array.getElem?_map]
      rw [Array.getElem?_eq_getElem (by simpa using hi)]
      simp
      rcases h3 with h | h | h <;> rw [h] <;> rfl)
    rwa [size_madeCells] at h
  go_enter Try.func15, Try.ntmps15
  go_wp2_with fail
  have hW0 : Below w.heap.size w (w.alloc (.cells (madeCells #[.int .i64 0, .int .i64 0, .int .i64 0] (xs.length * 3)) 43)) := by go_grown
  generalize w.alloc (.cells (madeCells #[.int .i64 0, .int .i64 0, .int .i64 0] (xs.length * 3)) 43) = W at hrow hW0 ⊢
  clear hmk
  go_loopg [4] xs.length (fun gh s wr => ∃ k : Nat, k ≤ xs.length ∧ gh = xs.length - k ∧ s = .int .i64 k ∧ Below w.heap.size w wr ∧ wr.rowIs w.heap.size 43 (xs.length * 3) (rowC (mkCs xs) (k * 3)))
  case atStart => exact ⟨0, Nat.zero_le _, rfl, rfl, hW0, hrow⟩
  case round =>
    clear hW0 hrow
    obtain ⟨k, hk, rfl, rfl, hW, hrow⟩ := hrel
    by_cases hlt : k < xs.length
    · have hlt' : (k : Int) < (xs.length : Int) := by omega
      obtain rfl := hR.addr (by omega)
      have hx := List.getElem?_eq_getElem hlt
      have hR2 := hR.below (hW.mono hB)
      obtain ⟨g0, g1, g2⟩ := mkCs_get xs k _ hx
      have d0 := hR2.cell _ _ g0
      have d1 := hR2.at (k * 3) 1 rfl g1
      have d2 := hR2.at (k * 3) 2 rfl g2
      have hst := mkRow_step hx
      generalize xs[k] = x at d0 d1 d2 hst
      have hst' := hide hst
      clear hx hR2 hst g0 g1 g2
      have hHw := hrow.lt
      go_wp2_with (go_at_call 47; go_fit (toMark_c x _); rintro e w2 ⟨rfl, hb2⟩; have hrow2 := rowIs_below hrow hb2 hHw; have hW2 : Below w.heap.size w w2 := bthen hW hb2; have t0 := hrow2.cell (i := k * 3) (by omega); have t1 := hrow2.cell (i := k * 3 + 1) (by omega); have t2 := hrow2.cell (i := k * 3 + 2) (by omega); have tf0 := hrow2.frozen (k * 3); have tf1 := hrow2.frozen (k * 3 + 1); have tf2 := hrow2.frozen (k * 3 + 2))
      go_roundg (xs.length - (k + 1))
      case measure => go_light; omega
      case rel => go_light; exact ⟨k + 1, by omega, rfl, by go_num, (((hW2.setCell (Nat.le_refl _) _).setCell (Nat.le_refl _) _).setCell (Nat.le_refl _) _), (((hrow2.set (k * 3) _).set (k * 3 + 1) _).set (k * 3 + 2) _).congr (fun j _ => hst'.out j)⟩
    · obtain rfl : k = xs.length := by omega
      go_wp2_with fail
      go_ret
      refine ⟨_, _, rfl, row_own hrow (fun j hj => rowC_full (mkCs_length xs) j hj) (mkCs_length xs) (Nat.le_refl _) (Nat.le_refl _) (by unfold maxLen; omega), hW⟩

set_option maxHeartbeats 1000000 in
set_option maxRecDepth 100000 in
theorem eqMark_yes (x : Mk) (w : World) : Calls Try.prog 49 #[.agg #[.int .i64 x.k, .int .i64 x.l, .int .i64 x.h], .agg #[.int .i64 x.k, .int .i64 x.l, .int .i64 x.h]] w fun e w' => e = .returned (.bool true) ∧ Below w.heap.size w w' := by
  have hW : Below w.heap.size w ((w.alloc (.cells #[.int .i64 x.k, .int .i64 x.l, .int .i64 x.h] 43)).alloc (.cells #[.int .i64 x.k, .int .i64 x.l, .int .i64 x.h] 43)) := by go_grown
  go_enter Try.func49, Try.ntmps49
  go_wp2_with fail
  go_ret
  exact ⟨rfl, hW⟩

set_option maxHeartbeats 4000000 in
set_option maxRecDepth 100000 in
theorem eqMarkS_yes (xs : List Mk) (A A' : Option Addr) (b o c b' o' c' B : Nat) (w : World) (hn : xs.length ≤ 2000000) (hB : B ≤ w.heap.size) (hR : CsR w B b o A xs.length (mkCs xs)) (hR' : CsR w B b' o' A' xs.length (mkCs xs)) :
    Calls Try.prog 17 #[.slice A xs.length c, .slice A' xs.length c'] w fun e w' => e = .returned (.bool true) ∧ Below w.heap.size w w' := by
  go_enter Try.func17, Try.ntmps17
  go_wp2_with fail
  go_loopg [5] xs.length (fun gh i wr => ∃ k : Nat, k ≤ xs.length ∧ gh = xs.length - k ∧ i = .int .i64 k ∧ Below w.heap.size w wr)
  case atStart => exact ⟨0, Nat.zero_le _, rfl, rfl, Below.refl _ _⟩
  case round =>
    obtain ⟨k, hk, rfl, rfl, hW⟩ := hrel
    by_cases hlt : k < xs.length
    · have hz : (k : Int) < (xs.length : Int) := by omega
      have hz0 : (0 : Int) ≤ (k : Int) := by omega
      obtain rfl := hR.addr (by omega)
      obtain rfl := hR'.addr (by omega)
      have hx := List.getElem?_eq_getElem hlt
      have hR2 := hR.below (hW.mono hB)
      have hR3 := hR'.below (hW.mono hB)
      obtain ⟨g0, g1, g2⟩ := mkCs_get xs k _ hx
      have d0 := hR2.cell _ _ g0
      have d1 := hR2.at (k * 3) 1 rfl g1
      have d2 := hR2.at (k * 3) 2 rfl g2
      have e0 := hR3.cell _ _ g0
      have e1 := hR3.at (k * 3) 1 rfl g1
      have e2 := hR3.at (k * 3) 2 rfl g2
      have hb1 : b < wr.heap.size := Nat.lt_of_lt_of_le (hR.lt (by omega)) (Nat.le_trans hB hW.size)
      have hb2 : b' < wr.heap.size := Nat.lt_of_lt_of_le (hR'.lt (by omega)) (Nat.le_trans hB hW.size)
      generalize xs[k] = x at d0 d1 d2 e0 e1 e2
      clear hx hR2 hR3 g0 g1 g2
      go_upto_region 6 with fail
      go_region_held3 (fun w' => w'.cell? ⟨b, o + k * 3, none⟩ = some (.int .i64 x.k) ∧ w'.cell? ⟨b, o + k * 3 + 1, none⟩ = some (.int .i64 x.l) ∧ w'.cell? ⟨b, o + k * 3 + 2, none⟩ = some (.int .i64 x.h) ∧ w'.cell? ⟨b', o' + k * 3, none⟩ = some (.int .i64 x.k) ∧ w'.cell? ⟨b', o' + k * 3 + 1, none⟩ = some (.int .i64 x.l) ∧ w'.cell? ⟨b', o' + k * 3 + 2, none⟩ = some (.int .i64 x.h))
        (first
          | (go_split_ands; (repeat' apply And.intro) <;> first | assumption | exact ((bcell hb5).1 _ _ (by simp only [World.size_drew]; omega)).trans (by assumption))
          | (go_keep; done))
        ((go_at_call 49; go_fit (eqMark_yes x _); rintro e w5 ⟨rfl, hb5⟩; have hW5 : Below w.heap.size w w5 := bthen hW.drew hb5))
      go_wp2_with fail
      go_roundg (xs.length - (k + 1))
      case measure => go_light; omega
      case rel => go_light; exact ⟨k + 1, by omega, rfl, by go_num, hW5⟩
    · go_wp2_with fail
      go_ret
      exact ⟨rfl, hW⟩

set_option maxHeartbeats 4000000 in
set_option maxRecDepth 100000 in
theorem markMarkS_c (k0 : Int) (base n : Nat) (A : Option Addr) (c : Nat) (cs : List Value) (w : World) (hk : 0 ≤ k0 ∧ k0 ≤ 1000000000000) (hn : n ≤ 2000000) (hown : w.ownsRow base 43 3 (.slice A n c) n cs) (hw : base ≤ w.heap.size) :
    Calls Try.prog 18 #[.slice A n c, .int .i64 k0] w fun e w' => e = .returned (.int .i64 (k0 + 3 * n)) ∧ w'.ownsRow base 43 3 (.slice A n c) n ((markI k0 (n * 3)).map (Value.int .i64)) ∧ w.grownBy w' (Value.slice A n c).ownBlock := by
  obtain ⟨hk0, hk1⟩ := hk
  rcases Nat.eq_zero_or_pos n with h0 | h0
  · subst h0
    have e : cs = [] := List.eq_nil_of_length_eq_zero (by rw [hown.1, Nat.zero_mul])
    subst e
    go_enter Try.func18, Try.ntmps18
    go_wp2_with fail
    go_loopg [1, 5] 0 (fun gh s1 s5 wr => wr = w ∧ s1 = .int .i64 k0 ∧ s5 = .int .i64 0)
    case atStart => exact ⟨rfl, rfl, rfl⟩
    case round =>
      obtain ⟨rfl, rfl, rfl⟩ := hrel
      go_wp2_with fail
      go_ret
      exact ⟨by simp, by simpa [markI] using hown, World.grownBy.refl _ _⟩
  · obtain ⟨A1, g, c1, hv, h1, h2, _⟩ := own_form hown
    injection hv with e1 _ e3
    subst e1; subst e3
    obtain rfl := h1 h0
    obtain ⟨f, hf, hx, hb, hnc, hcm⟩ := own_row hown
    clear hown h1 h2 hx hw
    go_enter Try.func18, Try.ntmps18
    go_wp2_with fail
    go_loopg [1, 5] n (fun gh s1 s5 wr => ∃ i : Nat, ∃ v : Int, i ≤ n ∧ gh = n - i ∧ s1 = .int .i64 v ∧ s5 = .int .i64 i ∧ Hid (v = k0 + 3 * i) ∧ w.grownBy wr (some g) ∧ wr.rowIs g 43 (c * 3) (fun j => if j < i * 3 then .int .i64 (k0 + j) else f j))
    case atStart => exact ⟨0, k0, Nat.zero_le _, rfl, rfl, rfl, by simp [Hid], World.grownBy.refl _ _, hf.congr (fun j _ => by rw [if_neg (by omega)])⟩
    case round =>
      clear hf
      obtain ⟨i, v, hi, rfl, rfl, rfl, Hv, hG, hrow⟩ := hrel
      have hv0 : 0 ≤ v ∧ v ≤ 1000010000000 := by have := Hv.out; omega
      obtain ⟨hv1, hv2⟩ := hv0
      by_cases hlt : i < n
      · have hlt' : (i : Int) < (n : Int) := by omega
        have t0 := hrow.cell (i := i * 3) (by omega)
        have t1 := hrow.cell (i := i * 3 + 1) (by omega)
        have t2 := hrow.cell (i := i * 3 + 2) (by omega)
        have tf0 := hrow.frozen (i * 3)
        have tf1 := hrow.frozen (i * 3 + 1)
        have tf2 := hrow.frozen (i * 3 + 2)
        have hstep := (((hrow.set (i * 3) (.int .i64 (v))).set (i * 3 + 1) (.int .i64 (v + 1))).set (i * 3 + 2) (.int .i64 (v + 1 + 1)))
        have hG3 : w.grownBy (((wr.setCell ⟨g, i * 3, none⟩ (.int .i64 (v))).setCell ⟨g, i * 3 + 1, none⟩ (.int .i64 (v + 1))).setCell ⟨g, i * 3 + 2, none⟩ (.int .i64 (v + 1 + 1))) (some g) := grown_cells [.int .i64 (v), .int .i64 (v + 1), .int .i64 (v + 1 + 1)] (i * 3) wr hG
        have HS := hide hstep
        clear hstep
        go_wp2_with fail
        go_roundg (n - (i + 1))
        case measure => go_light; omega
        case rel =>
          go_light
          refine ⟨i + 1, _, by omega, rfl, rfl, by go_num, ?_, hG3, HS.out.congr (fun j _ => ?_)⟩
          · have := Hv.out; unfold Hid; omega
          · have hvv := Hv.out
            by_cases e2 : j = i * 3 + 2
            · subst e2; rw [if_pos rfl, if_pos (by omega)]; congr 1; omega
            rw [if_neg e2]
            by_cases e1 : j = i * 3 + 1
            · subst e1; rw [if_pos rfl, if_pos (by omega)]; congr 1; omega
            rw [if_neg e1]
            by_cases e0 : j = i * 3
            · subst e0; rw [if_pos rfl, if_pos (by omega)]; congr 1; omega
            rw [if_neg e0]
            by_cases h : j < i * 3
            · rw [if_pos h, if_pos (by omega)]
            rw [if_neg h, if_neg (by omega)]
      · obtain rfl : i = n := by omega
        go_wp2_with fail
        go_ret
        refine ⟨by rw [Hv.out]; rfl, ?_, hG⟩
        exact row_own (n := i) (base := base) (xs := (markI k0 (i * 3)).map (Value.int .i64)) hrow (fun j hj => by rw [List.getElem?_map, markI_get k0 _ j hj, if_pos hj]; rfl) (by rw [List.length_map, markI_length]) hb hnc hcm

/-! ### deals -/
end Go.Proofs.Ytofodhdpppjaoaa
