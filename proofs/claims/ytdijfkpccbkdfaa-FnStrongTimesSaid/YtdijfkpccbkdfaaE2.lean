/-
  Deals: promises that are made, compared and marked.
-/
import Derived.Test.YtdijfkpccbkdfaaE1
import Derived.Test.YtdijfkpccbkdfaaR1
namespace Go.Proofs.Ytdijfkpccbkdfaa
set_option linter.unusedVariables false
set_option linter.unusedSimpArgs false
open Go.RowKit Pp

theorem infoPr : (Try.prog.info? 40).map (fun i => (i.zero, i.size, i.bytes)) = some (some (.agg #[.int .i64 0, .int .i64 0, .int .i64 0, .int .i64 0]), 4, 32) := by kernel_rfl

theorem szPromiseS_c (l : Int) (A : Option Addr) (n c : Nat) (w : World) (hl : 0 ≤ l ∧ l ≤ 1048576) (hn : n ≤ 9223372036854775807) :
    Calls Try.prog 68 #[.slice A n c, .int .i64 l] w fun e w' => e = .returned (.int .i64 (if l - n < 0 then -1 else l - n)) ∧ w = w' := by
  obtain ⟨hl0, hl1⟩ := hl
  by_cases h : l - (n : Int) < 0
  · rw [if_pos h]
    go_enter Try.func68, Try.ntmps68
    go_wp2_with fail
    go_ret
    exact ⟨rfl, rfl⟩
  · rw [if_neg h]
    go_enter Try.func68, Try.ntmps68
    go_wp2_with fail
    go_ret
    exact ⟨rfl, rfl⟩

set_option maxHeartbeats 1000000 in
set_option maxRecDepth 100000 in
theorem toPromise_c (x : Pr) (w : World) : Calls Try.prog 98 #[.agg #[.int .i64 x.f, .int .i64 x.t, .int .i64 x.l, .int .i64 x.h]] w fun e w' => e = .returned (.agg #[.int .i64 x.f, .int .i64 x.t, .int .i64 x.l, .int .i64 x.h]) ∧ Below w.heap.size w w' := by
  go_enter Try.func98, Try.ntmps98
  go_wp2_with fail
  refine bodyPost_ret (v := .agg #[.int .i64 x.f, .int .i64 x.t, .int .i64 x.l, .int .i64 x.h]) (by simp [results, Try.results98, go_sem]) rfl ?_
  exact ⟨rfl, by go_grown⟩

theorem prRow_step {xs : List Pr} {k : Nat} {x : Pr} (hx : xs[k]? = some x) (j : Nat) :
    (if j = k * 4 + 3 then Value.int .i64 x.h else if j = k * 4 + 2 then Value.int .i64 x.l else if j = k * 4 + 1 then Value.int .i64 x.t else if j = k * 4 then Value.int .i64 x.f else rowC (prCs xs) (k * 4) j) = rowC (prCs xs) ((k + 1) * 4) j := by
  obtain ⟨g0, g1, g2, g3⟩ := prCs_get xs k x hx
  rw [rowC_one g0]
  rw [rowC_one (m := k * 4 + 1) g1]
  rw [rowC_one (m := k * 4 + 2) g2]
  rw [rowC_one (m := k * 4 + 3) g3]
  rw [show k * 4 + 3 + 1 = (k + 1) * 4 by omega]

set_option maxHeartbeats 2000000 in
set_option maxRecDepth 100000 in
theorem toPromiseS_c (A : Option Addr) (b o c B : Nat) (xs : List Pr) (w : World) (hl : xs.length ≤ 2000000) (hB : B ≤ w.heap.size) (hR : CsR w B b o A xs.length (prCs xs)) :
    Calls Try.prog 70 #[.slice A xs.length c] w fun e w' => ∃ A1 c1, e = .returned (.slice A1 xs.length c1) ∧ w'.ownsRow w.heap.size 40 4 (.slice A1 xs.length c1) xs.length (prCs xs) ∧ Below w.heap.size w w' := by
  obtain ⟨i0, hi0, hz0, hz1, hz2⟩ := info_parts infoPr
  have hmk := fun W => run_make (P := Try.prog) W 26 40 i0 (.agg #[.int .i64 0, .int .i64 0, .int .i64 0, .int .i64 0]) Try.underlying26 hi0 hz0 .i64 .i64 xs.length xs.length (by omega) (Int.le_refl _) (by rw [hz2]; omega) (by omega)
  simp only [Int.toNat_natCast, hz1] at hmk
  have hrow : (w.alloc (.cells (madeCells #[.int .i64 0, .int .i64 0, .int .i64 0, .int .i64 0] (xs.length * 4)) 40)).rowIs w.heap.size 40 (xs.length * 4) (rowC (prCs xs) (0 * 4)) := by
    have h := World.rowIs_alloc w (madeCells #[.int .i64 0, .int .i64 0, .int .i64 0, .int .i64 0] (xs.length * 4)) 40 (rowC (prCs xs) (0 * 4)) (fun i hi => by
      rw [size_madeCells] at hi
      have h3 : i % 4 = 0 ∨ i % 4 = 1 ∨ i % 4 = 2 ∨ i % 4 = 3 := by omega
      rw [Nat.zero_mul, rowC_none]
      simp only [madeCells, Array.getElem?_map]
      rw [Array.getElem?_eq_getElem (by simpa using hi)]
      simp
      rcases h3 with h | h | h | h <;> rw [h] <;> rfl)
    rwa [size_madeCells] at h
  go_enter Try.func70, Try.ntmps70
  go_wp2_with fail
  have hW0 : Below w.heap.size w (w.alloc (.cells (madeCells #[.int .i64 0, .int .i64 0, .int .i64 0, .int .i64 0] (xs.length * 4)) 40)) := by go_grown
  generalize w.alloc (.cells (madeCells #[.int .i64 0, .int .i64 0, .int .i64 0, .int .i64 0] (xs.length * 4)) 40) = W at hrow hW0 ⊢
  clear hmk
  go_loopg [4] xs.length (fun gh s wr => ∃ k : Nat, k ≤ xs.length ∧ gh = xs.length - k ∧ s = .int .i64 k ∧ Below w.heap.size w wr ∧ wr.rowIs w.heap.size 40 (xs.length * 4) (rowC (prCs xs) (k * 4)))
  case atStart => exact ⟨0, Nat.zero_le _, rfl, rfl, hW0, hrow⟩
  case round =>
    clear hW0 hrow
    obtain ⟨k, hk, rfl, rfl, hW, hrow⟩ := hrel
    by_cases hlt : k < xs.length
    · have hlt' : (k : Int) < (xs.length : Int) := by omega
      obtain rfl := hR.addr (by omega)
      have hx := List.getElem?_eq_getElem hlt
      have hR2 := hR.below (hW.mono hB)
      obtain ⟨g0, g1, g2, g3⟩ := prCs_get xs k _ hx
      have d0 := hR2.cell _ _ g0
      have d1 := hR2.at (k * 4) 1 rfl g1
      have d2 := hR2.at (k * 4) 2 rfl g2
      have d3 := hR2.at (k * 4) 3 rfl g3
      have hst := prRow_step hx
      generalize xs[k] = x at d0 d1 d2 d3 hst
      have hst' := hide hst
      clear hx hR2 hst g0 g1 g2 g3
      have hHw := hrow.lt
      go_wp2_with (go_at_call 98; go_fit (toPromise_c x _); rintro e w2 ⟨rfl, hb2⟩; have hrow2 := rowIs_below hrow hb2 hHw; have hW2 : Below w.heap.size w w2 := bthen hW hb2; have t0 := hrow2.cell (i := k * 4) (by omega); have t1 := hrow2.cell (i := k * 4 + 1) (by omega); have t2 := hrow2.cell (i := k * 4 + 2) (by omega); have t3 := hrow2.cell (i := k * 4 + 3) (by omega); have tf0 := hrow2.frozen (k * 4); have tf1 := hrow2.frozen (k * 4 + 1); have tf2 := hrow2.frozen (k * 4 + 2); have tf3 := hrow2.frozen (k * 4 + 3))
      go_roundg (xs.length - (k + 1))
      case measure => go_light; omega
      case rel => go_light; exact ⟨k + 1, by omega, rfl, by go_num, ((((hW2.setCell (Nat.le_refl _) _).setCell (Nat.le_refl _) _).setCell (Nat.le_refl _) _).setCell (Nat.le_refl _) _), ((((hrow2.set (k * 4) _).set (k * 4 + 1) _).set (k * 4 + 2) _).set (k * 4 + 3) _).congr (fun j _ => hst'.out j)⟩
    · obtain rfl : k = xs.length := by omega
      go_wp2_with fail
      go_ret
      refine ⟨_, _, rfl, row_own hrow (fun j hj => rowC_full (prCs_length xs) j hj) (prCs_length xs) (Nat.le_refl _) (Nat.le_refl _) (by unfold maxLen; omega), hW⟩

set_option maxHeartbeats 1000000 in
set_option maxRecDepth 100000 in
theorem eqPromise_yes (x : Pr) (w : World) : Calls Try.prog 100 #[.agg #[.int .i64 x.f, .int .i64 x.t, .int .i64 x.l, .int .i64 x.h], .agg #[.int .i64 x.f, .int .i64 x.t, .int .i64 x.l, .int .i64 x.h]] w fun e w' => e = .returned (.bool true) ∧ Below w.heap.size w w' := by
  have hW : Below w.heap.size w ((w.alloc (.cells #[.int .i64 x.f, .int .i64 x.t, .int .i64 x.l, .int .i64 x.h] 40)).alloc (.cells #[.int .i64 x.f, .int .i64 x.t, .int .i64 x.l, .int .i64 x.h] 40)) := by go_grown
  go_enter Try.func100, Try.ntmps100
  go_wp2_with fail
  go_ret
  exact ⟨rfl, hW⟩

set_option maxHeartbeats 4000000 in
set_option maxRecDepth 100000 in
theorem eqPromiseS_yes (xs : List Pr) (A A' : Option Addr) (b o c b' o' c' B : Nat) (w : World) (hn : xs.length ≤ 2000000) (hB : B ≤ w.heap.size) (hR : CsR w B b o A xs.length (prCs xs)) (hR' : CsR w B b' o' A' xs.length (prCs xs)) :
    Calls Try.prog 72 #[.slice A xs.length c, .slice A' xs.length c'] w fun e w' => e = .returned (.bool true) ∧ Below w.heap.size w w' := by
  go_enter Try.func72, Try.ntmps72
  go_wp2_with fail
  go_loopg [5] xs.length (fun gh i wr => ∃ k : Nat, k ≤ xs.length ∧ gh = xs.length - k ∧ i = .int .i64 k ∧ Below w.heap.size w wr)
  case atStart => exact ⟨0, Nat.zero_le _, rfl, rfl, Below.refl _ _⟩
  case round =>
    obtain ⟨k, hk, rfl, rfl, hW⟩ := hrel
    by_cases hlt : k < xs.length
    · have hz : (k : Int) < (xs.length : Int) := by omega
      have hz0 : (0 : Int) ≤ (k : Int) := by omega
      obtain rfl := hR.addr (by omega)
      obtain rfl := hR'.addr (by omega)
      have hx := List.getElem?_eq_getElem hlt
      have hR2 := hR.below (hW.mono hB)
      have hR3 := hR'.below (hW.mono hB)
      obtain ⟨g0, g1, g2, g3⟩ := prCs_get xs k _ hx
      have d0 := hR2.cell _ _ g0
      have d1 := hR2.at (k * 4) 1 rfl g1
      have d2 := hR2.at (k * 4) 2 rfl g2
      have d3 := hR2.at (k * 4) 3 rfl g3
      have e0 := hR3.cell _ _ g0
      have e1 := hR3.at (k * 4) 1 rfl g1
      have e2 := hR3.at (k * 4) 2 rfl g2
      have e3 := hR3.at (k * 4) 3 rfl g3
      have hb1 : b < wr.heap.size := Nat.lt_of_lt_of_le (hR.lt (by omega)) (Nat.le_trans hB hW.size)
      have hb2 : b' < wr.heap.size := Nat.lt_of_lt_of_le (hR'.lt (by omega)) (Nat.le_trans hB hW.size)
      generalize xs[k] = x at d0 d1 d2 d3 e0 e1 e2 e3
      clear hx hR2 hR3 g0 g1 g2 g3
      go_upto_region 6 with fail
      go_region_held3 (fun w' => w'.cell? ⟨b, o + k * 4, none⟩ = some (.int .i64 x.f) ∧ w'.cell? ⟨b, o + k * 4 + 1, none⟩ = some (.int .i64 x.t) ∧ w'.cell? ⟨b, o + k * 4 + 2, none⟩ = some (.int .i64 x.l) ∧ w'.cell? ⟨b, o + k * 4 + 3, none⟩ = some (.int .i64 x.h) ∧ w'.cell? ⟨b', o' + k * 4, none⟩ = some (.int .i64 x.f) ∧ w'.cell? ⟨b', o' + k * 4 + 1, none⟩ = some (.int .i64 x.t) ∧ w'.cell? ⟨b', o' + k * 4 + 2, none⟩ = some (.int .i64 x.l) ∧ w'.cell? ⟨b', o' + k * 4 + 3, none⟩ = some (.int .i64 x.h))
        (first
          | (go_split_ands; (repeat' apply And.intro) <;> first | assumption | exact ((bcell hb5).1 _ _ (by simp only [World.size_drew]; omega)).trans (by assumption))
          | (go_keep; done))
        ((go_at_call 100; go_fit (eqPromise_yes x _); rintro e w5 ⟨rfl, hb5⟩; have hW5 : Below w.heap.size w w5 := bthen hW.drew hb5))
      go_wp2_with fail
      go_roundg (xs.length - (k + 1))
      case measure => go_light; omega
      case rel => go_light; exact ⟨k + 1, by omega, rfl, by go_num, hW5⟩
    · go_wp2_with fail
      go_ret
      exact ⟨rfl, hW⟩

set_option maxHeartbeats 4000000 in
set_option maxRecDepth 100000 in
theorem markPromiseS_c (k0 : Int) (base n : Nat) (A : Option Addr) (c : Nat) (cs : List Value) (w : World) (hk : 0 ≤ k0 ∧ k0 ≤ 1000000000000) (hn : n ≤ 2000000) (hown : w.ownsRow base 40 4 (.slice A n c) n cs) (hw : base ≤ w.heap.size) :
    Calls Try.prog 73 #[.slice A n c, .int .i64 k0] w fun e w' => e = .returned (.int .i64 (k0 + 4 * n)) ∧ w'.ownsRow base 40 4 (.slice A n c) n ((markI k0 (n * 4)).map (Value.int .i64)) ∧ w.grownBy w' (Value.slice A n c).ownBlock := by
  obtain ⟨hk0, hk1⟩ := hk
  rcases Nat.eq_zero_or_pos n with h0 | h0
  · subst h0
    have e : cs = [] := List.eq_nil_of_length_eq_zero (by rw [hown.1, Nat.zero_mul])
    subst e
    go_enter Try.func73, Try.ntmps73
    go_wp2_with fail
    go_loopg [1, 5] 0 (fun gh s1 s5 wr => wr = w ∧ s1 = .int .i64 k0 ∧ s5 = .int .i64 0)
    case atStart => exact ⟨rfl, rfl, rfl⟩
    case round =>
      obtain ⟨rfl, rfl, rfl⟩ := hrel
      go_wp2_with fail
      go_ret
      exact ⟨by simp, by simpa [markI] using hown, World.grownBy.refl _ _⟩
  · obtain ⟨A1, g, c1, hv, h1, h2, _⟩ := own_form hown
    injection hv with e1 _ e3
    subst e1; subst e3
    obtain rfl := h1 h0
    obtain ⟨f, hf, hx, hb, hnc, hcm⟩ := own_row hown
    clear hown h1 h2 hx hw
    go_enter Try.func73, Try.ntmps73
    go_wp2_with fail
    go_loopg [1, 5] n (fun gh s1 s5 wr => ∃ i : Nat, ∃ v : Int, i ≤ n ∧ gh = n - i ∧ s1 = .int .i64 v ∧ s5 = .int .i64 i ∧ Hid (v = k0 + 4 * i) ∧ w.grownBy wr (some g) ∧ wr.rowIs g 40 (c * 4) (fun j => if j < i * 4 then .int .i64 (k0 + j) else f j))
    case atStart => exact ⟨0, k0, Nat.zero_le _, rfl, rfl, rfl, by simp [Hid], World.grownBy.refl _ _, hf.congr (fun j _ => by rw [if_neg (by omega)])⟩
    case round =>
      clear hf
      obtain ⟨i, v, hi, rfl, rfl, rfl, Hv, hG, hrow⟩ := hrel
      have hv0 : 0 ≤ v ∧ v ≤ 1000010000000 := by have := Hv.out; omega
      obtain ⟨hv1, hv2⟩ := hv0
      by_cases hlt : i < n
      · have hlt' : (i : Int) < (n : Int) := by omega
        have t0 := hrow.cell (i := i * 4) (by omega)
        have t1 := hrow.cell (i := i * 4 + 1) (by omega)
        have t2 := hrow.cell (i := i * 4 + 2) (by omega)
        have t3 := hrow.cell (i := i * 4 + 3) (by omega)
        have tf0 := hrow.frozen (i * 4)
        have tf1 := hrow.frozen (i * 4 + 1)
        have tf2 := hrow.frozen (i * 4 + 2)
        have tf3 := hrow.frozen (i * 4 + 3)
        have hstep := ((((hrow.set (i * 4) (.int .i64 (v))).set (i * 4 + 1) (.int .i64 (v + 1))).set (i * 4 + 2) (.int .i64 (v + 1 + 1))).set (i * 4 + 3) (.int .i64 (v + 1 + 1 + 1)))
        have hG3 : w.grownBy ((((wr.setCell ⟨g, i * 4, none⟩ (.int .i64 (v))).setCell ⟨g, i * 4 + 1, none⟩ (.int .i64 (v + 1))).setCell ⟨g, i * 4 + 2, none⟩ (.int .i64 (v + 1 + 1))).setCell ⟨g, i * 4 + 3, none⟩ (.int .i64 (v + 1 + 1 + 1))) (some g) := grown_cells [.int .i64 (v), .int .i64 (v + 1), .int .i64 (v + 1 + 1), .int .i64 (v + 1 + 1 + 1)] (i * 4) wr hG
        have HS := hide hstep
        clear hstep
        go_wp2_with fail
        go_roundg (n - (i + 1))
        case measure => go_light; omega
        case rel =>
          go_light
          refine ⟨i + 1, _, by omega, rfl, rfl, by go_num, ?_, hG3, HS.out.congr (fun j _ => ?_)⟩
          · have := Hv.out; unfold Hid; omega
          · have hvv := Hv.out
            by_cases e3 : j = i * 4 + 3
            · subst e3; rw [if_pos rfl, if_pos (by omega)]; congr 1; omega
            rw [if_neg e3]
            by_cases e2 : j = i * 4 + 2
            · subst e2; rw [if_pos rfl, if_pos (by omega)]; congr 1; omega
            rw [if_neg e2]
            by_cases e1 : j = i * 4 + 1
            · subst e1; rw [if_pos rfl, if_pos (by omega)]; congr 1; omega
            rw [if_neg e1]
            by_cases e0 : j = i * 4
            · subst e0; rw [if_pos rfl, if_pos (by omega)]; congr 1; omega
            rw [if_neg e0]
            by_cases h : j < i * 4
            · rw [if_pos h, if_pos (by omega)]
            rw [if_neg h, if_neg (by omega)]
      · obtain rfl : i = n := by omega
        go_wp2_with fail
        go_ret
        refine ⟨by rw [Hv.out]; rfl, ?_, hG⟩
        exact row_own (n := i) (base := base) (xs := (markI k0 (i * 4)).map (Value.int .i64)) hrow (fun j hj => by rw [List.getElem?_map, markI_get k0 _ j hj, if_pos hj]; rfl) (by rw [List.length_map, markI_length]) hb hnc hcm

/-! ### deals -/

set_option maxHeartbeats 1000000 in
set_option maxRecDepth 100000 in
theorem szDeal_c (l n : Int) (A A2 : Option Addr) (m c m2 c2 : Nat) (w : World) (hl : 0 ≤ l ∧ l ≤ 1048576) (hn : m ≤ 9223372036854775807) (hn2 : m2 ≤ 9223372036854775807) :
    Calls Try.prog 24 #[.agg #[.int .i64 n, .slice A m c, .slice A2 m2 c2], .int .i64 l] w fun e w' => e = .returned (.int .i64 (if l - m - m2 < 0 then -1 else l - m - m2)) ∧ Below w.heap.size w w' := by
  obtain ⟨R, hR⟩ : ∃ R : Int, (if l - (m : Int) - (m2 : Int) < 0 then -1 else l - (m : Int) - (m2 : Int)) = R := ⟨_, rfl⟩
  rw [hR]
  have h1 := cb_new w [.int .i64 n, .slice A m c, .slice A2 m2 c2] 47
  have hW : Below w.heap.size w (w.alloc (.cells #[.int .i64 n, .slice A m c, .slice A2 m2 c2] 47)) := by go_grown
  by_cases h : l - (m : Int) < 0
  · have H : Hid ((if l - (m : Int) < 0 then -1 else l - (m : Int)) = -1) := if_pos h
    have H2 : R = -1 := by rw [← hR]; exact if_pos (by omega)
    subst H2
    clear h hR
    go_enter Try.func24, Try.ntmps24
    go_wp2_with (go_at_call 67; go_fit (szPlan_c l n A m c _ hl hn); rintro e w2 ⟨rfl, hb⟩; rw [H.out])
    go_ret
    exact ⟨rfl, bthen hW hb⟩
  · obtain ⟨r, hr⟩ : ∃ r, l - (m : Int) = r := ⟨_, rfl⟩
    have H : Hid ((if l - (m : Int) < 0 then -1 else l - (m : Int)) = r) := by rw [← hr]; exact if_neg h
    have hr0 : 0 ≤ r ∧ r ≤ 1048576 := by omega
    have hrn : ¬ r < 0 := by omega
    rw [hr] at hR
    clear hr h
    have H2 := hide hR
    have hR0 : R = -1 ∨ 0 ≤ R := by rw [← hR]; split <;> omega
    clear hR
    rcases hR0 with hs0 | hs0
    · subst hs0
      go_enter Try.func24, Try.ntmps24
      go_upto_region 1 with fail
      generalize w.alloc (.cells #[.int .i64 n, .slice A m c, .slice A2 m2 c2] 47) = W at h1 hW ⊢
      have p0 := h1.c 0 _ rfl
      have p1 := h1.c 1 _ rfl
      have p2 := h1.c 2 _ rfl
      go_wp2_with (first
        | (go_at_call 67; go_fit (szPlan_c l n A m c _ hl hn); rintro e w2 ⟨rfl, hb⟩; rw [H.out]; replace h1 := h1.below hb; replace hW := bthen hW hb; clear p0 p1 p2; have p0 := h1.c 0 _ rfl; have p1 := h1.c 1 _ rfl; have p2 := h1.c 2 _ rfl)
        | (go_at_call 68; go_fit (szPromiseS_c r A2 m2 c2 _ hr0 hn2); rintro e w3 ⟨rfl, rfl⟩; rw [H2.out]))
      go_ret
      exact ⟨rfl, hW⟩
    · have hs1 : ¬ R < 0 := by omega
      go_enter Try.func24, Try.ntmps24
      go_upto_region 1 with fail
      generalize w.alloc (.cells #[.int .i64 n, .slice A m c, .slice A2 m2 c2] 47) = W at h1 hW ⊢
      have p0 := h1.c 0 _ rfl
      have p1 := h1.c 1 _ rfl
      have p2 := h1.c 2 _ rfl
      go_wp2_with (first
        | (go_at_call 67; go_fit (szPlan_c l n A m c _ hl hn); rintro e w2 ⟨rfl, hb⟩; rw [H.out]; replace h1 := h1.below hb; replace hW := bthen hW hb; clear p0 p1 p2; have p0 := h1.c 0 _ rfl; have p1 := h1.c 1 _ rfl; have p2 := h1.c 2 _ rfl)
        | (go_at_call 68; go_fit (szPromiseS_c r A2 m2 c2 _ hr0 hn2); rintro e w3 ⟨rfl, rfl⟩; rw [H2.out]))
      go_ret
      exact ⟨rfl, hW⟩

set_option maxHeartbeats 2000000 in
set_option maxRecDepth 100000 in
theorem eqDeal_yes (n : Int) (bs : List Bd) (ps : List Pr) (A A' A2 A2' : Option Addr) (b o c b' o' c' b2 o2 c2 b2' o2' c2' B : Nat) (w : World) (hn : bs.length ≤ 2000000) (hn2 : ps.length ≤ 2000000) (hB : B ≤ w.heap.size)
    (hR : BdsR w B b o A bs) (hR' : BdsR w B b' o' A' bs) (hP : CsR w B b2 o2 A2 ps.length (prCs ps)) (hP' : CsR w B b2' o2' A2' ps.length (prCs ps)) :
    Calls Try.prog 28 #[.agg #[.int .i64 n, .slice A bs.length c, .slice A2 ps.length c2], .agg #[.int .i64 n, .slice A' bs.length c', .slice A2' ps.length c2']] w fun e w' => e = .returned (.bool true) ∧ Below w.heap.size w w' := by
  have hD1 := (pd_new (n := n) (c := c) (c2 := c2) (t := 28) hB hR hP).alloc (.cells #[.int .i64 n, .slice A' bs.length c', .slice A2' ps.length c2'] 28)
  have hb1 : Below w.heap.size w (w.alloc (.cells #[.int .i64 n, .slice A bs.length c, .slice A2 ps.length c2] 28)) := by go_grown
  have hD2 : RD ((w.alloc (.cells #[.int .i64 n, .slice A bs.length c, .slice A2 ps.length c2] 28)).alloc (.cells #[.int .i64 n, .slice A' bs.length c', .slice A2' ps.length c2'] 28)) (w.heap.size + 1) b' o' n A' c' bs b2' o2' A2' c2' ps := by
    have h := rd_new (n := n) (c := c') (c2 := c2') (t := 28) ((hR'.more hB).below hb1 |>.more hb1.size) ((hP'.more hB).below hb1 |>.more hb1.size)
    simpa using h
  go_enter Try.func28, Try.ntmps28
  go_upto_region 1 with fail
  generalize (w.alloc (.cells #[.int .i64 n, .slice A bs.length c, .slice A2 ps.length c2] 28)).alloc (.cells #[.int .i64 n, .slice A' bs.length c', .slice A2' ps.length c2'] 28) = W at hD1 hD2 ⊢
  have p0 := hD1.r.c0
  have p1 := hD1.r.c1
  have p2 := hD1.r.c2
  have q0 := hD2.c0
  have q1 := hD2.c1
  have q2 := hD2.c2
  go_wp2_with (first
    | (go_at_call 27; go_fit (eqPlan_yes n bs A A' b o c b' o' c' _ _ hn (Nat.le_refl _) hD1.r.rd hD2.rd); rintro e w5 ⟨rfl, hb5⟩; replace hD1 := hD1.below hb5; replace hD2 := hD2.below hb5; clear p0 p1 p2 q0 q1 q2; have p2 := hD1.r.c2; have q2 := hD2.c2)
    | (go_at_call 72; go_fit (eqPromiseS_yes ps A2 A2' b2 o2 c2 b2' o2' c2' _ _ hn2 (Nat.le_refl _) hD1.r.rp hD2.rp); rintro e w6 ⟨rfl, hb6⟩; replace hD1 := hD1.below hb6))
  go_ret
  exact ⟨rfl, hD1.bel⟩

/-! ### a deal made -/

/-- A box for a deal that is the zero value, its last cell yet untouched. -/
structure ZD (w0 W : World) (Y : Nat) (cs : List Value) : Prop where
  lo : w0.heap.size ≤ Y
  b : CB W Y cs
  zf : ∀ i, W.frozen? ⟨Y, i, none⟩ = false
theorem ZD.grown {w0 W W' : World} {Y : Nat} {cs : List Value} {row : Option Nat} (h : ZD w0 W Y cs) (hg : W.grownBy W' row) (hr : some Y ≠ row) : ZD w0 W' Y cs :=
  ⟨h.lo, h.b.grown hg hr, fun i => (hg.frozen_far ⟨Y, i, none⟩ h.b.ex hr).trans (h.zf i)⟩
theorem ZD.below {w0 W W' : World} {Y : Nat} {cs : List Value} (h : ZD w0 W Y cs) (hb : Below W.heap.size W W') : ZD w0 W' Y cs := h.grown (bel_grown hb) (by simp)
theorem zd_new {w0 W : World} {t : TypeId} (cs : List Value) (h : w0.heap.size ≤ W.heap.size) : ZD w0 (W.alloc (.cells cs.toArray t)) W.heap.size cs :=
  ⟨h, cb_new W cs t, fun i => by simp [go_sem]⟩
theorem ZD.put {w0 W : World} {Y : Nat} {cs : List Value} (h : ZD w0 W Y cs) (k : Nat) (v : Value) (hk : k < cs.length) : ZD w0 (W.setCell ⟨Y, k, none⟩ v) Y (cs.set k v) :=
  ⟨h.lo, ⟨by simpa using h.b.ex, fun i u hi => by
    by_cases e : i = k
    · subst e
      rw [List.getElem?_set_self hk] at hi
      cases hi
      exact World.cell?_setCell_same _ _ _ (h.b.c i _ (List.getElem?_eq_getElem hk))
    · rw [List.getElem?_set_ne (fun e' => e e'.symm)] at hi
      exact (World.cell?_setCell_other (h := fun e' => e (by have := congrArg Addr.off e'; dsimp only at this; omega)) ..).trans (h.b.c i u hi)⟩, fun i => by rw [← h.zf i]; simp⟩
end Go.Proofs.Ytdijfkpccbkdfaa
