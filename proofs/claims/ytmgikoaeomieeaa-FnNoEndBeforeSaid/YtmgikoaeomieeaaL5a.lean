/-
  impl.allIn.
-/
import Derived.Test.YtmgikoaeomieeaaL1
namespace Go.Proofs.Ytmgikoaeomieeaa
set_option linter.unusedVariables false
set_option linter.unusedSimpArgs false
open Go.RowKit Pp

set_option maxRecDepth 100000 in
theorem allIn1_c (lo hi : Int) (X Y : Nat) (x : Int) (w : World) (x0 : w.cell? ⟨X, 0, none⟩ = some (.int .i64 lo)) (y0 : w.cell? ⟨Y, 0, none⟩ = some (.int .i64 hi)) :
    Calls Try.prog 94 #[.int .i64 x, .pointer (some ⟨X, 0, none⟩), .pointer (some ⟨Y, 0, none⟩)] w fun e w' => e = .returned (.bool (!inB x lo hi)) ∧ Below w.heap.size w w' := by
  obtain ⟨r, hr⟩ : ∃ r, inB x lo hi = r := ⟨_, rfl⟩
  rw [hr]
  have Hr := hide hr
  clear hr
  go_enter Try.func94, Try.ntmps94
  go_wp2_with (go_at_call 80; go_fit (in_c x lo hi _); rintro e w2 ⟨rfl, rfl⟩; rw [Hr.out])
  go_ret
  exact ⟨rfl, Below.refl _ _⟩

/-- slices.IndexFunc and slices.ContainsFunc over numbers, with the test 'impl.allIn$1'. -/
theorem allIn1_idx (X Y : Nat) (A : Option Addr) (b o c B : Nat) (xs : List Int) (f : Int → Bool) (w : World) (hn : xs.length ≤ 2000000) (hB : B ≤ w.heap.size) (hR : IntsR w B b o A xs)
    (H : ∀ (x : Int) (w1 : World), Below w.heap.size w w1 → Calls Try.prog 94 (#[.int .i64 x] ++ #[.pointer (some ⟨X, 0, none⟩), .pointer (some ⟨Y, 0, none⟩)]) w1 fun e w' => e = .returned (.bool (f x)) ∧ Below w1.heap.size w1 w') :
    Calls Try.prog 97 #[.slice A xs.length c, .func (.func 94) #[] #[.pointer (some ⟨X, 0, none⟩), .pointer (some ⟨Y, 0, none⟩)]] w fun e w' => ∃ k : Int, e = .returned (.int .i64 k) ∧ (0 ≤ k ↔ xs.any f = true) ∧ Below w.heap.size w w' := by
  have HH := hide H
  clear H
  go_enter Try.func97, Try.ntmps97
  go_wp2
  go_loopg [8] xs.length (fun g i wr => ∃ k : Nat, k ≤ xs.length ∧ g = xs.length - k ∧ i = .int .i64 k ∧ Below w.heap.size w wr ∧ Hid ((xs.take k).any f = false))
  case atStart => exact ⟨0, Nat.zero_le _, rfl, rfl, Below.refl _ _, by simp [Hid]⟩
  case round =>
    obtain ⟨k, hk, rfl, rfl, hW0, hA⟩ := hrel
    by_cases hlt : k < xs.length
    · obtain rfl := hR.addr (by omega)
      have hx := List.getElem?_eq_getElem hlt
      have hR' := hR.below (hW0.mono hB)
      have d0 := hR'.cell k hlt
      rw [List.getD_eq_getElem?_getD, hx] at d0
      dsimp only [Option.getD_some] at d0
      have hz : (k : Int) < (xs.length : Int) := by omega
      have hT : Hid (xs.take (k + 1) = xs.take k ++ [xs[k]]) := by rw [List.take_succ_eq_append_getElem hlt]; rfl
      generalize xs[k] = x at *
      clear hR' 
      have Hx := hide hx
      clear hx
      cases hfx : f x
      · have Hf := hide hfx
        clear hfx
        go_wp2_with (go_at_call 94; refine (HH.out x wr hW0).mono ?_; rintro e w' ⟨rfl, hb⟩; rw [Hf.out]; have hW : Below w.heap.size w w' := bthen hW0 hb; clear hb)
        go_roundg (xs.length - (k + 1))
        case measure => go_light; omega
        case rel => go_light; exact ⟨k + 1, by omega, rfl, by go_num, hW, by unfold Hid; rw [hT.out, List.any_append, hA.out]; simp [Hf.out]⟩
      · have Hf := hide hfx
        clear hfx
        go_wp2_with (go_at_call 94; refine (HH.out x wr hW0).mono ?_; rintro e w' ⟨rfl, hb⟩; rw [Hf.out]; have hW : Below w.heap.size w w' := bthen hW0 hb; clear hb)
        go_ret
        exact ⟨k, rfl, ⟨fun _ => List.any_eq_true.2 ⟨x, List.mem_of_getElem? Hx.out, Hf.out⟩, fun _ => by omega⟩, hW⟩
    · go_wp2
      go_ret
      refine ⟨-1, rfl, ⟨fun h => by omega, fun h => ?_⟩, hW0⟩
      have := hA.out
      rw [List.take_of_length_le (by omega), h] at this
      cases this
theorem allIn1_has (X Y : Nat) (A : Option Addr) (b o c B : Nat) (xs : List Int) (f : Int → Bool) (w : World) (hn : xs.length ≤ 2000000) (hB : B ≤ w.heap.size) (hR : IntsR w B b o A xs)
    (H : ∀ (x : Int) (w1 : World), Below w.heap.size w w1 → Calls Try.prog 94 (#[.int .i64 x] ++ #[.pointer (some ⟨X, 0, none⟩), .pointer (some ⟨Y, 0, none⟩)]) w1 fun e w' => e = .returned (.bool (f x)) ∧ Below w1.heap.size w1 w') :
    Calls Try.prog 93 #[.slice A xs.length c, .func (.func 94) #[] #[.pointer (some ⟨X, 0, none⟩), .pointer (some ⟨Y, 0, none⟩)]] w fun e w' => e = .returned (.bool (xs.any f)) ∧ Below w.heap.size w w' := by
  have HH := hide H
  clear H
  cases hf : xs.any f
  · have Hf := hide hf
    clear hf
    go_enter Try.func93, Try.ntmps93
    go_wp2_with (go_at_call 97; refine (allIn1_idx _ _ A b o c B xs f w hn hB hR HH.out).mono ?_; rintro e w' ⟨k, rfl, hk, hW⟩; rw [Hf.out] at hk; have hk' : decide (0 ≤ k) = false := (by simp at hk ⊢; omega); clear hk)
    go_ret
    exact ⟨rfl, hW⟩
  · have Hf := hide hf
    clear hf
    go_enter Try.func93, Try.ntmps93
    go_wp2_with (go_at_call 97; refine (allIn1_idx _ _ A b o c B xs f w hn hB hR HH.out).mono ?_; rintro e w' ⟨k, rfl, hk, hW⟩; rw [Hf.out] at hk; have hk' : decide (0 ≤ k) = true := (by simp at hk ⊢; omega); clear hk)
    go_ret
    exact ⟨rfl, hW⟩

set_option maxRecDepth 100000 in
theorem allIn_c (xs : List Int) (lo hi : Int) (A : Option Addr) (b o c B : Nat) (w : World) (hn : xs.length ≤ 2000000) (hB : B ≤ w.heap.size) (hR : IntsR w B b o A xs) :
    Calls Try.prog 79 #[.slice A xs.length c, .int .i64 lo, .int .i64 hi] w fun e w' => e = .returned (.bool (xs.all fun x => inB x lo hi)) ∧ Below w.heap.size w w' := by
  rw [all_any]
  obtain ⟨r, hr⟩ : ∃ r, (xs.any fun x => !inB x lo hi) = r := ⟨_, rfl⟩
  rw [hr]
  have Hr := hide hr
  clear hr
  go_enter Try.func79, Try.ntmps79
  go_upto_region 1 with fail
  have x0 : ((w.alloc (.cells #[.int .i64 lo] 3)).alloc (.cells #[.int .i64 hi] 3)).cell? ⟨w.heap.size, 0, none⟩ = some (.int .i64 lo) := by simp [go_sem]
  have y0 : ((w.alloc (.cells #[.int .i64 lo] 3)).alloc (.cells #[.int .i64 hi] 3)).cell? ⟨w.heap.size + 1, 0, none⟩ = some (.int .i64 hi) := by simp [go_sem]
  have hZ : w.heap.size + 1 < ((w.alloc (.cells #[.int .i64 lo] 3)).alloc (.cells #[.int .i64 hi] 3)).heap.size := by simp
  have hW : Below w.heap.size w ((w.alloc (.cells #[.int .i64 lo] 3)).alloc (.cells #[.int .i64 hi] 3)) := by go_grown
  generalize (w.alloc (.cells #[.int .i64 lo] 3)).alloc (.cells #[.int .i64 hi] 3) = W at x0 y0 hZ hW ⊢
  have hR2 := hR.below (hW.mono hB)
  go_wp2_with (go_at_call 93; go_fit (allIn1_has w.heap.size (w.heap.size + 1) A b o c B xs (fun x => !inB x lo hi) _ hn (Nat.le_trans hB hW.size) hR2 (fun x w1 hb1 => allIn1_c lo hi _ _ x w1 (((bcell hb1).1 _ _ (by omega)).trans x0) (((bcell hb1).1 _ _ hZ).trans y0))); rintro e w2 ⟨rfl, hb2⟩; rw [Hr.out])
  go_ret
  exact ⟨by cases r <;> rfl, bthen hW hb2⟩
end Go.Proofs.Ytmgikoaeomieeaa
