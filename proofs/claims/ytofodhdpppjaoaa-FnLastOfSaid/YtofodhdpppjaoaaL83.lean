/-
  impl: LengthsOf, TermOk, StepsOf.
-/
import Derived.Test.YtofodhdpppjaoaaL82
namespace Go.Proofs.Ytofodhdpppjaoaa
set_option linter.unusedVariables false
set_option linter.unusedSimpArgs false
open Go Go.RowKit Pp

namespace Pp
def lensOf (t : List Mk) : Option (Int × Int) := (termOf t).bind Tm.lens
def termOk (t : List Mk) : Bool := (termOf t).isSome
def stepsOf (t : List Mk) : Int := if termOk t then (cntK 0 t : Int) else -1
theorem cntK_le (k : Int) : ∀ t : List Mk, cntK k t ≤ t.length
  | [] => Nat.le_refl _
  | m :: l => by have := cntK_le k l; simp only [cntK, List.length_cons]; split <;> omega
theorem cntK_take (k : Int) {t : List Mk} {j : Nat} {x : Mk} (h : t[j]? = some x) : cntK k (t.take (j + 1)) = cntK k (t.take j) + (if x.k = k then 1 else 0) := by
  obtain ⟨hj, rfl⟩ := List.getElem?_eq_some_iff.1 h
  rw [List.take_succ_eq_append_getElem hj, cntK_append]
  simp [cntK]
end Pp
set_option maxHeartbeats 2000000 in
theorem lengthsOf_q (t : List Mk) (A : Option Addr) (b o c B : Nat) (w : World) (hB : B ≤ w.heap.size) (hR : MkR w B b o A t) (hn : t.length ≤ 2000000) :
    Calls Try.prog 28 #[.slice A t.length c] w fun e w' => e = .returned (.tuple #[.int .i64 ((lensOf t).getD (0, 0)).1, .int .i64 ((lensOf t).getD (0, 0)).2, .bool (lensOf t).isSome]) ∧ Below w.heap.size w w' := by
  cases ht : termOf t with
  | none =>
    have hl : lensOf t = none := by unfold lensOf; rw [ht]; rfl
    rw [hl]
    have Ht := hide ht
    clear ht hl
    go_enter Try.func28, Try.ntmps28
    go_wp2_with (go_at_call 39; go_fit (build_no t Ht.out A b o c B w hB hR hn); rintro e w2 ⟨rfl, hb⟩)
    go_ret3
    exact ⟨rfl, hb⟩
  | some a =>
    have hl : lensOf t = a.lens := by unfold lensOf; rw [ht]; rfl
    rw [hl]
    obtain ⟨hf, hm, h11⟩ := term_back ht
    have hsz : a.size ≤ 20 := by rw [← Tm.marks_len, hm]; omega
    have Ht := hide ht
    clear ht hl hm h11
    cases hl : a.lens with
    | none =>
      have Hl := hide hl
      clear hl
      go_enter Try.func28, Try.ntmps28
      go_wp2_with (first
        | (go_at_call 39; go_fit (build_yes t Ht.out A b o c B w hB hR hn); rintro e w2 ⟨p, rfl, hP, hb⟩; dsimp only [ptr])
        | (go_at_call 60; go_fit (lengths_q a _ _ hf hsz hP); rintro e w3 ⟨v, rfl, ⟨x, y, rfl, hxy⟩, hb3⟩; rw [Hl.out]))
      go_ret3
      exact ⟨rfl, bthen hb hb3⟩
    | some uv =>
      obtain ⟨u, v⟩ := uv
      have Hl := hide hl
      clear hl
      go_enter Try.func28, Try.ntmps28
      go_wp2_with (first
        | (go_at_call 39; go_fit (build_yes t Ht.out A b o c B w hB hR hn); rintro e w2 ⟨p, rfl, hP, hb⟩; dsimp only [ptr])
        | (go_at_call 60; go_fit (lengths_q a _ _ hf hsz hP); rintro e w3 ⟨v, rfl, ⟨x, y, rfl, hxy⟩, hb3⟩; rw [Hl.out]; obtain ⟨rfl, rfl⟩ := hxy _ _ Hl.out))
      go_ret3
      exact ⟨rfl, bthen hb hb3⟩
set_option maxHeartbeats 2000000 in
theorem termOk_c (t : List Mk) (A : Option Addr) (b o c B : Nat) (w : World) (hB : B ≤ w.heap.size) (hR : MkR w B b o A t) (hn : t.length ≤ 2000000) :
    Calls Try.prog 59 #[.slice A t.length c] w fun e w' => e = .returned (.bool (termOk t)) ∧ Below w.heap.size w w' := by
  cases ht : termOf t with
  | none =>
    have hl : termOk t = false := by unfold termOk; rw [ht]; rfl
    rw [hl]
    have Ht := hide ht
    clear ht hl
    go_enter Try.func59, Try.ntmps59
    go_wp2_with (go_at_call 39; go_fit (build_no t Ht.out A b o c B w hB hR hn); rintro e w2 ⟨rfl, hb⟩)
    go_ret
    exact ⟨rfl, hb⟩
  | some a =>
    have hl : termOk t = true := by unfold termOk; rw [ht]; rfl
    rw [hl]
    have Ht := hide ht
    clear ht hl
    go_enter Try.func59, Try.ntmps59
    go_wp2_with (go_at_call 39; go_fit (build_yes t Ht.out A b o c B w hB hR hn); rintro e w2 ⟨p, rfl, hP, hb⟩; dsimp only [ptr])
    go_ret
    exact ⟨rfl, hb⟩
set_option maxHeartbeats 2000000 in
theorem stepsOf_c (t : List Mk) (A : Option Addr) (b o c B : Nat) (w : World) (hB : B ≤ w.heap.size) (hR : MkR w B b o A t) (hn : t.length ≤ 2000000) :
    Calls Try.prog 26 #[.slice A t.length c] w fun e w' => e = .returned (.int .i64 (stepsOf t)) ∧ Below w.heap.size w w' := by
  cases ht : termOk t
  · have hl : stepsOf t = -1 := by unfold stepsOf; rw [ht]; rfl
    rw [hl]
    have Ht := hide ht
    clear ht hl
    go_enter Try.func26, Try.ntmps26
    go_wp2_with (go_at_call 59; go_fit (termOk_c t A b o c B w hB hR hn); rintro e w2 ⟨rfl, hb⟩; rw [Ht.out])
    go_ret
    exact ⟨rfl, hb⟩
  · have hl : stepsOf t = (cntK 0 t : Int) := by unfold stepsOf; rw [ht]; rfl
    obtain ⟨N, hN⟩ : ∃ N, cntK 0 t = N := ⟨_, rfl⟩
    rw [hl, hN]
    have HN := hide hN
    have Ht := hide ht
    clear ht hl hN
    go_enter Try.func26, Try.ntmps26
    go_wp2_with (go_at_call 59; go_fit (termOk_c t A b o c B w hB hR hn); rintro e w2 ⟨rfl, hb⟩; rw [Ht.out])
    go_loopg [3, 11] t.length (fun gh s3 s11 wr => ∃ (k m : Nat), k ≤ t.length ∧ gh = t.length - k ∧ s11 = .int .i64 k ∧ s3 = .int .i64 m ∧ m ≤ k ∧ Hid (cntK 0 (t.take k) = m) ∧ Below w.heap.size w wr)
    case atStart => exact ⟨0, 0, Nat.zero_le _, rfl, rfl, rfl, Nat.le_refl _, rfl, hb⟩
    case round =>
      obtain ⟨k, m, hk, rfl, rfl, rfl, hmk, HM, hW⟩ := hrel
      by_cases hlt : k < t.length
      · have hx := List.getElem?_eq_getElem hlt
        have hRr := hR.below (hW.mono hB)
        obtain rfl := hRr.addr (by omega)
        obtain ⟨d0, d1, d2⟩ := mk_cells hRr hx
        have hct := cntK_take 0 hx
        rw [HM.out] at hct
        generalize t[k] = x at hx d0 d1 d2 hct
        have hkz : (k : Int) < (t.length : Int) := by omega
        clear hx hRr
        by_cases h0 : x.k = 0
        · rw [if_pos h0] at hct
          have Hct := hide hct
          rw [h0] at d0
          clear hct h0
          go_wp2_with fail
          go_roundg (t.length - (k + 1))
          case measure => go_light; omega
          case rel => go_light; exact ⟨k + 1, m + 1, by omega, rfl, by go_num, by go_num, by omega, Hct.out, bthen hW (by go_grown)⟩
        · rw [if_neg h0] at hct
          have Hct := hide hct
          have h0' : (x.k == 0) = false := by simpa using h0
          clear hct h0
          go_wp2_with fail
          go_roundg (t.length - (k + 1))
          case measure => go_light; omega
          case rel => go_light; exact ⟨k + 1, m, by omega, rfl, by go_num, rfl, by omega, Hct.out, bthen hW (by go_grown)⟩
      · obtain rfl : k = t.length := by omega
        have e : m = N := by have := HM.out; rw [List.take_length, HN.out] at this; omega
        have E := hide e
        clear e
        go_wp2_with fail
        go_ret
        exact ⟨by rw [E.out]; rfl, hW⟩
end Go.Proofs.Ytofodhdpppjaoaa
