/-
  impl: how many tasks are being done.
-/
import Derived.Test.YtmgikoaeomieeaaL62
namespace Go.Proofs.Ytmgikoaeomieeaa
set_option linter.unusedVariables false
set_option linter.unusedSimpArgs false
open Go.RowKit Pp

set_option maxHeartbeats 2000000 in
set_option maxRecDepth 100000 in
theorem busy_c (L F xs : List Int) (t : Int) (hx : xs.length = L.length) (hb : ∀ i, i < L.length → (0 ≤ L.getD i 0 ∧ L.getD i 0 ≤ 100) ∧ (-1 ≤ xs.getD i 0 ∧ xs.getD i 0 ≤ 10000)) (AL AF AX : Option Addr) (bl ol cl bf of' cf bx ox cx B : Nat) (w : World) (hll : L.length ≤ 2000000) (hB : B ≤ w.heap.size) (hl : IntsR w B bl ol AL L) (hf : IntsR w B bf of' AF F) (hX : IntsR w B bx ox AX xs) :
    Calls Try.prog 72 #[.agg #[.slice AL L.length cl, .slice AF F.length cf], .slice AX L.length cx, .int .i64 t] w fun e w' => e = .returned (.int .i64 (busyN L xs t : Nat)) ∧ Below w.heap.size w w' := by
  have hD := pj_new (t := 25) (cl := cl) (cf := cf) hB hl hf
  have hI := (hX.below (hD.bel.mono hB)).more (Nat.le_trans hB hD.bel.size)
  have Hx := hide hx
  have Hb := hide hb
  clear hl hf hB hX hx hb
  go_enter Try.func72, Try.ntmps72
  go_upto_region 1 with fail
  generalize w.alloc (.cells #[.slice AL L.length cl, .slice AF F.length cf] 25) = W at hD hI ⊢
  go_wp2_with fail
  go_loopg [7, 12] L.length (fun gh s7 s12 wr => ∃ k m : Nat, k ≤ L.length ∧ gh = L.length - k ∧ s12 = .int .i64 k ∧ s7 = .int .i64 m ∧ m ≤ k ∧ Hid (cnt (isBusy L xs t) k = m) ∧ PJ w wr w.heap.size bl ol AL cl L bf of' AF cf F ∧ IntsR wr wr.heap.size bx ox AX xs)
  case atStart => exact ⟨0, 0, Nat.zero_le _, rfl, rfl, rfl, Nat.le_refl _, rfl, hD, hI⟩
  case round =>
    clear hD hI
    obtain ⟨k, m, hk, rfl, rfl, rfl, hm, HE, hD, hI⟩ := hrel
    have p0 := hD.c0
    by_cases hlt : k < L.length
    · have hlt' : (k : Int) < (L.length : Int) := by omega
      obtain rfl := hI.addr (by have := Hx.out; omega)
      obtain rfl := hD.rl.addr (by omega)
      have x0 := hI.cell k (by have := Hx.out; omega)
      have y0 := hD.rl.cell k hlt
      have hbk := Hb.out k hlt
      have HS : Hid (cnt (isBusy L xs t) (k + 1) = m + (if decide (0 ≤ xs.getD k 0 ∧ xs.getD k 0 ≤ t ∧ t < xs.getD k 0 + L.getD k 0) = true then 1 else 0)) := by unfold Hid; simp only [cnt]; rw [HE.out]; rfl
      generalize xs.getD k 0 = x at x0 hbk HS
      generalize L.getD k 0 = l at y0 hbk HS
      obtain ⟨⟨l0, l1⟩, ⟨z0, z1⟩⟩ := hbk
      have hws : IntKind.i64.wrap (x + l) = x + l := IntWalk.i64_in _ (by omega)
      by_cases hc : 0 ≤ x ∧ x ≤ t ∧ t < x + l
      · rw [decide_eq_true hc, if_pos rfl] at HS
        obtain ⟨c1, c2, c3⟩ := hc
        have hne : (x != -1) = true := by simp; omega
        have hne2 : ¬ x = -1 := by omega
        go_wp2_with fail
        go_roundg (L.length - (k + 1))
        case measure => go_light; omega
        case rel => go_light; exact ⟨k + 1, m + 1, by omega, rfl, by go_num, by go_num, by omega, HS, hD, hI⟩
      · rw [decide_eq_false hc] at HS
        have HS2 : Hid (cnt (isBusy L xs t) (k + 1) = m) := by unfold Hid; rw [HS.out]; rfl
        clear HS
        by_cases c1 : x = -1
        · subst c1
          go_wp2_with fail
          go_roundg (L.length - (k + 1))
          case measure => go_light; omega
          case rel => go_light; exact ⟨k + 1, m, by omega, rfl, by go_num, rfl, by omega, HS2, hD, hI⟩
        · have hne : (x != -1) = true := by simpa using c1
          by_cases c2 : x ≤ t
          · have c3 : ¬ t < x + l := by omega
            clear hc
            go_wp2_with fail
            go_roundg (L.length - (k + 1))
            case measure => go_light; omega
            case rel => go_light; exact ⟨k + 1, m, by omega, rfl, by go_num, rfl, by omega, HS2, hD, hI⟩
          · clear hc
            go_wp2_with fail
            go_roundg (L.length - (k + 1))
            case measure => go_light; omega
            case rel => go_light; exact ⟨k + 1, m, by omega, rfl, by go_num, rfl, by omega, HS2, hD, hI⟩
    · obtain rfl : k = L.length := by omega
      go_wp2_with fail
      go_ret
      exact ⟨by unfold busyN; rw [Hx.out, HE.out]; rfl, hD.bel⟩
end Go.Proofs.Ytmgikoaeomieeaa
