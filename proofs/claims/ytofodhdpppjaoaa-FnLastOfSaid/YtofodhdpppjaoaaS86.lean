/-
  spec: LastsFor.
-/
import Derived.Test.YtofodhdpppjaoaaS85
namespace Go.Proofs.Ytofodhdpppjaoaa
set_option linter.unusedVariables false
set_option linter.unusedSimpArgs false
open Go Go.RowKit Pp

theorem steps_size (a : Tm) : a.steps ≤ a.size := by
  induction a with
  | step l h => simp [Tm.steps, Tm.size]
  | wth a h ih => simp only [Tm.steps, Tm.size]; omega
  | thn a b iha ihb => simp only [Tm.steps, Tm.size]; omega
  | bth a b iha ihb => simp only [Tm.steps, Tm.size]; omega
set_option maxHeartbeats 2000000 in
theorem sLastsFor_q (t : List Mk) {u v : Int} (hl : lensOf t = some (u, v)) (total : Int) (h1 : u ≤ total ∧ total ≤ v) (A : Option Addr) (b o c B : Nat) (w : World) (hc : t.length ≤ c) (hB : B ≤ w.heap.size) (hR : MkR w B b o A t) (hn : t.length ≤ 2000000) :
    Calls Try.prog 64 #[.slice A t.length c, .int .i64 total] w fun e w' => ∃ A1 c1, ∃ ys : List Int, e = .returned (.tuple #[.slice A1 ys.length c1, .bool true]) ∧ OwnI w.heap.size w' (.slice A1 ys.length c1) ys ∧ ys.length ≤ 20 ∧ (∀ y ∈ ys, -100000 ≤ y ∧ y ≤ 100000) ∧ Below w.heap.size w w' := by
  obtain ⟨a, ht, hal⟩ : ∃ a, termOf t = some a ∧ a.lens = some (u, v) := by
    unfold lensOf at hl
    cases ht : termOf t with
    | none => rw [ht] at hl; cases hl
    | some a => rw [ht] at hl; exact ⟨a, rfl, hl⟩
  obtain ⟨hf, hm, h11⟩ := term_back ht
  have hsz : a.size ≤ 20 := by rw [← Tm.marks_len, hm]; omega
  have hsm := lens_small hf hsz hal
  have hcall := fun wq hq => l12For_q a A b o c total wq hf hsz ⟨_, hal⟩ (by omega) (by rw [hm]; exact hc) hq
  rw [hm] at hcall
  have hss := steps_size a
  have hin : inB total u v = true := by simp [inB, h1]
  have Hc := hide hcall
  have Hin := hide hin
  have Hl := hide hl
  clear hcall hl hm h11 ht hal hin hf
  go_enter Try.func64, Try.ntmps64
  go_upto_region 2 with (go_at_call 29; refine (sLengthsOf_c t A b o c B w hc hB hR hn).mono ?_; rintro e w2 ⟨rfl, hb⟩; rw [Hl.out]; dsimp only [Option.getD, Option.isSome])
  have hR2 := ((hR.more hB).below hb).more hb.size
  go_upto_region 4 with (go_at_call 75; (refine (l1In_t Hin.out _).mono ?_; rintro e w4 ⟨rfl, rfl⟩))
  have hR3 := hR2
  go_wp2_with (go_at_call 80; (refine (Hc.out _ hR3).mono ?_; rintro e w3 ⟨v', rfl, ⟨A2, c2, ys, rfl, own2, hyl, hyb⟩, hb2⟩; have hyl2 : ys.length ≤ 20 := (by omega); have Hyl := hide hyl; clear hyl))
  go_ret2
  exact ⟨A2, c2, ys, rfl, own_less own2 hb.size, hyl2, hyb, bthen hb hb2⟩
end Go.Proofs.Ytofodhdpppjaoaa
