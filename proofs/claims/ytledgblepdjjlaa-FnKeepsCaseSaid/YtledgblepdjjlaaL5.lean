/-
  impl.TimesOk, impl.KeepsOk.
-/
import Derived.Test.YtledgblepdjjlaaI1a
import Derived.Test.YtledgblepdjjlaaL5a
import Derived.Test.YtledgblepdjjlaaP2
namespace Go.Proofs.Ytledgblepdjjlaa
set_option linter.unusedVariables false
set_option linter.unusedSimpArgs false
open Go.RowKit Pp

set_option maxHeartbeats 1000000 in
set_option maxRecDepth 100000 in
theorem timesOk_c (p : Pl) (xs : List Int) (A A' : Option Addr) (b o c b' o' c' B : Nat) (w : World) (hn : p.bs.length ≤ 2000000) (hn' : xs.length ≤ 2000000) (hB : B ≤ w.heap.size) (hR : BdsR w B b o A p.bs) (hR' : IntsR w B b' o' A' xs) :
    Calls Try.prog 106 #[.agg #[.int .i64 p.n, .slice A p.bs.length c], .slice A' xs.length c'] w fun e w' => e = .returned (.bool (timesOk p xs)) ∧ Below w.heap.size w w' := by
  obtain ⟨n, bs⟩ := p
  dsimp only at *
  obtain ⟨r, Hr⟩ : ∃ r, Hid (timesOk ⟨n, bs⟩ xs = r) := ⟨_, rfl⟩
  rw [Hr.out]
  have hP := po_new (t := 32) (n := n) (c := c) (Below.refl w.heap.size w) (hR.more hB)
  cases hp : planOk ⟨n, bs⟩
  · obtain rfl : r = false := by rw [← Hr.out]; unfold timesOk; rw [hp]; rfl
    have Hp := hide hp
    clear hp
    go_enter Try.func106, Try.ntmps106
    go_wp2_with (go_at_call 38; go_fit (planOk_c ⟨n, bs⟩ A b o c _ _ hn (Nat.le_refl _) hP.rd); rintro e w2 ⟨rfl, hb2⟩; rw [Hp.out]; have hP2 := hP.below hb2)
    go_ret
    exact ⟨rfl, hP2.bel⟩
  · have hnn := nn_ok hp
    dsimp only at hnn
    by_cases hl : (xs.length : Int) = n
    · have hr2 : (xs.all fun x => inB x (-2000) 2000) = r := by
        rw [← Hr.out]; unfold timesOk; rw [hp, decide_eq_true (by omega)]; rfl
      have Hr2 := hide hr2
      have Hp := hide hp
      clear hp hr2
      go_enter Try.func106, Try.ntmps106
      go_wp2_with (first
        | (go_at_call 38; go_fit (planOk_c ⟨n, bs⟩ A b o c _ _ hn (Nat.le_refl _) hP.rd); rintro e w2 ⟨rfl, hb2⟩; rw [Hp.out]; have hP2 := hP.below hb2; have q0 := hP2.c0; have hR2 := hR'.below (hP2.bel.mono hB))
        | (go_at_call 118; go_fit (allIn_c xs (-2000) 2000 A' b' o' c' B _ hn' (Nat.le_trans hB hP2.bel.size) hR2); rintro e w3 ⟨rfl, hb3⟩; rw [Hr2.out]; have hP3 := hP2.below hb3))
      go_ret
      exact ⟨by cases r <;> rfl, hP3.bel⟩
    · obtain rfl : r = false := by rw [← Hr.out]; unfold timesOk; rw [decide_eq_false (by omega)]; simp
      have Hp := hide hp
      clear hp
      go_enter Try.func106, Try.ntmps106
      go_wp2_with (go_at_call 38; go_fit (planOk_c ⟨n, bs⟩ A b o c _ _ hn (Nat.le_refl _) hP.rd); rintro e w2 ⟨rfl, hb2⟩; rw [Hp.out]; have hP2 := hP.below hb2; have q0 := hP2.c0)
      go_ret
      exact ⟨rfl, hP2.bel⟩
end Go.Proofs.Ytledgblepdjjlaa
