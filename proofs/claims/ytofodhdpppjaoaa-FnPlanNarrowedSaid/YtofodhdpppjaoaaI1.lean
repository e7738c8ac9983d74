/-
  impl.ImpliesOk, impl.AlikeOk.
-/
import Derived.Test.YtofodhdpppjaoaaI1a
namespace Go.Proofs.Ytofodhdpppjaoaa
set_option linter.unusedVariables false
set_option linter.unusedSimpArgs false
open Go.RowKit Pp

set_option maxHeartbeats 2000000 in
set_option maxRecDepth 100000 in
theorem alikeOk_c (p q : Pl) (A A' : Option Addr) (b o c b' o' c' B : Nat) (w : World) (hn : p.bs.length ≤ 100000) (hn' : q.bs.length ≤ 100000) (hB : B ≤ w.heap.size) (hR : BdsR w B b o A p.bs) (hR' : BdsR w B b' o' A' q.bs) :
    Calls Try.prog 12 #[.agg #[.int .i64 p.n, .slice A p.bs.length c], .agg #[.int .i64 q.n, .slice A' q.bs.length c']] w fun e w' => e = .returned (.bool (alike p q)) ∧ Below w.heap.size w w' := by
  obtain ⟨n, bs⟩ := p
  obtain ⟨n', bs'⟩ := q
  dsimp only at *
  have ea : alike ⟨n, bs⟩ ⟨n', bs'⟩ = (implies ⟨n, bs⟩ ⟨n', bs'⟩ && implies ⟨n', bs'⟩ ⟨n, bs⟩) := rfl
  rw [ea]
  clear ea
  have hP := (po_new (t := 29) (n := n) (c := c) (Below.refl w.heap.size w) (hR.more hB)).alloc (.cells #[.int .i64 n', .slice A' bs'.length c'] 29)
  have hb0 : Below w.heap.size w (w.alloc (.cells #[.int .i64 n, .slice A bs.length c] 29)) := by go_grown
  have hQ := po_new (t := 29) (n := n') (c := c') hb0 ((hR'.below (hb0.mono hB)).more (Nat.le_trans hB hb0.size))
  simp only [World.size_alloc] at hQ
  cases h1 : implies ⟨n, bs⟩ ⟨n', bs'⟩
  · have H1 := hide h1
    clear h1
    go_enter Try.func12, Try.ntmps12
    go_wp2_with (go_at_call 44; go_fit (impliesOk_c ⟨n, bs⟩ ⟨n', bs'⟩ A A' b o c b' o' c' _ _ hn hn' (Nat.le_refl _) hP.rd hQ.rd); rintro e w2 ⟨rfl, hb2⟩; rw [H1.out]; have hP2 := hP.below hb2)
    go_ret
    exact ⟨rfl, hP2.bel⟩
  · have H1 := hide h1
    clear h1
    obtain ⟨r, hr⟩ : ∃ r, implies ⟨n', bs'⟩ ⟨n, bs⟩ = r := ⟨_, rfl⟩
    rw [hr]
    have H2 := hide hr
    clear hr
    go_enter Try.func12, Try.ntmps12
    go_upto_region 1 with fail
    generalize (w.alloc (.cells #[.int .i64 n, .slice A bs.length c] 29)).alloc (.cells #[.int .i64 n', .slice A' bs'.length c'] 29) = W at hP hQ ⊢
    have p0 := hP.c0
    have p1 := hP.c1
    have q0 := hQ.c0
    have q1 := hQ.c1
    go_wp2_with (first
      | (go_at_call 44; go_fit (impliesOk_c ⟨n, bs⟩ ⟨n', bs'⟩ A A' b o c b' o' c' _ _ hn hn' (Nat.le_refl _) hP.rd hQ.rd); rintro e w2 ⟨rfl, hb2⟩; rw [H1.out]; have hP2 := hP.below hb2; have hQ2 := hQ.below hb2; have r0 := hP2.c0; have r1 := hP2.c1; have s0 := hQ2.c0; have s1 := hQ2.c1)
      | (go_at_call 44; go_fit (impliesOk_c ⟨n', bs'⟩ ⟨n, bs⟩ A' A b' o' c' b o c _ _ hn' hn (Nat.le_refl _) hQ2.rd hP2.rd); rintro e w3 ⟨rfl, hb3⟩; rw [H2.out]; have hP3 := hP2.below hb3))
    go_ret
    exact ⟨by cases r <;> rfl, hP3.bel⟩
end Go.Proofs.Ytofodhdpppjaoaa
