/-
  Chapters 2 and 4 of the program: least and most, and what may be.
-/
import Derived.Test.YtmgikoaeomieeaaL2c
namespace Go.Proofs.Ytmgikoaeomieeaa
set_option linter.unusedVariables false
set_option linter.unusedSimpArgs false
open Go.RowKit Pp

set_option maxRecDepth 100000 in
theorem leastOf_c (p : Pl) (f t : Int) (A : Option Addr) (b o c B : Nat) (w : World) (hn : p.bs.length ≤ 2000000) (hB : B ≤ w.heap.size) (hR : BdsR w B b o A p.bs) :
    Calls Try.prog 20 #[.agg #[.int .i64 p.n, .slice A p.bs.length c], .int .i64 f, .int .i64 t] w fun e w' => e = .returned (.tuple #[.int .i64 (Pp.leastOf p f t).1, .bool (Pp.leastOf p f t).2]) ∧ Below w.heap.size w w' := by
  obtain ⟨h1, h2⟩ := mostOf_abs p t f
  have e1 : (Pp.leastOf p f t).1 = -(mostOf p t f).1 := rfl
  have e2 : (Pp.leastOf p f t).2 = (mostOf p t f).2 := rfl
  rw [e1, e2]
  generalize hm : mostOf p t f = m at *
  obtain ⟨x, ok⟩ := m
  dsimp only at *
  have Hm := hide hm
  clear hm e1 e2
  obtain ⟨n, bs⟩ := p
  dsimp only at *
  go_enter Try.func20, Try.ntmps20
  go_wp2_with (go_at_call 21; refine (mostOf_c ⟨n, bs⟩ t f A b o c B _ hn (by simp only [World.size_alloc, World.size_drew]; omega) (hR.below ((show Below w.heap.size w _ by go_grown).mono hB))).mono ?_; rw [Hm.out]; rintro e w' ⟨rfl, hb⟩; have hW : Below w.heap.size w w' := bthen (by go_grown) hb)
  go_ret2
  exact ⟨rfl, hW⟩

end Go.Proofs.Ytmgikoaeomieeaa
