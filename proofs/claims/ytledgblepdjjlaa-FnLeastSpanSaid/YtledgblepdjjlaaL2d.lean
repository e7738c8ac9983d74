/-
  Chapters 2 and 4 of the program: least and most, and what may be.
-/
import Derived.Test.YtledgblepdjjlaaL2c
namespace Go.Proofs.Ytledgblepdjjlaa
set_option linter.unusedVariables false
set_option linter.unusedSimpArgs false
open Go.RowKit Pp

set_option maxRecDepth 100000 in
theorem leastOf_c (p : Pl) (f t : Int) (A : Option Addr) (b o c B : Nat) (w : World) (hn : p.bs.length ≤ 2000000) (hB : B ≤ w.heap.size) (hR : BdsR w B b o A p.bs) :
    Calls Try.prog 50 #[.agg #[.int .i64 p.n, .slice A p.bs.length c], .int .i64 f, .int .i64 t] w fun e w' => e = .returned (.tuple #[.int .i64 (Pp.leastOf p f t).1, .bool (Pp.leastOf p f t).2]) ∧ Below w.heap.size w w' := by
  obtain ⟨h1, h2⟩ := mostOf_abs p t f
  have e1 : (Pp.leastOf p f t).1 = -(mostOf p t f).1 := rfl
  have e2 : (Pp.leastOf p f t).2 = (mostOf p t f).2 := rfl
  rw [e1, e2]
  generalize hm : mostOf p t f = m at *
  obtain ⟨x, ok⟩ := m
  dsimp only at *
  have Hm := hide hm
  clear hm e1 e2
  obtain ⟨n, bs⟩ := p
  dsimp only at *
  go_enter Try.func50, Try.ntmps50
  go_wp2_with (go_at_call 101; refine (mostOf_c ⟨n, bs⟩ t f A b o c B _ hn (by simp only [World.size_alloc, World.size_drew]; omega) (hR.below ((show Below w.heap.size w _ by go_grown).mono hB))).mono ?_; rw [Hm.out]; rintro e w' ⟨rfl, hb⟩; have hW : Below w.heap.size w w' := bthen (by go_grown) hb)
  go_ret2
  exact ⟨rfl, hW⟩

set_option maxHeartbeats 4000000 in
set_option maxRecDepth 100000 in
/-- What may be by a table. -/
theorem mayT_c (T : Tb) (n ob : Nat) (rb rc : Nat → Nat) (c B f t : Nat) (by_ : Int) (w : World) (hT : TabR w B ob rb rc n T) (hn : n ≤ 1000) (hf : f < n) (ht : t < n) (h1 : -1000000 ≤ T t f) (h2 : T t f ≤ 2000000) :
    Calls Try.prog 139 #[.slice (some ⟨ob, 0, none⟩) n c, .int .i64 f, .int .i64 t, .int .i64 by_] w fun e w' => e = .returned (.bool (mayT T f t by_)) ∧ w = w' := by
  have a1 := hT.top f hf
  have a2 := hT.top t ht
  have a3 := hT.row f t hf ht
  have a4 := hT.row t f ht hf
  have hfz : (f : Int) < (n : Int) := by omega
  have htz : (t : Int) < (n : Int) := by omega
  unfold mayT Far
  clear hT
  generalize T f t = x at *
  generalize T t f = y at *
  by_cases g1 : x = 100000 <;> by_cases g2 : by_ ≤ x <;> by_cases g3 : y = 100000 <;> by_cases g4 : -y ≤ by_
  all_goals
    first | (have k1 : (x == 100000) = true := by simp [g1]) | (have k1 : (x == 100000) = false := by simp [g1])
    first | (have k3 : (y == 100000) = true := by simp [g3]) | (have k3 : (y == 100000) = false := by simp [g3])
    have G1 := hide g1
    have G3 := hide g3
    clear g1 g3
    first | exact (absurd G1.out (by omega)) | exact (absurd G3.out (by omega)) | skip
    go_enter Try.func139, Try.ntmps139
    go_wp2
    go_ret
    exact ⟨by simp [G1.out, G3.out, g2, g4], rfl⟩


end Go.Proofs.Ytledgblepdjjlaa
