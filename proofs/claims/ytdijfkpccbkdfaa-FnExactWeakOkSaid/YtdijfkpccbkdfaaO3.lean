/-
  Arguments of the exact laws opened: a deal.
-/
import Derived.Test.YtdijfkpccbkdfaaO1
import Derived.Test.YtdijfkpccbkdfaaR1
namespace Go.Proofs.Ytdijfkpccbkdfaa
set_option linter.unusedVariables false
set_option linter.unusedSimpArgs false
open Go.ChangeShapes Go.WideShapes Go.Deep Go.Joins Go.RowKit Pp

theorem prsR {H : Type} {enc : TypeId × Value → H} {w : World} {fuel : Nat} {cs : List Value} {x : DataW H × List MemPlace}
    (h : DataW.trod enc Try.prog w 0 (fun _ => true) true fuel 45 cs = some x) :
    ∃ (A : Option Addr) (b o c : Nat) (ps : List Pr), cs = [.slice A ps.length c] ∧ ps.length ≤ c ∧ c ≤ 9223372036854775807 ∧ CsR w w.heap.size b o A ps.length (prCs ps) := by
  rcases open_slice Try.underlying45 h with ⟨h0, _⟩ | ⟨a, len, cap, m, n, D, Pl, hcs, hb, hl, hm, hmm, hx, hi⟩
  · exact ⟨none, 0, 0, 0, [], h0, Nat.le_refl _, by omega, by simp, by simp, by simp [prCs], fun _ => rfl⟩
  · obtain rfl : m = cap := by simpa using hmm
    have hm' : m ≤ 9223372036854775807 := hm
    have hC : (Try.prog).cellsOf 109 = 4 := by kernel_rfl
    have hI : (Try.prog).cellsOf 3 = 1 := by kernel_rfl
    rw [hC] at hi
    have key : ∀ i, i < len → ∃ x : Pr, w.cell? (a.add (i * 4)) = some (.int .i64 x.f) ∧ w.cell? (a.add (i * 4 + 1)) = some (.int .i64 x.t) ∧ w.cell? (a.add (i * 4 + 2)) = some (.int .i64 x.l) ∧ w.cell? (a.add (i * 4 + 3)) = some (.int .i64 x.h) := by
      intro i hil
      obtain ⟨cs', hc, ht'⟩ := hi i (by omega)
      obtain ⟨_, hcl, hat⟩ := World.cells?_some hc
      obtain ⟨_, _, g0⟩ := fieldR Try.underlying109 ht' 0 _ 1 rfl hI
      obtain ⟨_, _, g1⟩ := fieldR Try.underlying109 ht' 1 _ 1 rfl hI
      obtain ⟨_, _, g2⟩ := fieldR Try.underlying109 ht' 2 _ 1 rfl hI
      obtain ⟨_, _, g3⟩ := fieldR Try.underlying109 ht' 3 _ 1 rfl hI
      match cs', hcl with
      | [u0, u1, u2, u3], _ =>
        obtain ⟨z0, e0, _⟩ := intR g0
        obtain ⟨z1, e1, _⟩ := intR g1
        obtain ⟨z2, e2, _⟩ := intR g2
        obtain ⟨z3, e3, _⟩ := intR g3
        simp at e0 e1 e2 e3
        subst e0 e1 e2 e3
        have k0 := hat 0 (by omega)
        have k1 := hat 1 (by omega)
        have k2 := hat 2 (by omega)
        have k3 := hat 3 (by omega)
        rw [Go.Deep.add_add] at k0 k1 k2 k3
        exact ⟨⟨z0, z1, z2, z3⟩, by simpa using k0, by simpa using k1, by simpa using k2, by simpa using k3⟩
    obtain ⟨ps, hbl, hbs⟩ := list_of key
    subst hbl
    by_cases h0 : 0 < ps.length
    · obtain ⟨y, hy⟩ : ∃ y, ps[0]? = some y := ⟨ps[0], List.getElem?_eq_getElem h0⟩
      have hc0 := (hbs 0 y hy).1
      have hsp := cell_spot hc0
      obtain ⟨b, o, s⟩ := a
      have ha : (⟨b, o, s⟩ : Addr).add (0 * 4) = ⟨b, o, s⟩ := by simp [Addr.add]
      rw [ha] at hsp
      obtain ⟨hs, hlt⟩ := hsp
      simp only at hs hlt
      subst hs
      refine ⟨some ⟨b, o, none⟩, b, o, m, ps, hcs, hl, hm', fun _ => rfl, fun _ => hlt, fun j u hu => ?_, fun h => by omega⟩
      have hj : j < ps.length * 4 := by have := (List.getElem?_eq_some_iff.1 hu).1; rwa [prCs_length] at this
      have hi : j / 4 < ps.length := by omega
      obtain ⟨z, hz⟩ : ∃ z, ps[j / 4]? = some z := ⟨ps[j / 4], List.getElem?_eq_getElem hi⟩
      obtain ⟨g0, g1, g2, g3⟩ := prCs_get ps (j / 4) z hz
      obtain ⟨k0, k1, k2, k3⟩ := hbs (j / 4) z hz
      rw [add_zero_off] at k0 k1 k2 k3
      have hr : j = j / 4 * 4 ∨ j = j / 4 * 4 + 1 ∨ j = j / 4 * 4 + 2 ∨ j = j / 4 * 4 + 3 := by omega
      rcases hr with e | e | e | e
      · rw [← e] at g0 k0; rw [g0] at hu; cases hu; exact k0
      · rw [← e] at g1 k1; rw [g1] at hu; cases hu; exact k1
      · rw [← e] at g2 k2; rw [g2] at hu; cases hu; exact k2
      · rw [← e] at g3 k3; rw [g3] at hu; cases hu; exact k3
    · obtain rfl : ps = [] := List.length_eq_zero_iff.1 (by omega)
      exact ⟨some a, 0, 0, m, [], hcs, hl, hm', by simp, by simp, by simp [prCs], fun _ => rfl⟩

/-- A deal that came in. -/
theorem dealR {H : Type} {enc : TypeId × Value → H} {w : World} {fuel : Nat} {cs : List Value} {x : DataW H × List MemPlace}
    (h : DataW.trod enc Try.prog w 0 (fun _ => true) true fuel 47 cs = some x) :
    ∃ (n : Int) (A : Option Addr) (b o c : Nat) (bs : List Bd) (A2 : Option Addr) (b2 o2 c2 : Nat) (ps : List Pr), cs = [.int .i64 n, .slice A bs.length c, .slice A2 ps.length c2] ∧ bs.length ≤ c ∧ c ≤ 9223372036854775807 ∧ BdsR w w.heap.size b o A bs ∧ ps.length ≤ c2 ∧ c2 ≤ 9223372036854775807 ∧ CsR w w.heap.size b2 o2 A2 ps.length (prCs ps) ∧ -9223372036854775808 ≤ n ∧ n ≤ 9223372036854775807 := by
  have hl := structLen Try.underlying47 h 3 (by kernel_rfl)
  obtain ⟨_, _, g0⟩ := fieldR Try.underlying47 h 0 _ 2 rfl (by kernel_rfl)
  obtain ⟨_, _, g1⟩ := fieldR Try.underlying47 h 1 _ 1 rfl (by kernel_rfl)
  match cs, hl with
  | [u0, u1, u2], _ =>
    obtain ⟨n, A, b, o, c, bs, e0, h1, h2, h3, hn⟩ := planR g0
    obtain ⟨A2, b2, o2, c2, ps, e1, k1, k2, k3⟩ := prsR g1
    simp at e0 e1
    obtain ⟨rfl, rfl⟩ := e0
    subst e1
    exact ⟨n, A, b, o, c, bs, A2, b2, o2, c2, ps, rfl, h1, h2, h3, k1, k2, k3, hn⟩

end Go.Proofs.Ytdijfkpccbkdfaa
