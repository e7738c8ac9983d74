/-
  Arguments of the exact laws opened: marks.
-/
import Derived.Test.YtofodhdpppjaoaaO1
import Derived.Test.YtofodhdpppjaoaaR70
namespace Go.Proofs.Ytofodhdpppjaoaa
set_option linter.unusedVariables false
set_option linter.unusedSimpArgs false
open Go.ChangeShapes Go.WideShapes Go.Deep Go.Joins Go.RowKit Pp

instance : Inhabited Mk := ⟨⟨0, 0, 0⟩⟩
theorem marksR {H : Type} {enc : TypeId × Value → H} {w : World} {fuel : Nat} {cs : List Value} {x : DataW H × List MemPlace}
    (h : DataW.trod enc Try.prog w 0 (fun _ => true) true fuel 35 cs = some x) :
    ∃ (A : Option Addr) (b o c : Nat) (ps : List Mk), cs = [.slice A ps.length c] ∧ ps.length ≤ c ∧ c ≤ 9223372036854775807 ∧ CsR w w.heap.size b o A ps.length (mkCs ps) := by
  rcases open_slice Try.underlying35 h with ⟨h0, _⟩ | ⟨a, len, cap, m, n, D, Pl, hcs, hb, hl, hm, hmm, hx, hi⟩
  · exact ⟨none, 0, 0, 0, [], h0, Nat.le_refl _, by omega, by simp, by simp, by simp [mkCs], fun _ => rfl⟩
  · obtain rfl : m = cap := by simpa using hmm
    have hm' : m ≤ 9223372036854775807 := hm
    have hC : (Try.prog).cellsOf 70 = 3 := by kernel_rfl
    have hI : (Try.prog).cellsOf 3 = 1 := by kernel_rfl
    rw [hC] at hi
    have key : ∀ i, i < len → ∃ x : Mk, w.cell? (a.add (i * 3)) = some (.int .i64 x.k) ∧ w.cell? (a.add (i * 3 + 1)) = some (.int .i64 x.l) ∧ w.cell? (a.add (i * 3 + 2)) = some (.int .i64 x.h) := by
      intro i hil
      obtain ⟨cs', hc, ht'⟩ := hi i (by omega)
      obtain ⟨_, hcl, hat⟩ := World.cells?_some hc
      obtain ⟨_, _, g0⟩ := fieldR Try.underlying70 ht' 0 _ 1 rfl hI
      obtain ⟨_, _, g1⟩ := fieldR Try.underlying70 ht' 1 _ 1 rfl hI
      obtain ⟨_, _, g2⟩ := fieldR Try.underlying70 ht' 2 _ 1 rfl hI
      match cs', hcl with
      | [u0, u1, u2], _ =>
        obtain ⟨z0, e0, _⟩ := intR g0
        obtain ⟨z1, e1, _⟩ := intR g1
        obtain ⟨z2, e2, _⟩ := intR g2
        simp at e0 e1 e2
        subst e0 e1 e2
        have k0 := hat 0 (by omega)
        have k1 := hat 1 (by omega)
        have k2 := hat 2 (by omega)
        rw [Go.Deep.add_add] at k0 k1 k2
        exact ⟨⟨z0, z1, z2⟩, by simpa using k0, by simpa using k1, by simpa using k2⟩
    obtain ⟨ps, hbl, hbs⟩ := list_of key
    subst hbl
    by_cases h0 : 0 < ps.length
    · obtain ⟨y, hy⟩ : ∃ y, ps[0]? = some y := ⟨ps[0], List.getElem?_eq_getElem h0⟩
      have hc0 := (hbs 0 y hy).1
      have hsp := cell_spot hc0
      obtain ⟨b, o, s⟩ := a
      have ha : (⟨b, o, s⟩ : Addr).add (0 * 3) = ⟨b, o, s⟩ := by simp [Addr.add]
      rw [ha] at hsp
      obtain ⟨hs, hlt⟩ := hsp
      simp only at hs hlt
      subst hs
      refine ⟨some ⟨b, o, none⟩, b, o, m, ps, hcs, hl, hm', fun _ => rfl, fun _ => hlt, fun j u hu => ?_, fun h => by omega⟩
      have hj : j < ps.length * 3 := by have := (List.getElem?_eq_some_iff.1 hu).1; rwa [mkCs_length] at this
      have hi : j / 3 < ps.length := by omega
      obtain ⟨z, hz⟩ : ∃ z, ps[j / 3]? = some z := ⟨ps[j / 3], List.getElem?_eq_getElem hi⟩
      obtain ⟨g0, g1, g2⟩ := mkCs_get ps (j / 3) z hz
      obtain ⟨k0, k1, k2⟩ := hbs (j / 3) z hz
      rw [add_zero_off] at k0 k1 k2
      have hr : j = j / 3 * 3 ∨ j = j / 3 * 3 + 1 ∨ j = j / 3 * 3 + 2 := by omega
      rcases hr with e | e | e
      · rw [← e] at g0 k0; rw [g0] at hu; cases hu; exact k0
      · rw [← e] at g1 k1; rw [g1] at hu; cases hu; exact k1
      · rw [← e] at g2 k2; rw [g2] at hu; cases hu; exact k2
    · obtain rfl : ps = [] := List.length_eq_zero_iff.1 (by omega)
      exact ⟨some a, 0, 0, m, [], hcs, hl, hm', by simp, by simp, by simp [mkCs], fun _ => rfl⟩

end Go.Proofs.Ytofodhdpppjaoaa
