/-
  Arguments of the exact laws opened: a case.
-/
import Derived.Test.YtledgblepdjjlaaO1
import Derived.Test.YtledgblepdjjlaaR50
namespace Go.Proofs.Ytledgblepdjjlaa
set_option linter.unusedVariables false
set_option linter.unusedSimpArgs false
open Go.ChangeShapes Go.WideShapes Go.Deep Go.Joins Go.RowKit Pp

theorem chsR {H : Type} {enc : TypeId × Value → H} {w : World} {fuel : Nat} {cs : List Value} {x : DataW H × List MemPlace}
    (h : DataW.trod enc Try.prog w 0 (fun _ => true) true fuel 25 cs = some x) :
    ∃ (A : Option Addr) (b o c : Nat) (ls : List (List Bd)), cs = [.slice A ls.length c] ∧ ls.length ≤ c ∧ c ≤ 9223372036854775807 ∧ ChR w w.heap.size b o A ls ∧ ∀ l ∈ ls, l.length ≤ 9223372036854775807 := by
  rcases open_slice Try.underlying25 h with ⟨h0, _⟩ | ⟨a, len, cap, m, n, D, Pl, hcs, hb, hl, hm, hmm, hx, hi⟩
  · exact ⟨none, 0, 0, 0, [], h0, Nat.le_refl _, by omega, ChR.nil _ _ _, by simp⟩
  · obtain rfl : m = cap := by simpa using hmm
    have hm' : m ≤ 9223372036854775807 := hm
    have hI : (Try.prog).cellsOf 22 = 1 := by kernel_rfl
    rw [hI] at hi
    have key : ∀ i, i < len → ∃ l : List Bd, (∃ (A' : Option Addr) (b' o' c' : Nat), w.cell? (a.add i) = some (.slice A' l.length c') ∧ BdsR w w.heap.size b' o' A' l) ∧ l.length ≤ 9223372036854775807 := by
      intro i hil
      obtain ⟨cs', hc, ht'⟩ := hi i (by omega)
      obtain ⟨_, hcl, hat⟩ := World.cells?_some hc
      match cs', hcl with
      | [u0], _ =>
        obtain ⟨A', b', o', c', l, e0, h1, h2, h3⟩ := bdsR ht'
        simp at e0
        subst e0
        have k0 := hat 0 (by omega)
        rw [Go.Deep.add_add] at k0
        exact ⟨l, ⟨A', b', o', c', by simpa using k0, h3⟩, by omega⟩
    obtain ⟨ls, hbl, hbs⟩ := list_of key
    subst hbl
    by_cases h0 : 0 < ls.length
    · obtain ⟨y, hy⟩ : ∃ y, ls[0]? = some y := ⟨ls[0], List.getElem?_eq_getElem h0⟩
      obtain ⟨⟨_, _, _, _, hc0, _⟩, _⟩ := hbs 0 y hy
      have hsp := cell_spot hc0
      obtain ⟨b, o, s⟩ := a
      have ha : (⟨b, o, s⟩ : Addr).add 0 = ⟨b, o, s⟩ := by simp [Addr.add]
      rw [ha] at hsp
      obtain ⟨hs, hlt⟩ := hsp
      simp only at hs hlt
      subst hs
      refine ⟨some ⟨b, o, none⟩, b, o, m, ls, hcs, hl, hm', ⟨fun _ => rfl, fun _ => hlt, fun j l hj => ?_⟩, fun l hl => ?_⟩
      · obtain ⟨⟨A', b', o', c', k1, k2⟩, _⟩ := hbs j l hj
        rw [add_zero_off] at k1
        exact ⟨A', b', o', c', k1, k2⟩
      · obtain ⟨j, hj⟩ := List.getElem?_of_mem hl
        exact (hbs j l hj).2
    · obtain rfl : ls = [] := List.length_eq_zero_iff.1 (by omega)
      exact ⟨some a, 0, 0, m, [], hcs, hl, hm', ChR.nil _ _ _, by simp⟩

/-- A case that came in. -/
theorem caseR {H : Type} {enc : TypeId × Value → H} {w : World} {fuel : Nat} {cs : List Value} {x : DataW H × List MemPlace}
    (h : DataW.trod enc Try.prog w 0 (fun _ => true) true fuel 27 cs = some x) :
    ∃ (n : Int) (A : Option Addr) (b o c : Nat) (bs : List Bd) (A2 : Option Addr) (b2 o2 c2 : Nat) (ls : List (List Bd)), cs = [.int .i64 n, .slice A bs.length c, .slice A2 ls.length c2] ∧ bs.length ≤ c ∧ c ≤ 9223372036854775807 ∧ BdsR w w.heap.size b o A bs ∧ ls.length ≤ c2 ∧ c2 ≤ 9223372036854775807 ∧ ChR w w.heap.size b2 o2 A2 ls ∧ (∀ l ∈ ls, l.length ≤ 9223372036854775807) ∧ -9223372036854775808 ≤ n ∧ n ≤ 9223372036854775807 := by
  have hl := structLen Try.underlying27 h 3 (by kernel_rfl)
  obtain ⟨_, _, g0⟩ := fieldR Try.underlying27 h 0 _ 2 rfl (by kernel_rfl)
  obtain ⟨_, _, g1⟩ := fieldR Try.underlying27 h 1 _ 1 rfl (by kernel_rfl)
  match cs, hl with
  | [u0, u1, u2], _ =>
    obtain ⟨n, A, b, o, c, bs, e0, h1, h2, h3, hn⟩ := planR g0
    obtain ⟨A2, b2, o2, c2, ls, e1, k1, k2, k3, k4⟩ := chsR g1
    simp at e0 e1
    obtain ⟨rfl, rfl⟩ := e0
    subst e1
    exact ⟨n, A, b, o, c, bs, A2, b2, o2, c2, ls, rfl, h1, h2, h3, k1, k2, k3, k4, hn⟩

end Go.Proofs.Ytledgblepdjjlaa
