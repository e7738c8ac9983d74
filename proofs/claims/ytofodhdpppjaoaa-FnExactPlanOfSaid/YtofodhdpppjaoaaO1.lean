/-
  Arguments of the exact laws opened: a number, a slice of bounds, a plan, a slice of numbers.
-/
import Derived.Test.YtofodhdpppjaoaaBase
import Derived.Lib.SmallJoins
import Derived.Deep.Slices
import Derived.Deep.Fields
import Derived.ChangeSame
namespace Go.Proofs.Ytofodhdpppjaoaa
set_option linter.unusedVariables false
set_option linter.unusedSimpArgs false
open Go.ChangeShapes Go.WideShapes Go.Deep Go.Joins Go.RowKit Pp

theorem cell_spot {w : World} {a : Addr} {v : Value} (h : w.cell? a = some v) : a.spot = none ∧ a.block < w.heap.size := by
  unfold World.cell? at h
  split at h
  · rename_i c _ _ hc
    refine ⟨?_, (Array.getElem?_eq_some_iff.1 hc).1⟩
    cases hs : a.spot with
    | none => rfl
    | some k => rw [hs] at h; simp at h
  · cases h

/-- A list from its elements, one by one. -/
theorem list_of {α : Type} [Inhabited α] {n : Nat} {p : Nat → α → Prop} (h : ∀ i, i < n → ∃ x, p i x) : ∃ l : List α, l.length = n ∧ ∀ i x, l[i]? = some x → p i x := by
  obtain ⟨f, hf⟩ := choose_lt h
  refine ⟨(List.range n).map f, by simp, fun i x hx => ?_⟩
  have hi : i < n := by simpa using (List.getElem?_eq_some_iff.1 hx).1
  rw [List.getElem?_map, List.getElem?_range hi] at hx
  simp at hx
  subst hx
  exact hf i hi

section
variable {H : Type} {enc : TypeId × Value → H} {w : World} {base : Nat} {spare : Nat → Bool} {held : Bool} {fuel : Nat} {cs : List Value} {x : DataW H × List MemPlace}

/-- A field of a struct that reads. -/
theorem fieldR {P : Program} {t : TypeId} {fs : Array Field} (hs : P.underlying t = some (.struct fs)) (h : DataW.trod enc P w base spare held fuel t cs = some x) (j : Nat) (f : Field) (k : Nat) (hj : fs[j]? = some f) (hc : P.cellsOf f.type = k) :
    ∃ n y, DataW.trod enc P w base spare held n f.type ((cs.drop f.offset).take k) = some y := by
  obtain ⟨xs, n, _, _, _, hl, hf⟩ := DataW.trod_struct hs h
  have h1 := hf j f hj
  rw [hc] at h1
  have hjl : j < fs.size := (Array.getElem?_eq_some_iff.1 hj).1
  rw [List.getElem?_eq_getElem (show j < xs.length by omega)] at h1
  exact ⟨n, _, h1⟩

theorem structLen {P : Program} {t : TypeId} {fs : Array Field} (hs : P.underlying t = some (.struct fs)) (h : DataW.trod enc P w base spare held fuel t cs = some x) (k : Nat) (hc : P.cellsOf t = k) : cs.length = k := by
  obtain ⟨xs, n, _, _, hl, _, hf⟩ := DataW.trod_struct hs h
  omega

theorem intR (h : DataW.trod enc Try.prog w base spare held fuel 3 cs = some x) :
    ∃ n : Int, cs = [.int .i64 n] ∧ -9223372036854775808 ≤ n ∧ n ≤ 9223372036854775807 := by
  obtain ⟨n, h1, _, h2⟩ := DataW.trod_int Try.underlying3 h
  refine ⟨n, h1, ?_⟩
  simp only [Lit.wf, Bool.and_eq_true, decide_eq_true_eq] at h2
  exact h2
end

instance : Inhabited Bd := ⟨⟨0, 0, 0⟩⟩

/-- A slice of numbers that came in. -/
theorem intsR {H : Type} {enc : TypeId × Value → H} {w : World} {fuel : Nat} {cs : List Value} {x : DataW H × List MemPlace}
    (h : DataW.trod enc Try.prog w 0 (fun _ => true) true fuel 52 cs = some x) :
    ∃ (A : Option Addr) (b o c : Nat) (xs : List Int), cs = [.slice A xs.length c] ∧ xs.length ≤ c ∧ c ≤ 9223372036854775807 ∧ IntsR w w.heap.size b o A xs ∧ ∀ (j : Nat) (y : Int), xs[j]? = some y → -9223372036854775808 ≤ y ∧ y ≤ 9223372036854775807 := by
  rcases open_slice Try.underlying52 h with ⟨h0, _⟩ | ⟨a, len, cap, m, n, D, Pl, hcs, hb, hl, hm, hmm, hx, hi⟩
  · exact ⟨none, 0, 0, 0, [], h0, Nat.le_refl _, by omega, IntsR.nil _ _ _, by simp⟩
  · obtain rfl : m = cap := by simpa using hmm
    have hm' : m ≤ 9223372036854775807 := hm
    have hI : (Try.prog).cellsOf 3 = 1 := by kernel_rfl
    rw [hI] at hi
    have key : ∀ i, i < len → ∃ y : Int, w.cell? (a.add i) = some (.int .i64 y) ∧ -9223372036854775808 ≤ y ∧ y ≤ 9223372036854775807 := by
      intro i hil
      obtain ⟨cs', hc, ht'⟩ := hi i (by omega)
      obtain ⟨_, hcl, hat⟩ := World.cells?_some hc
      match cs', hcl with
      | [u0], _ =>
        obtain ⟨z0, e0, e1⟩ := intR ht'
        simp at e0
        subst e0
        have k0 := hat 0 (by omega)
        rw [Go.Deep.add_add] at k0
        exact ⟨z0, by simpa using k0, e1⟩
    obtain ⟨xs, hbl, hbs⟩ := list_of key
    subst hbl
    by_cases h0 : 0 < xs.length
    · obtain ⟨y, hy⟩ : ∃ y, xs[0]? = some y := ⟨xs[0], List.getElem?_eq_getElem h0⟩
      have hc0 := (hbs 0 y hy).1
      have hsp := cell_spot hc0
      obtain ⟨b, o, s⟩ := a
      have ha : (⟨b, o, s⟩ : Addr).add 0 = ⟨b, o, s⟩ := by simp [Addr.add]
      rw [ha] at hsp
      obtain ⟨hs, hlt⟩ := hsp
      simp only at hs hlt
      subst hs
      refine ⟨some ⟨b, o, none⟩, b, o, m, xs, hcs, hl, hm', ⟨fun _ => rfl, fun _ => hlt, fun j hj => ?_⟩, fun j x hx => (hbs j x hx).2⟩
      obtain ⟨y, hy⟩ : ∃ y, xs[j]? = some y := ⟨xs[j], List.getElem?_eq_getElem hj⟩
      have := (hbs j y hy).1
      rw [add_zero_off] at this
      rw [this, List.getD_eq_getElem?_getD, hy]; rfl
    · obtain rfl : xs = [] := List.length_eq_zero_iff.1 (by omega)
      exact ⟨some a, 0, 0, m, [], hcs, hl, hm', IntsR.nil _ _ _, by simp⟩

end Go.Proofs.Ytofodhdpppjaoaa
