/-
 Arguments of the exact laws opened: a number, a slice of bounds, a plan, a slice of numbers.
-/
import Derived.Test.YtmnajkhoacogjaaGreatDoorBase
import Derived.Lib.SmallJoins
import Derived.Deep.Slices
import Derived.Deep.Fields
import Derived.ChangeSame
namespace Go.Proofs.YtmnajkhoacogjaaGreatDoor
set_option linter.unusedVariables false
set_option linter.unusedSimpArgs false
open Go.ChangeShapes Go.WideShapes Go.Deep Go.Joins Go.RowKit Pp

theorem cell_spot {w : World} {a : Addr} {v : Value} (h : w.cell? a = some v) : a.spot = none ∧ a.block < w.heap.size := by
 unfold World.cell? at h
 split at h
 ·rename_i c _ _ hc
  refine ⟨?_, (Array.getElem?_eq_some_iff.1 hc).1⟩
  cases hs : a.spot with
  | none => rfl
  | some k => rw [hs] at h; simp at h
 ·cases h

/-- A list from its elements, one by one. -/
theorem list_of {α : Type} [Inhabited α] {n : Nat} {p : Nat → α → Prop} (h : ∀ i, i < n → ∃ x, p i x) : ∃ l : List α, l.length = n ∧ ∀ i x, l[i]? = some x → p i x := by
 obtain ⟨f, hf⟩ := choose_lt h
 refine ⟨(List.range n).map f, by simp, fun i x hx => ?_⟩
 have hi : i < n := by simpa using (List.getElem?_eq_some_iff.1 hx).1
 rw [List.getElem?_map, List.getElem?_range hi] at hx
 simp at hx
 subst hx
 exact hf i hi

section
variable {H : Type} {enc : TypeId × Value → H} {w : World} {base : Nat} {spare : Nat → Bool} {held : Bool} {fuel : Nat} {cs : List Value} {x : DataW H × List MemPlace}

/-- A field of a struct that reads. -/
theorem fieldR {P : Program} {t : TypeId} {fs : Array Field} (hs : P.underlying t = some (.struct fs)) (h : DataW.trod enc P w base spare held fuel t cs = some x) (j : Nat) (f : Field) (k : Nat) (hj : fs[j]? = some f) (hc : P.cellsOf f.type = k) :
  ∃ n y, DataW.trod enc P w base spare held n f.type ((cs.drop f.offset).take k) = some y := by
 obtain ⟨xs, n, _, _, _, hl, hf⟩ := DataW.trod_struct hs h
 have h1 := hf j f hj
 rw [hc] at h1
 have hjl : j < fs.size := (Array.getElem?_eq_some_iff.1 hj).1
 rw [List.getElem?_eq_getElem (show j < xs.length by omega)] at h1
 exact ⟨n, _, h1⟩

theorem structLen {P : Program} {t : TypeId} {fs : Array Field} (hs : P.underlying t = some (.struct fs)) (h : DataW.trod enc P w base spare held fuel t cs = some x) (k : Nat) (hc : P.cellsOf t = k) : cs.length = k := by
 obtain ⟨xs, n, _, _, hl, _, hf⟩ := DataW.trod_struct hs h
 omega

theorem intR (h : DataW.trod enc Tryz.prog w base spare held fuel 3 cs = some x) :
  ∃ n : Int, cs = [.int .i64 n] ∧ -9223372036854775808 ≤ n ∧ n ≤ 9223372036854775807 := by
 obtain ⟨n, h1, _, h2⟩ := DataW.trod_int Tryz.underlying3 h
 refine ⟨n, h1, ?_⟩
 simp only [Lit.wf, Bool.and_eq_true, decide_eq_true_eq] at h2
 exact h2
end

instance : Inhabited Bd := ⟨⟨0, 0, 0⟩⟩

theorem bdsR {H : Type} {enc : TypeId × Value → H} {w : World} {fuel : Nat} {cs : List Value} {x : DataW H × List MemPlace}
  (h : DataW.trod enc Tryz.prog w 0 (fun _ => true) true fuel 22 cs = some x) :
  ∃ (A : Option Addr) (b o c : Nat) (bs : List Bd), cs = [.slice A bs.length c] ∧ bs.length ≤ c ∧ c ≤ 9223372036854775807 ∧ BdsR w w.heap.size b o A bs := by
 rcases open_slice Tryz.underlying22 h with ⟨h0, _⟩ | ⟨a, len, cap, m, n, D, Pl, hcs, hb, hl, hm, hmm, hx, hi⟩
 ·exact ⟨none, 0, 0, 0, [], h0, Nat.le_refl _, by omega, BdsR.nil _ _ _⟩
 ·obtain rfl : m = cap := by simpa using hmm
  have hm' : m ≤ 9223372036854775807 := hm
  have hC : (Tryz.prog).cellsOf 124 = 3 := by kernel_rfl
  have hI : (Tryz.prog).cellsOf 3 = 1 := by kernel_rfl
  rw [hC] at hi
  have key : ∀ i, i < len → ∃ x : Bd, w.cell? (a.add (i * 3)) = some (.int .i64 x.f) ∧ w.cell? (a.add (i * 3 + 1)) = some (.int .i64 x.t) ∧ w.cell? (a.add (i * 3 + 2)) = some (.int .i64 x.m) := by
   intro i hil
   obtain ⟨cs', hc, ht'⟩ := hi i (by omega)
   obtain ⟨_, hcl, hat⟩ := World.cells?_some hc
   obtain ⟨_, _, g0⟩ := fieldR Tryz.underlying124 ht' 0 _ 1 rfl hI
   obtain ⟨_, _, g1⟩ := fieldR Tryz.underlying124 ht' 1 _ 1 rfl hI
   obtain ⟨_, _, g2⟩ := fieldR Tryz.underlying124 ht' 2 _ 1 rfl hI
   match cs', hcl with
   | [u0, u1, u2], _ =>
     obtain ⟨z0, e0, _⟩ := intR g0
     obtain ⟨z1, e1, _⟩ := intR g1
     obtain ⟨z2, e2, _⟩ := intR g2
     simp at e0 e1 e2
     subst e0 e1 e2
     have k0 := hat 0 (by omega)
     have k1 := hat 1 (by omega)
     have k2 := hat 2 (by omega)
     rw [Go.Deep.add_add] at k0 k1 k2
     exact ⟨⟨z0, z1, z2⟩, by simpa using k0, by simpa using k1, by simpa using k2⟩
  obtain ⟨bs, hbl, hbs⟩ := list_of key
  subst hbl
  by_cases h0 : 0 < bs.length
  ·obtain ⟨y, hy⟩ : ∃ y, bs[0]? = some y := ⟨bs[0], List.getElem?_eq_getElem h0⟩
   have hc0 := (hbs 0 y hy).1
   have hsp := cell_spot hc0
   obtain ⟨b, o, s⟩ := a
   have ha : (⟨b, o, s⟩ : Addr).add (0 * 3) = ⟨b, o, s⟩ := by simp [Addr.add]
   rw [ha] at hsp
   obtain ⟨hs, hlt⟩ := hsp
   simp only at hs hlt
   subst hs
   refine ⟨some ⟨b, o, none⟩, b, o, m, bs, hcs, hl, hm', fun _ => rfl, fun _ => hlt, fun j x hx => ?_, fun j x hx => ?_, fun j x hx => ?_⟩
   ·have := (hbs j x hx).1; rwa [add_zero_off] at this
   ·have := (hbs j x hx).2.1; rwa [add_zero_off, ← Nat.add_assoc] at this
   ·have := (hbs j x hx).2.2; rwa [add_zero_off, ← Nat.add_assoc] at this
  ·obtain rfl : bs = [] := List.length_eq_zero_iff.1 (by omega)
   exact ⟨some a, 0, 0, m, [], hcs, hl, hm', BdsR.nil _ _ _⟩
/-- A plan that came in. -/
theorem planR {H : Type} {enc : TypeId × Value → H} {w : World} {fuel : Nat} {cs : List Value} {x : DataW H × List MemPlace}
  (h : DataW.trod enc Tryz.prog w 0 (fun _ => true) true fuel 24 cs = some x) :
  ∃ (n : Int) (A : Option Addr) (b o c : Nat) (bs : List Bd), cs = [.int .i64 n, .slice A bs.length c] ∧ bs.length ≤ c ∧ c ≤ 9223372036854775807 ∧ BdsR w w.heap.size b o A bs ∧ -9223372036854775808 ≤ n ∧ n ≤ 9223372036854775807 := by
 have hl := structLen Tryz.underlying24 h 2 (by kernel_rfl)
 obtain ⟨_, _, g0⟩ := fieldR Tryz.underlying24 h 0 _ 1 rfl (by kernel_rfl)
 obtain ⟨_, _, g1⟩ := fieldR Tryz.underlying24 h 1 _ 1 rfl (by kernel_rfl)
 match cs, hl with
 | [u0, u1], _ =>
   obtain ⟨n, e0, hn⟩ := intR g0
   obtain ⟨A, b, o, c, bs, e1, h1, h2, h3⟩ := bdsR g1
   simp at e0 e1
   subst e0 e1
   exact ⟨n, A, b, o, c, bs, rfl, h1, h2, h3, hn⟩
end Go.Proofs.YtmnajkhoacogjaaGreatDoor
