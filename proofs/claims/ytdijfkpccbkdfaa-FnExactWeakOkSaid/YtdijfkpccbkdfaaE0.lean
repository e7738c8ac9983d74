/-
  Rows of cells that read as a list of values (structs of one-cell fields, flat).
-/
import Derived.Test.YtdijfkpccbkdfaaBase
namespace Go.Proofs.Ytdijfkpccbkdfaa
set_option linter.unusedVariables false
set_option linter.unusedSimpArgs false
open Go.RowKit Pp

/-- A slice of n elements whose cells read as a list. -/
structure CsR (w : World) (B b o : Nat) (A : Option Addr) (n : Nat) (cs : List Value) : Prop where
  addr : 0 < n → A = some ⟨b, o, none⟩
  lt : 0 < n → b < B
  cell : ∀ j u, cs[j]? = some u → w.cell? ⟨b, o + j, none⟩ = some u
  none : n = 0 → cs = []

theorem CsR.pos {w : World} {B b o n : Nat} {A : Option Addr} {cs : List Value} (h : CsR w B b o A n cs) {j : Nat} {u : Value} (hu : cs[j]? = some u) : 0 < n := by
  rcases Nat.eq_zero_or_pos n with h0 | h0
  · rw [h.none h0] at hu; simp at hu
  · exact h0
theorem CsR.below {w w' : World} {B b o n : Nat} {A : Option Addr} {cs : List Value} (h : CsR w B b o A n cs) (hb : Below B w w') : CsR w' B b o A n cs :=
  ⟨h.addr, h.lt, fun j u hu => (hb.cell (p := ⟨b, o + j, Option.none⟩) (h.lt (h.pos hu))).trans (h.cell j u hu), h.none⟩
theorem CsR.more {w : World} {B B' b o n : Nat} {A : Option Addr} {cs : List Value} (h : CsR w B b o A n cs) (hB : B ≤ B') : CsR w B' b o A n cs :=
  ⟨h.addr, fun hx => Nat.lt_of_lt_of_le (h.lt hx) hB, h.cell, h.none⟩
theorem CsR.grown {w w' : World} {B b o n : Nat} {A : Option Addr} {cs : List Value} {row : Option Nat} (h : CsR w B b o A n cs) (hg : w.grownBy w' row) (hb : 0 < n → some b ≠ row) : CsR w' B b o A n cs :=
  ⟨h.addr, h.lt, fun j u hu => hg.cell (h.cell j u hu) (hb (h.pos hu)), h.none⟩
theorem CsR.nil (w : World) (B : Nat) (A : Option Addr) : CsR w B 0 0 A 0 [] := ⟨by simp, by simp, by simp, fun _ => rfl⟩
theorem CsR.at {w : World} {B b o n : Nat} {A : Option Addr} {cs : List Value} (h : CsR w B b o A n cs) {j : Nat} {u : Value} (m i : Nat) (e : j = m + i) (hu : cs[j]? = some u) : w.cell? ⟨b, o + m + i, Option.none⟩ = some u := by
  have := h.cell j u hu; rwa [e, ← Nat.add_assoc] at this
theorem own_csR {w : World} {base : Nat} {e : TypeId} {size : Nat} {A : Option Addr} {c n : Nat} {cs : List Value} (h : w.ownsRow base e size (.slice A n c) n cs) : ∃ g, CsR w w.heap.size g 0 A n cs := by
  obtain ⟨A2, g, c2, hv, h1, h2, h3⟩ := own_form h
  injection hv with e1 _ e3
  subst e1
  exact ⟨g, h1, fun hx => (h2 hx).2, fun j u hu => by rw [Nat.zero_add]; exact h3 j u hu, fun h0 => List.eq_nil_of_length_eq_zero (by rw [h.1, h0, Nat.zero_mul])⟩
theorem CsR.ints {w : World} {B b o : Nat} {A : Option Addr} {xs : List Int} (h : IntsR w B b o A xs) : CsR w B b o A xs.length (xs.map (Value.int .i64)) :=
  ⟨h.addr, h.lt, fun j u hu => by
    have hj : j < xs.length := by have := (List.getElem?_eq_some_iff.1 hu).1; simpa using this
    rw [h.cell j hj, ← hu]; simp [hj], fun h0 => by rw [List.eq_nil_of_length_eq_zero h0]; rfl⟩
theorem own_IntsR {w : World} {base : Nat} {A : Option Addr} {c : Nat} {xs : List Int} (h : OwnI base w (.slice A xs.length c) xs) : ∃ g, IntsR w w.heap.size g 0 A xs := by
  obtain ⟨A2, g, c2, hv, hr⟩ := h.reads
  injection hv with e1 _ e3
  subst e1
  exact ⟨g, hr⟩

/-- A row that is filled up to m. -/
def rowC (cs : List Value) (m : Nat) : Nat → Value := fun j => if j < m then cs[j]?.getD default else .int .i64 0
theorem rowC_none (cs : List Value) (j : Nat) : rowC cs 0 j = .int .i64 0 := by unfold rowC; rw [if_neg (by omega)]
theorem rowC_one {cs : List Value} {m : Nat} {v : Value} (h : cs[m]? = some v) (j : Nat) : (if j = m then v else rowC cs m j) = rowC cs (m + 1) j := by
  unfold rowC
  by_cases e : j = m
  · subst e; rw [if_pos rfl, if_pos (by omega), h]; rfl
  · rw [if_neg e]
    by_cases h2 : j < m
    · rw [if_pos h2, if_pos (by omega)]
    · rw [if_neg h2, if_neg (by omega)]
theorem rowC_full {cs : List Value} {m : Nat} (hl : cs.length = m) (j : Nat) (hj : j < m) : cs[j]? = some (rowC cs m j) := by
  unfold rowC
  rw [if_pos hj, List.getElem?_eq_getElem (by omega)]; rfl

/-- What marks a row of cells. -/
def markI (k : Int) (n : Nat) : List Int := (List.range n).map fun (i : Nat) => k + (i : Int)
theorem markI_length (k : Int) (n : Nat) : (markI k n).length = n := by simp [markI]
theorem markI_get (k : Int) (n i : Nat) (h : i < n) : (markI k n)[i]? = some (k + i) := by simp [markI, h]
theorem markI_getD (k : Int) (n i : Nat) (h : i < n) : (markI k n).getD i 0 = k + i := by rw [List.getD_eq_getElem?_getD, markI_get k n i h]; rfl
end Go.Proofs.Ytdijfkpccbkdfaa
