/-
  Deals in memory: rows of promises, a deal in a box.
-/
import Derived.Test.YtledgblepdjjlaaI3
import Derived.Test.YtledgblepdjjlaaP9
namespace Go.Proofs.Ytledgblepdjjlaa
set_option linter.unusedVariables false
set_option linter.unusedSimpArgs false
open Go.RowKit Pp

def prCs : List Pr → List Value
  | [] => []
  | x :: l => .int .i64 x.f :: .int .i64 x.t :: .int .i64 x.l :: .int .i64 x.h :: prCs l
theorem prCs_length : ∀ xs : List Pr, (prCs xs).length = xs.length * 4
  | [] => rfl
  | x :: l => by simp [prCs, prCs_length l]; omega
theorem prCs_get : ∀ (xs : List Pr) (q : Nat) (x : Pr), xs[q]? = some x → (prCs xs)[q * 4]? = some (.int .i64 x.f) ∧ (prCs xs)[q * 4 + 1]? = some (.int .i64 x.t) ∧ (prCs xs)[q * 4 + 2]? = some (.int .i64 x.l) ∧ (prCs xs)[q * 4 + 3]? = some (.int .i64 x.h)
  | [], q, x => by simp
  | y :: l, 0, x => by intro h; simp at h; subst h; simp [prCs]
  | y :: l, q + 1, x => by
    intro h
    have := prCs_get l q x (by simpa using h)
    have e : (q + 1) * 4 = q * 4 + 4 := by omega
    rw [e]
    simpa [prCs] using this
theorem pr_cells {w : World} {B b o : Nat} {A : Option Addr} {xs : List Pr} (h : CsR w B b o A xs.length (prCs xs)) {k : Nat} {x : Pr} (hx : xs[k]? = some x) :
    w.cell? ⟨b, o + k * 4, none⟩ = some (.int .i64 x.f) ∧ w.cell? ⟨b, o + k * 4 + 1, none⟩ = some (.int .i64 x.t) ∧ w.cell? ⟨b, o + k * 4 + 2, none⟩ = some (.int .i64 x.l) ∧ w.cell? ⟨b, o + k * 4 + 3, none⟩ = some (.int .i64 x.h) := by
  obtain ⟨g0, g1, g2, g3⟩ := prCs_get xs k _ hx
  exact ⟨h.cell _ _ g0, h.at (k * 4) 1 rfl g1, h.at (k * 4) 2 rfl g2, h.at (k * 4) 3 rfl g3⟩

/-- A box whose cells are told. -/
structure CB (W : World) (X : Nat) (cs : List Value) : Prop where
  ex : X < W.heap.size
  c : ∀ i v, cs[i]? = some v → W.cell? ⟨X, i, none⟩ = some v
theorem CB.below {W W' : World} {X : Nat} {cs : List Value} (h : CB W X cs) (hb : Below W.heap.size W W') : CB W' X cs :=
  ⟨Nat.lt_of_lt_of_le h.ex hb.size, fun i v hi => ((bcell hb).1 _ _ h.ex).trans (h.c i v hi)⟩
theorem CB.alloc {W : World} {X : Nat} {cs : List Value} (h : CB W X cs) (x : Obj) : CB (W.alloc x) X cs := h.below (by go_grown)
theorem CB.drew {W : World} {X : Nat} {cs : List Value} (h : CB W X cs) : CB W.drew X cs := h.below (by go_grown)
theorem CB.grown {W W' : World} {X : Nat} {cs : List Value} {row : Option Nat} (h : CB W X cs) (hg : W.grownBy W' row) (hX : some X ≠ row) : CB W' X cs :=
  ⟨Nat.lt_of_lt_of_le h.ex hg.size, fun i v hi => hg.cell (h.c i v hi) hX⟩
theorem cb_new (W : World) (cs : List Value) (t : TypeId) : CB (W.alloc (.cells cs.toArray t)) W.heap.size cs :=
  ⟨by simp, fun i v hi => by
    have h : cs.toArray[i]? = some v := by simpa using hi
    simp [go_sem, hi]⟩

section
variable {w0 W W' : World} {X b o b2 o2 : Nat} {n : Int} {A A2 : Option Addr} {c c2 : Nat} {bs : List Bd} {ps : List Pr} {row : Option Nat}
/-- A deal in a box, that is read. -/
structure RD (W : World) (X b o : Nat) (n : Int) (A : Option Addr) (c : Nat) (bs : List Bd) (b2 o2 : Nat) (A2 : Option Addr) (c2 : Nat) (ps : List Pr) : Prop where
  ex : X < W.heap.size
  c0 : W.cell? ⟨X, 0, none⟩ = some (.int .i64 n)
  c1 : W.cell? ⟨X, 1, none⟩ = some (.slice A bs.length c)
  c2 : W.cell? ⟨X, 2, none⟩ = some (.slice A2 ps.length c2)
  rd : BdsR W W.heap.size b o A bs
  rp : CsR W W.heap.size b2 o2 A2 ps.length (prCs ps)
theorem RD.grown (h : RD W X b o n A c bs b2 o2 A2 c2 ps) (hg : W.grownBy W' row) (hX : some X ≠ row) (hb : 0 < bs.length → some b ≠ row) (hb2 : 0 < ps.length → some b2 ≠ row) : RD W' X b o n A c bs b2 o2 A2 c2 ps :=
  ⟨Nat.lt_of_lt_of_le h.ex hg.size, hg.cell h.c0 hX, hg.cell h.c1 hX, hg.cell h.c2 hX,
    ⟨h.rd.addr, fun hx => Nat.lt_of_lt_of_le (h.rd.lt hx) hg.size, fun j x hx => hg.cell (h.rd.c0 j x hx) (hb (by have := (List.getElem?_eq_some_iff.1 hx).1; omega)), fun j x hx => hg.cell (h.rd.c1 j x hx) (hb (by have := (List.getElem?_eq_some_iff.1 hx).1; omega)), fun j x hx => hg.cell (h.rd.c2 j x hx) (hb (by have := (List.getElem?_eq_some_iff.1 hx).1; omega))⟩,
    (h.rp.grown hg hb2).more hg.size⟩
theorem RD.below (h : RD W X b o n A c bs b2 o2 A2 c2 ps) (hb : Below W.heap.size W W') : RD W' X b o n A c bs b2 o2 A2 c2 ps :=
  h.grown (row := none) ⟨hb.os, hb.tape, hb.output, hb.size, fun k hk _ => hb.block k hk⟩ (by simp) (by simp) (by simp)
theorem RD.alloc (h : RD W X b o n A c bs b2 o2 A2 c2 ps) (x : Obj) : RD (W.alloc x) X b o n A c bs b2 o2 A2 c2 ps := h.below (by go_grown)
theorem RD.drew (h : RD W X b o n A c bs b2 o2 A2 c2 ps) : RD W.drew X b o n A c bs b2 o2 A2 c2 ps := h.below (by go_grown)
theorem rd_new {t : TypeId} (hrd : BdsR W W.heap.size b o A bs) (hrp : CsR W W.heap.size b2 o2 A2 ps.length (prCs ps)) : RD (W.alloc (.cells #[.int .i64 n, .slice A bs.length c, .slice A2 ps.length c2] t)) W.heap.size b o n A c bs b2 o2 A2 c2 ps := by
  have hb : Below W.heap.size W (W.alloc (.cells #[.int .i64 n, .slice A bs.length c, .slice A2 ps.length c2] t)) := by go_grown
  exact ⟨by simp, by simp [go_sem], by simp [go_sem], by simp [go_sem], (hrd.below hb).more hb.size, (hrp.below hb).more hb.size⟩
/-- .. of the call's own. -/
structure PD (w0 W : World) (X b o : Nat) (n : Int) (A : Option Addr) (c : Nat) (bs : List Bd) (b2 o2 : Nat) (A2 : Option Addr) (c2 : Nat) (ps : List Pr) : Prop where
  bel : Below w0.heap.size w0 W
  lo : w0.heap.size ≤ X
  r : RD W X b o n A c bs b2 o2 A2 c2 ps
theorem PD.below (h : PD w0 W X b o n A c bs b2 o2 A2 c2 ps) (hb : Below W.heap.size W W') : PD w0 W' X b o n A c bs b2 o2 A2 c2 ps := ⟨bthen h.bel hb, h.lo, h.r.below hb⟩
theorem PD.alloc (h : PD w0 W X b o n A c bs b2 o2 A2 c2 ps) (x : Obj) : PD w0 (W.alloc x) X b o n A c bs b2 o2 A2 c2 ps := h.below (by go_grown)
theorem PD.drew (h : PD w0 W X b o n A c bs b2 o2 A2 c2 ps) : PD w0 W.drew X b o n A c bs b2 o2 A2 c2 ps := h.below (by go_grown)
theorem pd_new {B : Nat} {t : TypeId} (hB : B ≤ w0.heap.size) (hrd : BdsR w0 B b o A bs) (hrp : CsR w0 B b2 o2 A2 ps.length (prCs ps)) : PD w0 (w0.alloc (.cells #[.int .i64 n, .slice A bs.length c, .slice A2 ps.length c2] t)) w0.heap.size b o n A c bs b2 o2 A2 c2 ps :=
  ⟨by go_grown, Nat.le_refl _, rd_new (hrd.more hB) (hrp.more hB)⟩
end

/-- Whether it is a deal. -/
noncomputable def dealOk (p : Pl) (ps : List Pr) : Bool := @decide (DealOk p ps) (Classical.propDecidable _)
theorem dealOk_iff {p : Pl} {ps : List Pr} : dealOk p ps = true ↔ DealOk p ps := by unfold dealOk; exact @decide_eq_true_iff _ (Classical.propDecidable _)
theorem dealOk_no {p : Pl} {ps : List Pr} (h : ¬ DealOk p ps) : dealOk p ps = false := by
  cases e : dealOk p ps
  · rfl
  · exact (h (dealOk_iff.1 e)).elim
end Go.Proofs.Ytledgblepdjjlaa
