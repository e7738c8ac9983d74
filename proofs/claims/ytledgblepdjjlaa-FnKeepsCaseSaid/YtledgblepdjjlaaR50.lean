/-
  Cases in memory: rows of rows of bounds, a case in a box.
-/
import Derived.Test.YtledgblepdjjlaaI3
import Derived.Test.YtledgblepdjjlaaP24
namespace Go.Proofs.Ytledgblepdjjlaa
set_option linter.unusedVariables false
set_option linter.unusedSimpArgs false
open Go.RowKit Pp

/-- Rows of bounds that are read. -/
structure ChR (w : World) (B b o : Nat) (A : Option Addr) (cs : List (List Bd)) : Prop where
  addr : 0 < cs.length → A = some ⟨b, o, none⟩
  lt : 0 < cs.length → b < B
  row : ∀ (j : Nat) (l : List Bd), cs[j]? = some l → ∃ (A' : Option Addr) (b' o' c' : Nat), w.cell? ⟨b, o + j, none⟩ = some (.slice A' l.length c') ∧ BdsR w B b' o' A' l
theorem ChR.below {w w' : World} {B b o : Nat} {A : Option Addr} {cs : List (List Bd)} (h : ChR w B b o A cs) (hb : Below B w w') : ChR w' B b o A cs :=
  ⟨h.addr, h.lt, fun j l hl => by
    obtain ⟨A', b', o', c', h1, h2⟩ := h.row j l hl
    exact ⟨A', b', o', c', (hb.cell (p := ⟨b, _, none⟩) (h.lt (by have := (List.getElem?_eq_some_iff.1 hl).1; omega))).trans h1, h2.below hb⟩⟩
theorem ChR.more {w : World} {B B' b o : Nat} {A : Option Addr} {cs : List (List Bd)} (h : ChR w B b o A cs) (hB : B ≤ B') : ChR w B' b o A cs :=
  ⟨h.addr, fun hx => Nat.lt_of_lt_of_le (h.lt hx) hB, fun j l hl => by
    obtain ⟨A', b', o', c', h1, h2⟩ := h.row j l hl
    exact ⟨A', b', o', c', h1, h2.more hB⟩⟩
theorem ChR.take {w : World} {B b o : Nat} {A : Option Addr} {cs : List (List Bd)} (h : ChR w B b o A cs) (k : Nat) : ChR w B b o A (cs.take k) :=
  ⟨fun hx => h.addr (by rw [List.length_take] at hx; omega), fun hx => h.lt (by rw [List.length_take] at hx; omega), fun j l hl => h.row j l (by
    rw [List.getElem?_take] at hl
    split at hl
    · exact hl
    · cases hl)⟩
theorem ChR.nil (w : World) (B : Nat) (A : Option Addr) : ChR w B 0 0 A [] := ⟨by simp, by simp, by simp⟩

section
variable {w0 W W' : World} {X b o b2 o2 : Nat} {n : Int} {A A2 : Option Addr} {c c2 : Nat} {bs : List Bd} {cs : List (List Bd)} {row : Option Nat}
/-- A case in a box, that is read. -/
structure RC (W : World) (X b o : Nat) (n : Int) (A : Option Addr) (c : Nat) (bs : List Bd) (b2 o2 : Nat) (A2 : Option Addr) (c2 : Nat) (cs : List (List Bd)) : Prop where
  ex : X < W.heap.size
  c0 : W.cell? ⟨X, 0, none⟩ = some (.int .i64 n)
  c1 : W.cell? ⟨X, 1, none⟩ = some (.slice A bs.length c)
  c2 : W.cell? ⟨X, 2, none⟩ = some (.slice A2 cs.length c2)
  rd : BdsR W W.heap.size b o A bs
  rc : ChR W W.heap.size b2 o2 A2 cs
theorem RC.below (h : RC W X b o n A c bs b2 o2 A2 c2 cs) (hb : Below W.heap.size W W') : RC W' X b o n A c bs b2 o2 A2 c2 cs :=
  ⟨Nat.lt_of_lt_of_le h.ex hb.size, ((bcell hb).1 _ _ h.ex).trans h.c0, ((bcell hb).1 _ _ h.ex).trans h.c1, ((bcell hb).1 _ _ h.ex).trans h.c2, (h.rd.below hb).more hb.size, (h.rc.below hb).more hb.size⟩
theorem RC.alloc (h : RC W X b o n A c bs b2 o2 A2 c2 cs) (x : Obj) : RC (W.alloc x) X b o n A c bs b2 o2 A2 c2 cs := h.below (by go_grown)
theorem RC.drew (h : RC W X b o n A c bs b2 o2 A2 c2 cs) : RC W.drew X b o n A c bs b2 o2 A2 c2 cs := h.below (by go_grown)
theorem rc_new {t : TypeId} (hrd : BdsR W W.heap.size b o A bs) (hrc : ChR W W.heap.size b2 o2 A2 cs) : RC (W.alloc (.cells #[.int .i64 n, .slice A bs.length c, .slice A2 cs.length c2] t)) W.heap.size b o n A c bs b2 o2 A2 c2 cs := by
  have hb : Below W.heap.size W (W.alloc (.cells #[.int .i64 n, .slice A bs.length c, .slice A2 cs.length c2] t)) := by go_grown
  exact ⟨by simp, by simp [go_sem], by simp [go_sem], by simp [go_sem], (hrd.below hb).more hb.size, (hrc.below hb).more hb.size⟩
/-- .. of the call's own. -/
structure CC (w0 W : World) (X b o : Nat) (n : Int) (A : Option Addr) (c : Nat) (bs : List Bd) (b2 o2 : Nat) (A2 : Option Addr) (c2 : Nat) (cs : List (List Bd)) : Prop where
  bel : Below w0.heap.size w0 W
  lo : w0.heap.size ≤ X
  r : RC W X b o n A c bs b2 o2 A2 c2 cs
theorem CC.below (h : CC w0 W X b o n A c bs b2 o2 A2 c2 cs) (hb : Below W.heap.size W W') : CC w0 W' X b o n A c bs b2 o2 A2 c2 cs := ⟨bthen h.bel hb, h.lo, h.r.below hb⟩
theorem CC.alloc (h : CC w0 W X b o n A c bs b2 o2 A2 c2 cs) (x : Obj) : CC w0 (W.alloc x) X b o n A c bs b2 o2 A2 c2 cs := h.below (by go_grown)
theorem CC.drew (h : CC w0 W X b o n A c bs b2 o2 A2 c2 cs) : CC w0 W.drew X b o n A c bs b2 o2 A2 c2 cs := h.below (by go_grown)
theorem cc_new {B : Nat} {t : TypeId} (hB : B ≤ w0.heap.size) (hrd : BdsR w0 B b o A bs) (hrc : ChR w0 B b2 o2 A2 cs) : CC w0 (w0.alloc (.cells #[.int .i64 n, .slice A bs.length c, .slice A2 cs.length c2] t)) w0.heap.size b o n A c bs b2 o2 A2 c2 cs :=
  ⟨by go_grown, Nat.le_refl _, rc_new (hrd.more hB) (hrc.more hB)⟩
end
end Go.Proofs.Ytledgblepdjjlaa
