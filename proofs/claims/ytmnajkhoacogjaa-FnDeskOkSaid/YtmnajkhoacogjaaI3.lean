/-
  Appends and boxes: small rules.
  A plan in a box of the call's own.
  Rows of cells that read as a list of values (structs of one-cell fields, flat).
-/
import Derived.Test.YtmnajkhoacogjaaBase
namespace Go.Proofs.Ytmnajkhoacogjaa
set_option linter.unusedVariables false
set_option linter.unusedSimpArgs false
open Go.RowKit Pp

theorem own_empty {w : World} {base g : Nat} {e : TypeId} {size : Nat} (h : w.heap[g]? = some (.cells #[] e (0, 0))) (hb : base ≤ g) : w.ownsRow base e size (.slice (some ⟨g, 0, none⟩) 0 0) 0 [] :=
  ⟨by simp, .inr ⟨g, 0, #[], rfl, hb, h, Nat.le_refl _, by unfold maxLen; omega, by simp, by simp⟩⟩
theorem at_new {w : World} {o : Obj} {k : Nat} (h : w.heap.size = k) : (w.alloc o).heap[k]? = some o := by subst h; unfold World.alloc; simp
theorem at_old {w : World} {o o' : Obj} {b : Nat} (h : w.heap[b]? = some o) : (w.alloc o').heap[b]? = some o := by
  have hb : b < w.heap.size := by
    rcases Nat.lt_or_ge b w.heap.size with h' | h'
    · exact h'
    · rw [Array.getElem?_eq_none h'] at h; cases h
  unfold World.alloc
  show (w.heap.push o')[b]? = _
  rw [Array.getElem?_push_lt hb, ← Array.getElem?_eq_getElem hb]; exact h
theorem set_other {w : World} {a b : Addr} {v : Value} (h : a.block ≠ b.block) : (w.setCell a v).cell? b = w.cell? b := World.cell?_setCell_other (h := fun e => h (congrArg Addr.block e)) ..
theorem app_rules {W w2 : World} {K : Nat} (hg : W.grownBy w2 (some K)) : (∀ b o, b < W.heap.size → b ≠ K → w2.cell? ⟨b, o, none⟩ = W.cell? ⟨b, o, none⟩) ∧ (∀ b o, b < W.heap.size → b ≠ K → w2.frozen? ⟨b, o, none⟩ = W.frozen? ⟨b, o, none⟩) ∧ (∀ b, b < W.heap.size → b ≠ K → w2.heap[b]? = W.heap[b]?) ∧ (∀ (B : Nat) (w0 : World), Below B w0 W → B ≤ W.heap.size → B ≤ K → Below B w0 w2) :=
  ⟨fun b o h hne => hg.cell_far ⟨b, o, none⟩ h (by simpa using hne), fun b o h hne => hg.frozen_far ⟨b, o, none⟩ h (by simpa using hne), fun b h hne => hg.block b h (by simpa using hne), fun B w0 h hB hK => h.grown hg hB (fun k hk => by injection hk with hk; omega)⟩
/-- Behind a second append onto what a first one made: S, K: how many blocks there were ahead of the first one, and the block that it may have written. -/
theorem app_rules2 {w2 W w3 : World} {base : Nat} {e : TypeId} {size n : Nat} {v : Value} {xs : List Value} {K S : Nat} (hat : v.ownBlock = some K ∨ v.ownBlock = some S) (hown : w2.ownsRow base e size v n xs) (hg : W.grownBy w3 v.ownBlock) (hs : w2.heap.size ≤ W.heap.size) (hS : S ≤ w2.heap.size) :
    (∀ b o, b < S → b ≠ K → w3.cell? ⟨b, o, none⟩ = W.cell? ⟨b, o, none⟩) ∧ (∀ b o, b < S → b ≠ K → w3.frozen? ⟨b, o, none⟩ = W.frozen? ⟨b, o, none⟩) ∧
    (∀ b o, w2.heap.size ≤ b → b < W.heap.size → w3.cell? ⟨b, o, none⟩ = W.cell? ⟨b, o, none⟩) ∧ (∀ b o, w2.heap.size ≤ b → b < W.heap.size → w3.frozen? ⟨b, o, none⟩ = W.frozen? ⟨b, o, none⟩) ∧
    (∀ b, b < S → b ≠ K → v.ownBlock ≠ some b) ∧ (∀ b, w2.heap.size ≤ b → v.ownBlock ≠ some b) := by
  have k1 : ∀ b, b < S → b ≠ K → v.ownBlock ≠ some b := fun b h1 h2 h => by
    rcases hat with hat | hat <;> rw [hat] at h <;> injection h with h <;> omega
  have k2 : ∀ b, w2.heap.size ≤ b → v.ownBlock ≠ some b := fun b h1 h => by have := hown.lt b h; omega
  exact ⟨fun b o h1 h2 => hg.cell_far ⟨b, o, none⟩ (by show b < _; omega) (fun e => k1 b h1 h2 e.symm), fun b o h1 h2 => hg.frozen_far ⟨b, o, none⟩ (by show b < _; omega) (fun e => k1 b h1 h2 e.symm),
    fun b o h1 h2 => hg.cell_far ⟨b, o, none⟩ h2 (fun e => k2 b h1 e.symm), fun b o h1 h2 => hg.frozen_far ⟨b, o, none⟩ h2 (fun e => k2 b h1 e.symm), k1, k2⟩
theorem blk_bd (w : World) (t : TypeId) (b : Bd) {W : World} (g B : Nat) (hg : g = w.heap.size) (h : Below (w.alloc (.cells #[.int .i64 b.f, .int .i64 b.t, .int .i64 b.m] t)).heap.size (w.alloc (.cells #[.int .i64 b.f, .int .i64 b.t, .int .i64 b.m] t)) W) (hB : g < B) :
    BdsR W B g 0 (some ⟨g, 0, none⟩) [b] := by
  subst hg
  have k : ∀ i, W.cell? ⟨w.heap.size, i, none⟩ = #[Value.int .i64 b.f, .int .i64 b.t, .int .i64 b.m][i]? := fun i => by
    rw [h.cell (by simp)]; simp [go_sem]
  refine ⟨fun _ => rfl, fun _ => hB, ?_, ?_, ?_⟩ <;>
  · intro j x hx
    cases j with
    | zero => simp at hx; subst hx; rw [k]; rfl
    | succ j => simp at hx
theorem blk_bd2 (w : World) (t : TypeId) (b c : Bd) {W : World} (g B : Nat) (hg : g = w.heap.size)
    (h : Below (w.alloc (.cells #[.int .i64 b.f, .int .i64 b.t, .int .i64 b.m, .int .i64 c.f, .int .i64 c.t, .int .i64 c.m] t)).heap.size (w.alloc (.cells #[.int .i64 b.f, .int .i64 b.t, .int .i64 b.m, .int .i64 c.f, .int .i64 c.t, .int .i64 c.m] t)) W) (hB : g < B) :
    BdsR W B g 0 (some ⟨g, 0, none⟩) [b, c] := by
  subst hg
  have k : ∀ i, W.cell? ⟨w.heap.size, i, none⟩ = #[Value.int .i64 b.f, .int .i64 b.t, .int .i64 b.m, .int .i64 c.f, .int .i64 c.t, .int .i64 c.m][i]? := fun i => by
    rw [h.cell (by simp)]; simp [go_sem]
  refine ⟨fun _ => rfl, fun _ => hB, ?_, ?_, ?_⟩ <;>
  · intro j x hx
    match j with
    | 0 => simp at hx; subst hx; rw [k]; rfl
    | 1 => simp at hx; subst hx; rw [k]; rfl
    | j + 2 => simp at hx

/-- A plan in a box of the call's own, its bounds anywhere. -/
structure PO (w0 W : World) (X b o : Nat) (n : Int) (A : Option Addr) (c : Nat) (bs : List Bd) : Prop where
  bel : Below w0.heap.size w0 W
  lo : w0.heap.size ≤ X
  ex : X < W.heap.size
  c0 : W.cell? ⟨X, 0, none⟩ = some (.int .i64 n)
  c1 : W.cell? ⟨X, 1, none⟩ = some (.slice A bs.length c)
  rd : BdsR W W.heap.size b o A bs
theorem PO.below {w0 W W' : World} {X b o : Nat} {n : Int} {A : Option Addr} {c : Nat} {bs : List Bd} (h : PO w0 W X b o n A c bs) (hb : Below W.heap.size W W') : PO w0 W' X b o n A c bs :=
  ⟨bthen h.bel hb, h.lo, Nat.lt_of_lt_of_le h.ex hb.size, ((bcell hb).1 _ _ h.ex).trans h.c0, ((bcell hb).1 _ _ h.ex).trans h.c1, (h.rd.below hb).more hb.size⟩
theorem PO.alloc {w0 W : World} {X b o : Nat} {n : Int} {A : Option Addr} {c : Nat} {bs : List Bd} (h : PO w0 W X b o n A c bs) (x : Obj) : PO w0 (W.alloc x) X b o n A c bs := h.below (by go_grown)
theorem PO.drew {w0 W : World} {X b o : Nat} {n : Int} {A : Option Addr} {c : Nat} {bs : List Bd} (h : PO w0 W X b o n A c bs) : PO w0 W.drew X b o n A c bs := h.below (by go_grown)
theorem po_new {w0 W : World} {b o : Nat} {n : Int} {A : Option Addr} {c : Nat} {bs : List Bd} {t : TypeId} (hW : Below w0.heap.size w0 W) (hrd : BdsR W W.heap.size b o A bs) : PO w0 (W.alloc (.cells #[.int .i64 n, .slice A bs.length c] t)) W.heap.size b o n A c bs := by
  have hb : Below W.heap.size W (W.alloc (.cells #[.int .i64 n, .slice A bs.length c] t)) := by go_grown
  exact ⟨bthen hW hb, hW.size, by simp, by simp [go_sem], by simp [go_sem], (hrd.below hb).more hb.size⟩

/-- A slice of n elements whose cells read as a list. -/
structure CsR (w : World) (B b o : Nat) (A : Option Addr) (n : Nat) (cs : List Value) : Prop where
  addr : 0 < n → A = some ⟨b, o, none⟩
  lt : 0 < n → b < B
  cell : ∀ j u, cs[j]? = some u → w.cell? ⟨b, o + j, none⟩ = some u
  none : n = 0 → cs = []

theorem CsR.pos {w : World} {B b o n : Nat} {A : Option Addr} {cs : List Value} (h : CsR w B b o A n cs) {j : Nat} {u : Value} (hu : cs[j]? = some u) : 0 < n := by
  rcases Nat.eq_zero_or_pos n with h0 | h0
  · rw [h.none h0] at hu; simp at hu
  · exact h0
theorem CsR.below {w w' : World} {B b o n : Nat} {A : Option Addr} {cs : List Value} (h : CsR w B b o A n cs) (hb : Below B w w') : CsR w' B b o A n cs :=
  ⟨h.addr, h.lt, fun j u hu => (hb.cell (p := ⟨b, o + j, Option.none⟩) (h.lt (h.pos hu))).trans (h.cell j u hu), h.none⟩
theorem CsR.more {w : World} {B B' b o n : Nat} {A : Option Addr} {cs : List Value} (h : CsR w B b o A n cs) (hB : B ≤ B') : CsR w B' b o A n cs :=
  ⟨h.addr, fun hx => Nat.lt_of_lt_of_le (h.lt hx) hB, h.cell, h.none⟩
theorem CsR.grown {w w' : World} {B b o n : Nat} {A : Option Addr} {cs : List Value} {row : Option Nat} (h : CsR w B b o A n cs) (hg : w.grownBy w' row) (hb : 0 < n → some b ≠ row) : CsR w' B b o A n cs :=
  ⟨h.addr, h.lt, fun j u hu => hg.cell (h.cell j u hu) (hb (h.pos hu)), h.none⟩
theorem CsR.nil (w : World) (B : Nat) (A : Option Addr) : CsR w B 0 0 A 0 [] := ⟨by simp, by simp, by simp, fun _ => rfl⟩
theorem CsR.at {w : World} {B b o n : Nat} {A : Option Addr} {cs : List Value} (h : CsR w B b o A n cs) {j : Nat} {u : Value} (m i : Nat) (e : j = m + i) (hu : cs[j]? = some u) : w.cell? ⟨b, o + m + i, Option.none⟩ = some u := by
  have := h.cell j u hu; rwa [e, ← Nat.add_assoc] at this
theorem own_csR {w : World} {base : Nat} {e : TypeId} {size : Nat} {A : Option Addr} {c n : Nat} {cs : List Value} (h : w.ownsRow base e size (.slice A n c) n cs) : ∃ g, CsR w w.heap.size g 0 A n cs := by
  obtain ⟨A2, g, c2, hv, h1, h2, h3⟩ := own_form h
  injection hv with e1 _ e3
  subst e1
  exact ⟨g, h1, fun hx => (h2 hx).2, fun j u hu => by rw [Nat.zero_add]; exact h3 j u hu, fun h0 => List.eq_nil_of_length_eq_zero (by rw [h.1, h0, Nat.zero_mul])⟩
theorem CsR.ints {w : World} {B b o : Nat} {A : Option Addr} {xs : List Int} (h : IntsR w B b o A xs) : CsR w B b o A xs.length (xs.map (Value.int .i64)) :=
  ⟨h.addr, h.lt, fun j u hu => by
    have hj : j < xs.length := by have := (List.getElem?_eq_some_iff.1 hu).1; simpa using this
    rw [h.cell j hj, ← hu]; simp [hj], fun h0 => by rw [List.eq_nil_of_length_eq_zero h0]; rfl⟩
theorem own_IntsR {w : World} {base : Nat} {A : Option Addr} {c : Nat} {xs : List Int} (h : OwnI base w (.slice A xs.length c) xs) : ∃ g, IntsR w w.heap.size g 0 A xs := by
  obtain ⟨A2, g, c2, hv, hr⟩ := h.reads
  injection hv with e1 _ e3
  subst e1
  exact ⟨g, hr⟩

/-- A row that is filled up to m. -/
def rowC (cs : List Value) (m : Nat) : Nat → Value := fun j => if j < m then cs[j]?.getD default else .int .i64 0
theorem rowC_none (cs : List Value) (j : Nat) : rowC cs 0 j = .int .i64 0 := by unfold rowC; rw [if_neg (by omega)]
theorem rowC_one {cs : List Value} {m : Nat} {v : Value} (h : cs[m]? = some v) (j : Nat) : (if j = m then v else rowC cs m j) = rowC cs (m + 1) j := by
  unfold rowC
  by_cases e : j = m
  · subst e; rw [if_pos rfl, if_pos (by omega), h]; rfl
  · rw [if_neg e]
    by_cases h2 : j < m
    · rw [if_pos h2, if_pos (by omega)]
    · rw [if_neg h2, if_neg (by omega)]
theorem rowC_full {cs : List Value} {m : Nat} (hl : cs.length = m) (j : Nat) (hj : j < m) : cs[j]? = some (rowC cs m j) := by
  unfold rowC
  rw [if_pos hj, List.getElem?_eq_getElem (by omega)]; rfl

/-- What marks a row of cells. -/
def markI (k : Int) (n : Nat) : List Int := (List.range n).map fun (i : Nat) => k + (i : Int)
theorem markI_length (k : Int) (n : Nat) : (markI k n).length = n := by simp [markI]
theorem markI_get (k : Int) (n i : Nat) (h : i < n) : (markI k n)[i]? = some (k + i) := by simp [markI, h]
theorem markI_getD (k : Int) (n i : Nat) (h : i < n) : (markI k n).getD i 0 = k + i := by rw [List.getD_eq_getElem?_getD, markI_get k n i h]; rfl
end Go.Proofs.Ytmnajkhoacogjaa
