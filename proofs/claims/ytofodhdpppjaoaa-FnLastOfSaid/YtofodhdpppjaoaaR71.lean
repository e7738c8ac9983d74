/-
  A part that is being made: its box, its row of kids, and the kids.
-/
import Derived.Test.YtofodhdpppjaoaaL81
namespace Go.Proofs.Ytofodhdpppjaoaa
set_option linter.unusedVariables false
set_option linter.unusedSimpArgs false
open Go Go.RowKit Pp

/-- A part of blocks that were made since. -/
abbrev NwR (B : Nat) (w : World) (a : Tm) (p : Nat) : Prop := PartAt w (fun b => B ≤ b ∧ b < w.heap.size) a p
theorem NwR.next {B : Nat} {w w' : World} {a : Tm} {p : Nat} (h : NwR B w a p) (hb : Below w.heap.size w w') : NwR B w' a p :=
  h.kept (fun _ h => ⟨h.1, Nat.lt_of_lt_of_le h.2 hb.size⟩) (fun b o v h hv => (hb.cell (p := ⟨b, o, none⟩) h.2).trans hv)
theorem NwR.less {B B' : Nat} {w : World} {a : Tm} {p : Nat} (h : NwR B w a p) (hB : B' ≤ B) : NwR B' w a p := h.mono (fun _ h => ⟨Nat.le_trans hB h.1, h.2⟩)
theorem NwR.ptr {B : Nat} {w : World} {a : Tm} {p : Nat} (h : NwR B w a p) : PtR w w.heap.size a p := h.mono (fun _ h => h.2)
structure OKP (w0 wr : World) (X : Nat) (x : Mk) (A : Option Addr) (c : Nat) (ks : List Tm) (qs : List Nat) : Prop where
  bel : Below w0.heap.size w0 wr
  lo : w0.heap.size ≤ X
  ex : X < wr.heap.size
  c0 : wr.cell? ⟨X, 0, none⟩ = some (.int .i64 x.k)
  c1 : wr.cell? ⟨X, 1, none⟩ = some (.int .i64 x.l)
  c2 : wr.cell? ⟨X, 2, none⟩ = some (.int .i64 x.h)
  c3 : wr.cell? ⟨X, 3, none⟩ = some (.slice A qs.length c)
  cf : ∀ i, wr.frozen? ⟨X, i, none⟩ = false
  own : wr.ownsRow w0.heap.size 60 1 (.slice A qs.length c) qs.length (qs.map ptr)
  ne : (Value.slice A qs.length c).ownBlock ≠ some X
  len : qs.length = ks.length
  kid : ∀ (j : Nat) (k : Tm), ks[j]? = some k → ∃ q, qs[j]? = some q ∧ PartAt wr (fun b => (w0.heap.size ≤ b ∧ b < wr.heap.size) ∧ (Value.slice A qs.length c).ownBlock ≠ some b ∧ b ≠ X) k q
section
variable {w0 wr : World} {X : Nat} {x : Mk} {A : Option Addr} {c : Nat} {ks : List Tm} {qs : List Nat}
theorem OKP.below (h : OKP w0 wr X x A c ks qs) {w' : World} (hb : Below wr.heap.size wr w') : OKP w0 w' X x A c ks qs :=
  ⟨bthen h.bel hb, h.lo, Nat.lt_of_lt_of_le h.ex hb.size, ((bcell hb).1 _ _ h.ex).trans h.c0, ((bcell hb).1 _ _ h.ex).trans h.c1, ((bcell hb).1 _ _ h.ex).trans h.c2, ((bcell hb).1 _ _ h.ex).trans h.c3,
    fun i => ((bcell hb).2 _ _ h.ex).trans (h.cf i), own_below h.own hb, h.ne, h.len, fun j k hj => by
      obtain ⟨q, h1, h2⟩ := h.kid j k hj
      exact ⟨q, h1, h2.kept (fun b hx => ⟨⟨hx.1.1, Nat.lt_of_lt_of_le hx.1.2 hb.size⟩, hx.2⟩) (fun b o v hx hv => (hb.cell (p := ⟨b, o, none⟩) hx.1.2).trans hv)⟩⟩
/-- Its box is new, without kids. -/
theorem okp_new {w0 W : World} (hW : Below w0.heap.size w0 W) (x : Mk) (t : TypeId) : OKP w0 (W.alloc (.cells #[.int .i64 x.k, .int .i64 x.l, .int .i64 x.h, .slice none 0 0] t)) W.heap.size x none 0 [] [] := by
  have hb : Below W.heap.size W (W.alloc (.cells #[.int .i64 x.k, .int .i64 x.l, .int .i64 x.h, .slice none 0 0] t)) := by go_grown
  exact ⟨bthen hW hb, hW.size, by simp, by simp [go_sem], by simp [go_sem], by simp [go_sem], by simp [go_sem], fun i => by simp [go_sem], World.ownsRow_nil _ _ _ _, by simp [Value.ownBlock], rfl, fun j k h => by simp at h⟩
/-- What lies on the row: a kid more. -/
theorem OKP.push {w2 w3 w4 : World} {A5 : Option Addr} {c5 : Nat} {k : Tm} {q : Nat} (h : OKP w0 wr X x A c ks qs) (hb : Below wr.heap.size wr w2) (hk : NwR wr.heap.size w2 k q)
    (hb3 : Below w2.heap.size w2 w3) (hg : w3.grownBy w4 (Value.slice A qs.length c).ownBlock)
    (hown : w4.ownsRow w0.heap.size 60 1 (.slice A5 (qs.length + 1) c5) (qs.length + 1) (qs.map ptr ++ [ptr q]))
    (hat : (Value.slice A5 (qs.length + 1) c5).ownBlock = (Value.slice A qs.length c).ownBlock ∨ (Value.slice A5 (qs.length + 1) c5).ownBlock = some w3.heap.size) :
    (w4.cell? ⟨X, 3, none⟩ = some (.slice A qs.length c) ∧ w4.frozen? ⟨X, 3, none⟩ = false) ∧ OKP w0 (w4.setCell ⟨X, 3, none⟩ (.slice A5 (qs.length + 1) c5)) X x A5 c5 (ks ++ [k]) (qs ++ [q]) := by
  have hlo : ∀ b, (Value.slice A qs.length c).ownBlock = some b → w0.heap.size ≤ b ∧ b < wr.heap.size := fun b hb => h.own.lt b hb
  have s1 := hb.size
  have s2 := hb3.size
  have s3 := hg.size
  have s0 := h.bel.size
  have sX := h.ex
  have neX : some X ≠ (Value.slice A qs.length c).ownBlock := fun e => h.ne e.symm
  have hb23 : Below wr.heap.size wr w3 := bthen hb hb3
  have cX : ∀ i v, wr.cell? ⟨X, i, none⟩ = some v → w4.cell? ⟨X, i, none⟩ = some v := fun i v hv => hg.cell (a := ⟨X, i, none⟩) ((hb23.cell (p := ⟨X, i, none⟩) h.ex).trans hv) neX
  have fX : ∀ i, w4.frozen? ⟨X, i, none⟩ = false := fun i => (hg.frozen_far ⟨X, i, none⟩ (by show X < _; omega) neX).trans (((bcell hb23).2 _ _ h.ex).trans (h.cf i))
  have hbel3 : Below w0.heap.size w0 w3 := bthen h.bel hb23
  have hbel4 : Below w0.heap.size w0 w4 := hbel3.grown hg (by omega) (fun b hb => (hlo b hb).1)
  have newX : (Value.slice A5 (qs.length + 1) c5).ownBlock ≠ some X := fun e => by
    rcases hat with e1 | e1
    · exact h.ne (e1 ▸ e)
    · rw [e1] at e; injection e with e; omega
  have hl : (qs ++ [q]).length = qs.length + 1 := by simp
  have keep : ∀ b o v, b < w3.heap.size → (Value.slice A qs.length c).ownBlock ≠ some b → b ≠ X → w3.cell? ⟨b, o, none⟩ = some v → (w4.setCell ⟨X, 3, none⟩ (.slice A5 (qs.length + 1) c5)).cell? ⟨b, o, none⟩ = some v := fun b o v h1 h2 h3 hv => by
    rw [set_other (by exact fun e => h3 e.symm)]
    exact hg.cell (a := ⟨b, o, none⟩) hv (fun e => h2 e.symm)
  have keepS : ∀ b, w0.heap.size ≤ b → b < w3.heap.size → (Value.slice A qs.length c).ownBlock ≠ some b → b ≠ X → (w0.heap.size ≤ b ∧ b < (w4.setCell ⟨X, 3, none⟩ (.slice A5 (qs.length + 1) c5)).heap.size) ∧ (Value.slice A5 (qs ++ [q]).length c5).ownBlock ≠ some b ∧ b ≠ X := fun b h0 h1 h2 h3 => by
    refine ⟨⟨h0, by rw [World.size_setCell]; omega⟩, fun e => ?_, h3⟩
    rw [hl] at e
    rcases hat with e1 | e1
    · exact h2 (e1 ▸ e)
    · rw [e1] at e; injection e with e; omega
  refine ⟨⟨cX 3 _ h.c3, fX 3⟩, ⟨hbel4.setCell h.lo _, h.lo, by rw [World.size_setCell]; omega, ?_, ?_, ?_, ?_, fun i => by rw [← fX i]; simp, ?_, by rw [hl]; exact newX, by simp [h.len], fun j k' hj => ?_⟩⟩
  · rw [World.cell?_setCell_other _ _ _ _ (by simp)]; exact cX 0 _ h.c0
  · rw [World.cell?_setCell_other _ _ _ _ (by simp)]; exact cX 1 _ h.c1
  · rw [World.cell?_setCell_other _ _ _ _ (by simp)]; exact cX 2 _ h.c2
  · rw [hl]; exact World.cell?_setCell_same _ _ _ (cX 3 _ h.c3)
  · rw [hl, List.map_append]; exact own_set hown newX _
  · have hkl := h.len
    by_cases hjn : j < ks.length
    · rw [List.getElem?_append_left hjn] at hj
      obtain ⟨q', h1, h2⟩ := h.kid j k' hj
      refine ⟨q', by rw [List.getElem?_append_left (by omega)]; exact h1, h2.kept (fun b hx => keepS b hx.1.1 (by omega) hx.2.1 hx.2.2) (fun b o v hx hv => keep b o v (by omega) hx.2.1 hx.2.2 ((hb23.cell (p := ⟨b, o, none⟩) hx.1.2).trans hv))⟩
    · have hjk : j = ks.length := by
        have := (List.getElem?_eq_some_iff.1 hj).1
        simp at this; omega
      subst hjk
      rw [List.getElem?_append_right (Nat.le_refl _), Nat.sub_self] at hj
      simp at hj
      subst hj
      refine ⟨q, by rw [List.getElem?_append_right (by omega), hkl, Nat.sub_self]; rfl, hk.kept (fun b hx => keepS b (by omega) (by omega) (fun e => by have := hlo b e; omega) (by omega)) (fun b o v hx hv => keep b o v (by omega) (fun e => by have := hlo b e; omega) (by omega) ((hb3.cell (p := ⟨b, o, none⟩) hx.2).trans hv))⟩
/-- The part is made. -/
theorem OKP.fin (h : OKP w0 wr X x A c ks qs) {a : Tm} (hm : a.mark = x) (hk : a.kids = ks) : NwR w0.heap.size wr a X := by
  obtain ⟨A3', g3, c3', hv3, g1, g2, g3c⟩ := own_form h.own
  injection hv3 with e1 e2 e3
  subst e1; subst e3
  have hl : a.kids.length = qs.length := by rw [hk, h.len]
  refine PartAt.made (A := A) (c := c) (b := g3) (o := 0) ?_ (fun h0 => ⟨g1 (by omega), ?_⟩) (fun i k hi => ?_)
  · rw [hm, hl]
    exact ⟨⟨h.lo, h.ex⟩, h.c0, h.c1, h.c2, h.c3⟩
  · exact g2 (by omega)
  · rw [hk] at hi
    obtain ⟨q, h1, h2⟩ := h.kid i k hi
    have hi2 : i < qs.length := (List.getElem?_eq_some_iff.1 h1).1
    exact ⟨q, by rw [Nat.zero_add]; exact g3c i _ (by rw [List.getElem?_map, h1]; rfl), h2.mono (fun b hx => hx.1)⟩
end
end Go.Proofs.Ytofodhdpppjaoaa
