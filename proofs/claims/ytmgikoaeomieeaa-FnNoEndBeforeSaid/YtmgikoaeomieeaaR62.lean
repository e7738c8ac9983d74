/-
  A drawn project in its box.
-/
import Derived.Test.YtmgikoaeomieeaaD2
import Derived.Test.YtmgikoaeomieeaaI3
namespace Go.Proofs.Ytmgikoaeomieeaa
set_option linter.unusedVariables false
set_option linter.unusedSimpArgs false
open Go.RowKit Pp

/-- A project that is drawn, in a box P behind a world w0; the reader is g. -/
structure PR (w0 wr : World) (g P : Nat) (K : Int) (A1 : Option Addr) (c1 : Nat) (L : List Int) (A2 : Option Addr) (c2 : Nat) (F : List Int) : Prop where
  rd : RdO wr g K
  gr : w0.grownBy wr (some g)
  lt : g < w0.heap.size
  P0 : w0.heap.size ≤ P
  P1 : P < wr.heap.size
  f0 : wr.cell? ⟨P, 0, none⟩ = some (.slice A1 L.length c1)
  f1 : wr.cell? ⟨P, 1, none⟩ = some (.slice A2 F.length c2)
  cf : ∀ i, wr.frozen? ⟨P, i, none⟩ = false
  o1 : OwnI w0.heap.size wr (.slice A1 L.length c1) L
  o2 : OwnI w0.heap.size wr (.slice A2 F.length c2) F
  n1 : (Value.slice A1 L.length c1).ownBlock ≠ some P
  n2 : (Value.slice A2 F.length c2).ownBlock ≠ some P
  n12 : ∀ q, (Value.slice A1 L.length c1).ownBlock = some q → (Value.slice A2 F.length c2).ownBlock ≠ some q
section
variable {w0 wr w' : World} {g P : Nat} {K K' : Int} {A1 A2 A' : Option Addr} {c1 c2 c' : Nat} {L F L' : List Int}
theorem PR.more (h : PR w0 wr g P K A1 c1 L A2 c2 F) (hK : K ≤ K') : PR w0 wr g P K' A1 c1 L A2 c2 F := { h with rd := h.rd.more hK }
theorem PR.pick (h : PR w0 wr g P K A1 c1 L A2 c2 F) (hR : RdO w' g K') (hg : wr.grownBy w' (some g)) : PR w0 w' g P K' A1 c1 L A2 c2 F := by
  have h0 := h.P0; have h1 := h.P1; have hl := h.lt
  exact ⟨hR, gr_pick h.gr hg, h.lt, h.P0, Nat.lt_of_lt_of_le h1 hg.size, far_cell hg h.f0 (by omega), far_cell hg h.f1 (by omega), fun i => far_frozen hg (h.cf i) h1 (by omega), own_far h.o1 hg hl, own_far h.o2 hg hl, h.n1, h.n2, h.n12⟩
theorem PR.below (h : PR w0 wr g P K A1 c1 L A2 c2 F) (hb : Below wr.heap.size wr w') : PR w0 w' g P K A1 c1 L A2 c2 F :=
  ⟨h.rd.below hb, gr_below h.gr hb, h.lt, h.P0, Nat.lt_of_lt_of_le h.P1 hb.size, ((bcell hb).1 _ _ h.P1).trans h.f0, ((bcell hb).1 _ _ h.P1).trans h.f1, fun i => ((bcell hb).2 _ _ h.P1).trans (h.cf i), own_below h.o1 hb, own_below h.o2 hb, h.n1, h.n2, h.n12⟩
theorem PR.alloc (h : PR w0 wr g P K A1 c1 L A2 c2 F) (o : Obj) : PR w0 (wr.alloc o) g P K A1 c1 L A2 c2 F := h.below (by go_grown)
theorem PR.drew (h : PR w0 wr g P K A1 c1 L A2 c2 F) : PR w0 wr.drew g P K A1 c1 L A2 c2 F := h.below (by go_grown)
/-- Behind an append onto the first row: it is stored. -/
theorem PR.app1 (h : PR w0 wr g P K A1 c1 L A2 c2 F) (hg : wr.grownBy w' (Value.slice A1 L.length c1).ownBlock) (own : OwnI w0.heap.size w' (.slice A' L'.length c') L') (hat : (Value.slice A' L'.length c').ownBlock = (Value.slice A1 L.length c1).ownBlock ∨ (Value.slice A' L'.length c').ownBlock = some wr.heap.size) :
    w'.cell? ⟨P, 0, none⟩ = some (.slice A1 L.length c1) ∧ w'.cell? ⟨P, 1, none⟩ = some (.slice A2 F.length c2) ∧ w'.frozen? ⟨P, 0, none⟩ = false ∧ PR w0 (w'.setCell ⟨P, 0, none⟩ (.slice A' L'.length c')) g P K A' c' L' A2 c2 F := by
  have h0 := h.P0; have h1 := h.P1; have hl := h.lt
  have hq : ∀ k, (Value.slice A1 L.length c1).ownBlock = some k → w0.heap.size ≤ k := fun k hk => (h.o1.lt k hk).1
  have hne : some P ≠ (Value.slice A1 L.length c1).ownBlock := fun e => h.n1 e.symm
  have e0 : w'.cell? ⟨P, 0, none⟩ = some (.slice A1 L.length c1) := (hg.cell_far ⟨P, 0, none⟩ h1 hne).trans h.f0
  have e1 : w'.cell? ⟨P, 1, none⟩ = some (.slice A2 F.length c2) := (hg.cell_far ⟨P, 1, none⟩ h1 hne).trans h.f1
  have ef : ∀ i, w'.frozen? ⟨P, i, none⟩ = false := fun i => (hg.frozen_far ⟨P, i, none⟩ h1 hne).trans (h.cf i)
  have n1' : (Value.slice A' L'.length c').ownBlock ≠ some P := fun e => by
    rcases hat with e2 | e2
    · rw [e2] at e; exact h.n1 e
    · rw [e2] at e; injection e with e; omega
  have o2' : OwnI w0.heap.size w' (.slice A2 F.length c2) F := h.o2.kept hg (by
    cases ho : (Value.slice A1 L.length c1).ownBlock with
    | none => exact Classical.em _
    | some q => right; intro e; exact h.n12 q ho e)
  refine ⟨e0, e1, ef 0, ⟨(h.rd.other hg (fun k e => by have := hq k e; omega)).set _ (by dsimp only; omega) _, gr_set (gr_then h.gr hg (fun k e => .inl (hq k e))) _ (.inl (by dsimp only; omega)) _, h.lt, h.P0, by have := hg.size; simp; omega, World.cell?_setCell_same _ _ _ e0, ?_, fun i => ?_, own_set own n1' _, own_set o2' h.n2 _, n1', h.n2, fun q e e2 => ?_⟩⟩
  · rw [World.cell?_setCell_other _ _ _ _ (by simp)]; exact e1
  · rw [← ef i]; simp
  · rcases hat with e3 | e3
    · rw [e3] at e; exact h.n12 q e e2
    · rw [e3] at e; injection e with e; have := (h.o2.lt q e2).2; omega
theorem PR.app2 (h : PR w0 wr g P K A1 c1 L A2 c2 F) (hg : wr.grownBy w' (Value.slice A2 F.length c2).ownBlock) (own : OwnI w0.heap.size w' (.slice A' L'.length c') L') (hat : (Value.slice A' L'.length c').ownBlock = (Value.slice A2 F.length c2).ownBlock ∨ (Value.slice A' L'.length c').ownBlock = some wr.heap.size) :
    w'.cell? ⟨P, 0, none⟩ = some (.slice A1 L.length c1) ∧ w'.cell? ⟨P, 1, none⟩ = some (.slice A2 F.length c2) ∧ w'.frozen? ⟨P, 1, none⟩ = false ∧ PR w0 (w'.setCell ⟨P, 1, none⟩ (.slice A' L'.length c')) g P K A1 c1 L A' c' L' := by
  have h0 := h.P0; have h1 := h.P1; have hl := h.lt
  have hq : ∀ k, (Value.slice A2 F.length c2).ownBlock = some k → w0.heap.size ≤ k := fun k hk => (h.o2.lt k hk).1
  have hne : some P ≠ (Value.slice A2 F.length c2).ownBlock := fun e => h.n2 e.symm
  have e0 : w'.cell? ⟨P, 0, none⟩ = some (.slice A1 L.length c1) := (hg.cell_far ⟨P, 0, none⟩ h1 hne).trans h.f0
  have e1 : w'.cell? ⟨P, 1, none⟩ = some (.slice A2 F.length c2) := (hg.cell_far ⟨P, 1, none⟩ h1 hne).trans h.f1
  have ef : ∀ i, w'.frozen? ⟨P, i, none⟩ = false := fun i => (hg.frozen_far ⟨P, i, none⟩ h1 hne).trans (h.cf i)
  have n1' : (Value.slice A' L'.length c').ownBlock ≠ some P := fun e => by
    rcases hat with e2 | e2
    · rw [e2] at e; exact h.n2 e
    · rw [e2] at e; injection e with e; omega
  have o1' : OwnI w0.heap.size w' (.slice A1 L.length c1) L := h.o1.kept hg (by
    cases ho : (Value.slice A2 F.length c2).ownBlock with
    | none => exact Classical.em _
    | some q => right; intro e; exact h.n12 q e ho)
  refine ⟨e0, e1, ef 1, ⟨(h.rd.other hg (fun k e => by have := hq k e; omega)).set _ (by dsimp only; omega) _, gr_set (gr_then h.gr hg (fun k e => .inl (hq k e))) _ (.inl (by dsimp only; omega)) _, h.lt, h.P0, by have := hg.size; simp; omega, ?_, World.cell?_setCell_same _ _ _ e1, fun i => ?_, own_set o1' h.n1 _, own_set own n1' _, h.n1, n1', fun q e e2 => ?_⟩⟩
  · rw [World.cell?_setCell_other _ _ _ _ (by simp)]; exact e0
  · rw [← ef i]; simp
  · rcases hat with e3 | e3
    · rw [e3] at e2; exact h.n12 q e e2
    · rw [e3] at e2; injection e2 with e2; have := (h.o1.lt q e).2; omega
/-- A new box for it. -/
theorem pr_new {t : TypeId} (hR : RdO wr g K) (G : w0.grownBy wr (some g)) (hg : g < w0.heap.size) (o1 : OwnI w0.heap.size wr (.slice A1 L.length c1) L) (o2 : OwnI w0.heap.size wr (.slice A2 F.length c2) F) (n12 : ∀ q, (Value.slice A1 L.length c1).ownBlock = some q → (Value.slice A2 F.length c2).ownBlock ≠ some q) :
    PR w0 (wr.alloc (.cells #[.slice A1 L.length c1, .slice A2 F.length c2] t)) g wr.heap.size K A1 c1 L A2 c2 F :=
  ⟨hR.alloc _, gr_alloc G _, hg, G.size, by simp, by simp [go_sem], by simp [go_sem], fun i => by simp [go_sem], o1.alloc _, o2.alloc _, fun e => by have := (o1.lt _ e).2; omega, fun e => by have := (o2.lt _ e).2; omega, n12⟩
end
end Go.Proofs.Ytmgikoaeomieeaa
