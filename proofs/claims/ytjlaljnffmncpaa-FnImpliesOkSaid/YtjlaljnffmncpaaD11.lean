/-
  The draws of the reference: two plans.
-/
import Derived.Test.YtjlaljnffmncpaaD10
namespace Go.Proofs.Ytjlaljnffmncpaa
set_option linter.unusedVariables false
set_option linter.unusedSimpArgs false
open Go.RowKit Pp

/-- A world in which two plans are drawn: the reader g, the results' boxes (the first two blocks of the call), the plans' boxes P and Q. -/
structure TS (w0 wr : World) (g P Q : Nat) (K n n' : Int) (A A' : Option Addr) (c c' : Nat) (bs bs' : List Bd) : Prop where
  rd : RdO wr g K
  gr : w0.grownBy wr (some g)
  lt : g < w0.heap.size
  P0 : w0.heap.size + 1 < P
  PQ : P < Q
  Q1 : Q < wr.heap.size
  z0 : wr.cell? ⟨w0.heap.size, 0, none⟩ = some (.int .i64 0)
  z1 : wr.cell? ⟨w0.heap.size, 1, none⟩ = some (.slice none 0 0)
  zf : ∀ i, wr.frozen? ⟨w0.heap.size, i, none⟩ = false
  y0 : wr.cell? ⟨w0.heap.size + 1, 0, none⟩ = some (.int .i64 0)
  y1 : wr.cell? ⟨w0.heap.size + 1, 1, none⟩ = some (.slice none 0 0)
  yf : ∀ i, wr.frozen? ⟨w0.heap.size + 1, i, none⟩ = false
  c0 : wr.cell? ⟨P, 0, none⟩ = some (.int .i64 n)
  c1 : wr.cell? ⟨P, 1, none⟩ = some (.slice A bs.length c)
  d0 : wr.cell? ⟨Q, 0, none⟩ = some (.int .i64 n')
  d1 : wr.cell? ⟨Q, 1, none⟩ = some (.slice A' bs'.length c')
  own : OwnB (w0.heap.size + 2) wr (.slice A bs.length c) bs
  own' : OwnB (w0.heap.size + 2) wr (.slice A' bs'.length c') bs'

theorem TS.via {w0 wr w' : World} {g P Q : Nat} {K K' n n' : Int} {A A' : Option Addr} {c c' : Nat} {bs bs' : List Bd} {row : Option Nat} (h : TS w0 wr g P Q K n n' A A' c c' bs bs') (hR : RdO w' g K') (hg : wr.grownBy w' row)
    (hr : ∀ k, row = some k → k = g ∨ (Q < k ∧ (Value.slice A bs.length c).ownBlock ≠ some k ∧ (Value.slice A' bs'.length c').ownBlock ≠ some k)) : TS w0 w' g P Q K' n n' A A' c c' bs bs' := by
  have hl := h.lt; have h0 := h.P0; have h1 := h.PQ; have h2 := h.Q1
  have k1 : ∀ b, b ≤ Q → w0.heap.size ≤ b → some b ≠ row := fun b hb hb' e => by
    rcases hr _ e.symm with h | h <;> omega
  have hc : ∀ b o, b ≤ Q → w0.heap.size ≤ b → w'.cell? ⟨b, o, none⟩ = wr.cell? ⟨b, o, none⟩ := fun b o hb hb' => hg.cell_far _ (by show b < _; omega) (k1 b hb hb')
  have hf : ∀ b o, b ≤ Q → w0.heap.size ≤ b → w'.frozen? ⟨b, o, none⟩ = wr.frozen? ⟨b, o, none⟩ := fun b o hb hb' => hg.frozen_far _ (by show b < _; omega) (k1 b hb hb')
  have hk : ∀ {v : Value} {m : Nat} {xs : List Value}, wr.ownsRow (w0.heap.size + 2) 41 3 v m xs → (∀ k, row = some k → k = g ∨ v.ownBlock ≠ some k) → w'.ownsRow (w0.heap.size + 2) 41 3 v m xs := fun {v m xs} ho hv => by
    refine ho.kept hg ?_
    cases hrow : row with
    | none => exact Classical.em _
    | some k =>
      refine .inr (fun e => ?_)
      rcases hv k hrow with rfl | hne
      · have := (ho.lt _ e).1; omega
      · exact hne e
  refine ⟨hR, gr_then h.gr hg (fun k e => ?_), hl, h0, h1, Nat.lt_of_lt_of_le h2 hg.size, (hc _ _ (by omega) (by omega)).trans h.z0, (hc _ _ (by omega) (by omega)).trans h.z1, fun i => (hf _ _ (by omega) (by omega)).trans (h.zf i), (hc _ _ (by omega) (by omega)).trans h.y0, (hc _ _ (by omega) (by omega)).trans h.y1, fun i => (hf _ _ (by omega) (by omega)).trans (h.yf i), (hc _ _ (by omega) (by omega)).trans h.c0, (hc _ _ (by omega) (by omega)).trans h.c1, (hc _ _ (by omega) (by omega)).trans h.d0, (hc _ _ (by omega) (by omega)).trans h.d1, hk h.own fun k e => ?_, hk h.own' fun k e => ?_⟩
  · rcases hr k e with h | h
    · exact .inr h
    · exact .inl (by omega)
  · rcases hr k e with h | h
    · exact .inl h
    · exact .inr h.2.1
  · rcases hr k e with h | h
    · exact .inl h
    · exact .inr h.2.2
theorem TS.pick {w0 wr w' : World} {g P Q : Nat} {K K' n n' : Int} {A A' : Option Addr} {c c' : Nat} {bs bs' : List Bd} (h : TS w0 wr g P Q K n n' A A' c c' bs bs') (hR : RdO w' g K') (hg : wr.grownBy w' (some g)) : TS w0 w' g P Q K' n n' A A' c c' bs bs' :=
  h.via hR hg (fun k e => .inl (by injection e with e; exact e.symm))
theorem TS.below {w0 wr w' : World} {g P Q : Nat} {K n n' : Int} {A A' : Option Addr} {c c' : Nat} {bs bs' : List Bd} (h : TS w0 wr g P Q K n n' A A' c c' bs bs') (hb : Below wr.heap.size wr w') : TS w0 w' g P Q K n n' A A' c c' bs bs' :=
  h.via (row := none) (h.rd.below hb) ⟨hb.os, hb.tape, hb.output, hb.size, fun k hk _ => hb.block k hk⟩ (fun k e => by cases e)
theorem TS.more {w0 wr : World} {g P Q : Nat} {K K' n n' : Int} {A A' : Option Addr} {c c' : Nat} {bs bs' : List Bd} (h : TS w0 wr g P Q K n n' A A' c c' bs bs') (hK : K ≤ K') : TS w0 wr g P Q K' n n' A A' c c' bs bs' := { h with rd := h.rd.more hK }
theorem TS.alloc {w0 wr : World} {g P Q : Nat} {K n n' : Int} {A A' : Option Addr} {c c' : Nat} {bs bs' : List Bd} (h : TS w0 wr g P Q K n n' A A' c c' bs bs') (o : Obj) : TS w0 (wr.alloc o) g P Q K n n' A A' c c' bs bs' := h.below (by go_grown)
theorem TS.drew {w0 wr : World} {g P Q : Nat} {K n n' : Int} {A A' : Option Addr} {c c' : Nat} {bs bs' : List Bd} (h : TS w0 wr g P Q K n n' A A' c c' bs bs') : TS w0 wr.drew g P Q K n n' A A' c c' bs bs' := h.below (by go_grown)
theorem pick_ts {w0 : World} {g P Q : Nat} {K n n' : Int} {A A' : Option Addr} {c c' : Nat} {bs bs' : List Bd} (m : Int) (w : World) (h : TS w0 w g P Q K n n' A A' c c' bs bs') (hK : 0 ≤ K ∧ K ≤ 1000000000) (hm : -1000000000 ≤ m ∧ m ≤ 1000000000) :
    Calls Try.prog 89 #[.pointer (some ⟨g, 0, none⟩), .int .i64 m] w fun e w' =>
      ∃ v : Int, e = .returned (.int .i64 v) ∧ 0 ≤ v ∧ (1 ≤ m → v < m) ∧ (m < 1 → v = 0) ∧ TS w0 w' g P Q (K + 1) n n' A A' c c' bs bs' ∧ w.grownBy w' (some g) ∧ w'.heap.size = w.heap.size := by
  refine (pick_c g K m w hK hm h.rd).mono ?_
  rintro e w' ⟨v, rfl, h1, h2, h3, h4, h5, h6⟩
  exact ⟨v, rfl, h1, h2, h3, h.pick h4 h5, h5, h6⟩
/-- Two plans are handed back. -/
theorem TS.fin {w0 wr : World} {g P Q : Nat} {K n n' nx ny : Int} {A A' Ax Ay : Option Addr} {c c' cx cy : Nat} {bs bs' bx by_ : List Bd} (h : TS w0 wr g P Q K n n' A A' c c' bs bs') (ox : OwnB (w0.heap.size + 2) wr (.slice Ax bx.length cx) bx) (oy : OwnB (w0.heap.size + 2) wr (.slice Ay by_.length cy) by_) :
    ∃ W, W = (((wr.setCell ⟨w0.heap.size, 0, none⟩ (.int .i64 nx)).setCell ⟨w0.heap.size, 1, none⟩ (.slice Ax bx.length cx)).setCell ⟨w0.heap.size + 1, 0, none⟩ (.int .i64 ny)).setCell ⟨w0.heap.size + 1, 1, none⟩ (.slice Ay by_.length cy) ∧
      W.cell? ⟨w0.heap.size, 0, none⟩ = some (.int .i64 nx) ∧ W.cell? ⟨w0.heap.size, 1, none⟩ = some (.slice Ax bx.length cx) ∧ W.cell? ⟨w0.heap.size + 1, 0, none⟩ = some (.int .i64 ny) ∧ W.cell? ⟨w0.heap.size + 1, 1, none⟩ = some (.slice Ay by_.length cy) ∧
      OwnB w0.heap.size W (.slice Ax bx.length cx) bx ∧ OwnB w0.heap.size W (.slice Ay by_.length cy) by_ ∧ RdO W g K ∧ w0.grownBy W (some g) := by
  have hl := h.lt; have h0 := h.P0; have h1 := h.PQ; have h2 := h.Q1
  obtain ⟨r0, r1⟩ := two_cells (a := .int .i64 nx) (b := .slice Ax bx.length cx) h.z0 h.z1
  have y0 : ((wr.setCell ⟨w0.heap.size, 0, none⟩ (.int .i64 nx)).setCell ⟨w0.heap.size, 1, none⟩ (.slice Ax bx.length cx)).cell? ⟨w0.heap.size + 1, 0, none⟩ = some (.int .i64 0) := by rw [set_other (by dsimp only; omega), set_other (by dsimp only; omega)]; exact h.y0
  have y1 : ((wr.setCell ⟨w0.heap.size, 0, none⟩ (.int .i64 nx)).setCell ⟨w0.heap.size, 1, none⟩ (.slice Ax bx.length cx)).cell? ⟨w0.heap.size + 1, 1, none⟩ = some (.slice none 0 0) := by rw [set_other (by dsimp only; omega), set_other (by dsimp only; omega)]; exact h.y1
  obtain ⟨s0, s1⟩ := two_cells (a := .int .i64 ny) (b := .slice Ay by_.length cy) y0 y1
  have so : ∀ {v : Value} {m : Nat} {xs : List Value}, wr.ownsRow (w0.heap.size + 2) 41 3 v m xs → ((((wr.setCell ⟨w0.heap.size, 0, none⟩ (.int .i64 nx)).setCell ⟨w0.heap.size, 1, none⟩ (.slice Ax bx.length cx)).setCell ⟨w0.heap.size + 1, 0, none⟩ (.int .i64 ny)).setCell ⟨w0.heap.size + 1, 1, none⟩ (.slice Ay by_.length cy)).ownsRow w0.heap.size 41 3 v m xs := fun ho =>
    own_less (own_set_low (own_set_low (own_set_low (own_set_low ho (by dsimp only; omega) _) (by dsimp only; omega) _) (by dsimp only; omega) _) (by dsimp only; omega) _) (by omega)
  refine ⟨_, rfl, ?_, ?_, s0, s1, so ox, so oy, (((h.rd.set _ (by dsimp only; omega) _).set _ (by dsimp only; omega) _).set _ (by dsimp only; omega) _).set _ (by dsimp only; omega) _, gr_set (gr_set (gr_set (gr_set h.gr _ (.inl (Nat.le_refl _)) _) _ (.inl (Nat.le_refl _)) _) _ (.inl (by dsimp only; omega)) _) _ (.inl (by dsimp only; omega)) _⟩
  · rw [set_other (by dsimp only; omega), set_other (by dsimp only; omega)]; exact r0
  · rw [set_other (by dsimp only; omega), set_other (by dsimp only; omega)]; exact r1
end Go.Proofs.Ytjlaljnffmncpaa
