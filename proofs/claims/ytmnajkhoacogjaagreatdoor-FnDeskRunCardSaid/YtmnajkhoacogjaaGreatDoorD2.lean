/-
 The draws of the reference: a plan.
 The draws of the reference: plans that are drawn and then turned: laws.
-/
import Derived.Test.YtmnajkhoacogjaaGreatDoorD1
namespace Go.Proofs.YtmnajkhoacogjaaGreatDoor
set_option linter.unusedVariables false
set_option linter.unusedSimpArgs false
open Go.RowKit Pp

theorem gr_then {w w1 w2 : World} {g : Nat} {row : Option Nat} (G : w.grownBy w1 (some g)) (h : w1.grownBy w2 row) (hr : ∀ k, row = some k → w.heap.size ≤ k ∨ k = g) : w.grownBy w2 (some g) :=
 ⟨h.os.trans G.os, h.tape.trans G.tape, h.output.trans G.output, Nat.le_trans G.size h.size, fun k hk hne => by
  have := G.size
  rw [h.block k (by omega) (fun e => by
   rcases hr k e.symm with h1 | h1
   ·omega
   ·exact hne (by rw [h1])), G.block k hk hne]⟩
theorem gr_new (w : World) (o : Obj) (row : Option Nat) : w.grownBy (w.alloc o) row :=
 ⟨rfl, rfl, rfl, by simp, fun k hk _ => by
  have : w.heap[k]? = some (w.heap[k]'hk) := Array.getElem?_eq_getElem hk
  rw [this]; exact at_old this⟩
theorem gr_alloc {w w1 : World} {g : Nat} (G : w.grownBy w1 (some g)) (o : Obj) : w.grownBy (w1.alloc o) (some g) := gr_then G (gr_new w1 o (some g)) (fun k h => .inr (by injection h with h; exact h.symm))
theorem gr_set {w w1 : World} {g : Nat} (G : w.grownBy w1 (some g)) (p : Addr) (hp : w.heap.size ≤ p.block ∨ p.block = g) (v : Value) : w.grownBy (w1.setCell p v) (some g) :=
 gr_then G (grown_set w1 p v) (fun k h => by injection h with h; omega)
theorem gr_pick {w w1 w2 : World} {g : Nat} (G : w.grownBy w1 (some g)) (h : w1.grownBy w2 (some g)) : w.grownBy w2 (some g) := gr_then G h (fun k h => .inr (by injection h with h; exact h.symm))
theorem gr_below {w w1 w2 : World} {g : Nat} (G : w.grownBy w1 (some g)) (h : Below w1.heap.size w1 w2) : w.grownBy w2 (some g) :=
 gr_then (row := none) G ⟨h.os, h.tape, h.output, h.size, fun k hk _ => h.block k hk⟩ (fun k h => by cases h)
theorem own_far {w w' : World} {base g : Nat} {e : TypeId} {size : Nat} {v : Value} {n : Nat} {xs : List Value} (h : w.ownsRow base e size v n xs) (hg : w.grownBy w' (some g)) (hlt : g < base) : w'.ownsRow base e size v n xs :=
 h.kept hg (.inr (fun e => by have := h.lt _ e; omega))
theorem RdO.lt {w : World} {g : Nat} {K : Int} (h : RdO w g K) : g < w.heap.size := by
 obtain ⟨⟨A, n, c, zs, k, h0, _⟩, _⟩ := h
 apply Classical.byContradiction
 intro hn
 rw [World.cell?, Array.getElem?_eq_none (by show w.heap.size ≤ g; omega)] at h0
 simp at h0
theorem RdO.other {w w' : World} {g : Nat} {K : Int} {row : Option Nat} (h : RdO w g K) (hg : w.grownBy w' row) (hr : ∀ k, row = some k → g < k) : RdO w' g K := by
 have hlt := h.lt
 obtain ⟨⟨A, n, c, zs, k, h0, h1, hk, hkK, hn, hb⟩, hf⟩ := h
 have hc : ∀ a : Addr, a.block ≤ g → w'.cell? a = w.cell? a := fun a ha => hg.cell_far a (by omega) (fun e => by have := hr _ e.symm; omega)
 have hf' : ∀ a : Addr, a.block ≤ g → w'.frozen? a = w.frozen? a := fun a ha => hg.frozen_far a (by omega) (fun e => by have := hr _ e.symm; omega)
 refine ⟨⟨A, n, c, zs, k, (hc _ (Nat.le_refl _)).trans h0, (hc _ (Nat.le_refl _)).trans h1, hk, hkK, hn, hb.1, hb.2.1, fun i hi => ?_⟩, fun i => (hf' _ (Nat.le_refl _)).trans (hf i)⟩
 obtain ⟨x, hx, hl, hcc⟩ := hb.2.2 i hi
 refine ⟨x, hx, hl, (hc _ ?_).trans hcc⟩
 have : (x.add i).block = x.block := by unfold Addr.add; split <;> rfl
 omega
theorem RdO.alloc {w : World} {g : Nat} {K : Int} (h : RdO w g K) (o : Obj) : RdO (w.alloc o) g K := h.other (gr_new w o none) (fun k e => by cases e)
theorem RdO.set {w : World} {g : Nat} {K : Int} (h : RdO w g K) (p : Addr) (hp : g < p.block) (v : Value) : RdO (w.setCell p v) g K := h.other (grown_set w p v) (fun k e => by injection e with e; omega)
theorem RdO.below {w w' : World} {g : Nat} {K : Int} (h : RdO w g K) (hb : Below w.heap.size w w') : RdO w' g K :=
 h.other (row := none) ⟨hb.os, hb.tape, hb.output, hb.size, fun k hk _ => hb.block k hk⟩ (fun k h => by cases h)
theorem far_cell {w w' : World} {g b o : Nat} {x : Value} (hg : w.grownBy w' (some g)) (h : w.cell? ⟨b, o, none⟩ = some x) (hne : b ≠ g) : w'.cell? ⟨b, o, none⟩ = some x := by
 rw [← h]
 refine hg.cell_far ⟨b, o, none⟩ ?_ (fun e => hne (by injection e))
 apply Classical.byContradiction
 intro hn
 rw [World.cell?, Array.getElem?_eq_none (by show w.heap.size ≤ b; exact Nat.le_of_not_lt hn)] at h
 simp at h
theorem far_frozen {w w' : World} {g b o : Nat} (hg : w.grownBy w' (some g)) (h : w.frozen? ⟨b, o, none⟩ = false) (hb : b < w.heap.size) (hne : b ≠ g) : w'.frozen? ⟨b, o, none⟩ = false := by
 rw [← h]
 exact hg.frozen_far ⟨b, o, none⟩ hb (fun e => hne (by injection e))

/-- A small bound. -/
def Sm (x : Bd) : Prop := (-1000 ≤ x.f ∧ x.f ≤ 1000) ∧ (-1000 ≤ x.t ∧ x.t ≤ 1000) ∧ (-1000 ≤ x.m ∧ x.m ≤ 1000)

/-- A world in which a plan is drawn: the reader, the result's box, the plan's box. -/
structure PS (w0 wr : World) (g : Nat) (K n : Int) (A : Option Addr) (c : Nat) (bs : List Bd) : Prop where
 rd : RdO wr g K
 gr : w0.grownBy wr (some g)
 lt : g < w0.heap.size
 sz : w0.heap.size + 2 ≤ wr.heap.size
 z0 : wr.cell? ⟨w0.heap.size, 0, none⟩ = some (.int .i64 0)
 z1 : wr.cell? ⟨w0.heap.size, 1, none⟩ = some (.slice none 0 0)
 zf : ∀ i, wr.frozen? ⟨w0.heap.size, i, none⟩ = false
 c0 : wr.cell? ⟨w0.heap.size + 1, 0, none⟩ = some (.int .i64 n)
 c1 : wr.cell? ⟨w0.heap.size + 1, 1, none⟩ = some (.slice A bs.length c)
 cf : ∀ i, wr.frozen? ⟨w0.heap.size + 1, i, none⟩ = false
 own : OwnB (w0.heap.size + 2) wr (.slice A bs.length c) bs

theorem PS.pick {w0 wr w' : World} {g : Nat} {K K' n : Int} {A : Option Addr} {c : Nat} {bs : List Bd} (h : PS w0 wr g K n A c bs) (hR : RdO w' g K') (hg : wr.grownBy w' (some g)) : PS w0 w' g K' n A c bs := by
 have := h.lt; have hs := h.sz
 exact ⟨hR, gr_pick h.gr hg, h.lt, Nat.le_trans h.sz hg.size, far_cell hg h.z0 (by omega), far_cell hg h.z1 (by omega), fun i => far_frozen hg (h.zf i) (by omega) (by omega), far_cell hg h.c0 (by omega), far_cell hg h.c1 (by omega), fun i => far_frozen hg (h.cf i) (by omega) (by omega), own_far h.own hg (by omega)⟩
/-- Behind what turns only blocks that came later, and are not the plan's. -/
theorem PS.other {w0 wr w' : World} {g : Nat} {K n : Int} {A : Option Addr} {c : Nat} {bs : List Bd} {row : Option Nat} (h : PS w0 wr g K n A c bs) (hg : wr.grownBy w' row) (hr : ∀ k, row = some k → w0.heap.size + 2 ≤ k ∧ (Value.slice A bs.length c).ownBlock ≠ some k) : PS w0 w' g K n A c bs := by
 have := h.lt; have hs := h.sz
 have k1 : ∀ b, b < w0.heap.size + 2 → some b ≠ row := fun b hb e => by have := (hr _ e.symm).1; omega
 have hc : ∀ b o, b < w0.heap.size + 2 → w'.cell? ⟨b, o, none⟩ = wr.cell? ⟨b, o, none⟩ := fun b o hb => hg.cell_far _ (by show b < _; omega) (k1 b hb)
 have hf : ∀ b o, b < w0.heap.size + 2 → w'.frozen? ⟨b, o, none⟩ = wr.frozen? ⟨b, o, none⟩ := fun b o hb => hg.frozen_far _ (by show b < _; omega) (k1 b hb)
 refine ⟨h.rd.other hg (fun k e => by have := (hr k e).1; omega), gr_then h.gr hg (fun k e => .inl (by have := (hr k e).1; omega)), h.lt, Nat.le_trans h.sz hg.size, (hc _ _ (by omega)).trans h.z0, (hc _ _ (by omega)).trans h.z1, fun i => (hf _ _ (by omega)).trans (h.zf i), (hc _ _ (by omega)).trans h.c0, (hc _ _ (by omega)).trans h.c1, fun i => (hf _ _ (by omega)).trans (h.cf i), ?_⟩
 refine h.own.kept hg ?_
 cases hrow : row with
 | none => exact Classical.em _
 | some k => exact .inr (fun e => (hr k hrow).2 e)
theorem PS.alloc {w0 wr : World} {g : Nat} {K n : Int} {A : Option Addr} {c : Nat} {bs : List Bd} (h : PS w0 wr g K n A c bs) (o : Obj) : PS w0 (wr.alloc o) g K n A c bs := h.other (gr_new wr o none) (fun k e => by cases e)
theorem PS.drew {w0 wr : World} {g : Nat} {K n : Int} {A : Option Addr} {c : Nat} {bs : List Bd} (h : PS w0 wr g K n A c bs) : PS w0 wr.drew g K n A c bs := h.other (row := none) ⟨rfl, rfl, rfl, Nat.le_refl _, fun _ _ _ => rfl⟩ (fun k e => by cases e)
theorem PS.set {w0 wr : World} {g : Nat} {K n : Int} {A : Option Addr} {c : Nat} {bs : List Bd} (h : PS w0 wr g K n A c bs) (p : Addr) (hp : w0.heap.size + 2 ≤ p.block) (hne : (Value.slice A bs.length c).ownBlock ≠ some p.block) (v : Value) : PS w0 (wr.setCell p v) g K n A c bs :=
 h.other (grown_set wr p v) (fun k e => by injection e with e; subst e; exact ⟨hp, hne⟩)

theorem PS.more {w0 wr : World} {g : Nat} {K K' n : Int} {A : Option Addr} {c : Nat} {bs : List Bd} (h : PS w0 wr g K n A c bs) (hK : K ≤ K') : PS w0 wr g K' n A c bs := { h with rd := h.rd.more hK }
theorem ps_new {w w2 : World} {g : Nat} {K n : Int} {t t' : TypeId} (G : (w.alloc (.cells #[.int .i64 0, .slice none 0 0] t')).grownBy w2 (some g)) (hs : w2.heap.size = w.heap.size + 1) (hg : g < w.heap.size) (hR : RdO w2 g K) :
  PS w (w2.alloc (.cells #[.int .i64 n, .slice none 0 0] t)) g K n none 0 [] := by
 refine ⟨hR.alloc _, gr_alloc (gr_pick (gr_new w _ _) G) _, hg, by simp only [World.size_alloc]; omega, ?_, ?_, fun i => ?_, ?_, ?_, fun i => ?_, World.ownsRow_nil _ _ _ _⟩
 ·rw [World.cell?_alloc_past _ _ _ (by omega)]
  exact far_cell G (by simp [go_sem]) (by omega)
 ·rw [World.cell?_alloc_past _ _ _ (by omega)]
  exact far_cell G (by simp [go_sem]) (by omega)
 ·rw [World.frozen?_alloc_past _ _ _ (by omega)]
  exact far_frozen G (by simp [go_sem]) (by simp) (by omega)
 ·rw [← hs]; simp [go_sem]
 ·rw [← hs]; simp [go_sem]
 ·rw [← hs]; simp [go_sem]

theorem pick_ps {w0 : World} {g : Nat} {K n : Int} {A : Option Addr} {c : Nat} {bs : List Bd} (m : Int) (w : World) (h : PS w0 w g K n A c bs) (hK : 0 ≤ K ∧ K ≤ 1000000000) (hm : -1000000000 ≤ m ∧ m ≤ 1000000000) :
  Calls Tryz.prog 88 #[.pointer (some ⟨g, 0, none⟩), .int .i64 m] w fun e w' =>
   ∃ v : Int, e = .returned (.int .i64 v) ∧ 0 ≤ v ∧ (1 ≤ m → v < m) ∧ (m < 1 → v = 0) ∧ PS w0 w' g (K + 1) n A c bs ∧ w.grownBy w' (some g) ∧ w'.heap.size = w.heap.size := by
 refine (pick_c g K m w hK hm h.rd).mono ?_
 rintro e w' ⟨v, rfl, h1, h2, h3, h4, h5, h6⟩
 exact ⟨v, rfl, h1, h2, h3, h.pick h4 h5, h5, h6⟩

/-- While a bound is drawn: its box is the block behind those of the world wr. -/
structure BX (w0 wr wc : World) (g : Nat) (K n f t m : Int) (A : Option Addr) (c : Nat) (bs : List Bd) : Prop where
 ps : PS w0 wc g K n A c bs
 gr : wr.grownBy wc (some g)
 sz : wc.heap.size = wr.heap.size + 1
 own : ∀ q, (Value.slice A bs.length c).ownBlock = some q → q < wr.heap.size
 b0 : wc.cell? ⟨wr.heap.size, 0, none⟩ = some (.int .i64 f)
 b1 : wc.cell? ⟨wr.heap.size, 1, none⟩ = some (.int .i64 t)
 b2 : wc.cell? ⟨wr.heap.size, 2, none⟩ = some (.int .i64 m)
 bf : ∀ i, i < 3 → wc.frozen? ⟨wr.heap.size, i, none⟩ = false

theorem BX.lt {w0 wr wc : World} {g : Nat} {K n f t m : Int} {A : Option Addr} {c : Nat} {bs : List Bd} (h : BX w0 wr wc g K n f t m A c bs) : g < wr.heap.size ∧ w0.heap.size + 1 ≤ wr.heap.size := by
 have := h.ps.lt; have := h.ps.sz; have := h.sz; omega
theorem BX.pick {w0 wr wc w' : World} {g : Nat} {K K' n f t m : Int} {A : Option Addr} {c : Nat} {bs : List Bd} (h : BX w0 wr wc g K n f t m A c bs) (hp : PS w0 w' g K' n A c bs) (hg : wc.grownBy w' (some g)) (hs : w'.heap.size = wc.heap.size) : BX w0 wr w' g K' n f t m A c bs := by
 have hl := h.lt; have hz := h.sz
 exact ⟨hp, gr_pick h.gr hg, by omega, h.own, far_cell hg h.b0 (by omega), far_cell hg h.b1 (by omega), far_cell hg h.b2 (by omega), fun i hi => far_frozen hg (h.bf i hi) (by omega) (by omega)⟩
theorem BX.drew {w0 wr wc : World} {g : Nat} {K n f t m : Int} {A : Option Addr} {c : Nat} {bs : List Bd} (h : BX w0 wr wc g K n f t m A c bs) : BX w0 wr wc.drew g K n f t m A c bs :=
 ⟨h.ps.drew, grown_drew h.gr, h.sz, h.own, h.b0, h.b1, h.b2, h.bf⟩
theorem BX.set {w0 wr wc : World} {g : Nat} {K n f t m m' : Int} {A : Option Addr} {c : Nat} {bs : List Bd} (h : BX w0 wr wc g K n f t m A c bs) (hS : w0.heap.size + 2 ≤ wr.heap.size) : BX w0 wr (wc.setCell ⟨wr.heap.size, 2, none⟩ (.int .i64 m')) g K n f t m' A c bs := by
 have hl := h.lt; have hz := h.sz
 refine ⟨h.ps.set _ hS (fun e => ?_) _, gr_set h.gr _ (.inl (Nat.le_refl _)) _, by simpa using hz, h.own, ?_, ?_, ?_, fun i hi => ?_⟩
 ·have := h.own _ e; dsimp only at this; omega
 ·rw [set_ne (by simp)]; exact h.b0
 ·rw [set_ne (by simp)]; exact h.b1
 ·exact World.cell?_setCell_same _ _ _ h.b2
 ·rw [← h.bf i hi]; simp
theorem bx_new {w0 wr w2 : World} {g : Nat} {K n f t m : Int} {A : Option Addr} {c : Nat} {bs : List Bd} {ty : TypeId} (h : PS w0 w2 g K n A c bs) (hown : ∀ q, (Value.slice A bs.length c).ownBlock = some q → q < wr.heap.size) (hg : wr.grownBy w2 (some g)) (hs : w2.heap.size = wr.heap.size) : BX w0 wr (w2.alloc (.cells #[.int .i64 f, .int .i64 t, .int .i64 m] ty)) g K n f t m A c bs := by
 refine ⟨h.alloc _, gr_alloc hg _, by simp only [World.size_alloc]; omega, hown, ?_, ?_, ?_, fun i _ => ?_⟩ <;> rw [← hs]
 ·simp [go_sem]
 ·simp [go_sem]
 ·simp [go_sem]
 ·simp [go_sem]
theorem undrew {w w' : World} {row : Option Nat} (h : w.drew.grownBy w' row) : w.grownBy w' row := ⟨h.os, h.tape, h.output, h.size, h.block⟩
theorem bx_set {w0 wr w5 : World} {g : Nat} {K n f t m : Int} {A : Option Addr} {c : Nat} {bs : List Bd} {x0 x1 x2 : Value} (hS : w0.heap.size + 2 ≤ wr.heap.size) (h : PS w0 w5 g K n A c bs) (hown : ∀ q, (Value.slice A bs.length c).ownBlock = some q → q < wr.heap.size) (hg : wr.grownBy w5 (some g)) (hs : w5.heap.size = wr.heap.size + 1)
  (s0 : w5.cell? ⟨wr.heap.size, 0, none⟩ = some x0) (s1 : w5.cell? ⟨wr.heap.size, 1, none⟩ = some x1) (s2 : w5.cell? ⟨wr.heap.size, 2, none⟩ = some x2) (f0 : w5.frozen? ⟨wr.heap.size, 0, none⟩ = false) (f1 : w5.frozen? ⟨wr.heap.size, 1, none⟩ = false) (f2 : w5.frozen? ⟨wr.heap.size, 2, none⟩ = false) :
  BX w0 wr (((w5.setCell ⟨wr.heap.size, 0, none⟩ (.int .i64 f)).setCell ⟨wr.heap.size, 1, none⟩ (.int .i64 t)).setCell ⟨wr.heap.size, 2, none⟩ (.int .i64 m)) g K n f t m A c bs := by
 have hne : ∀ o, (Value.slice A bs.length c).ownBlock ≠ some (⟨wr.heap.size, o, none⟩ : Addr).block := fun o e => by have := hown _ e; dsimp only at this; omega
 refine ⟨((h.set _ hS (hne 0) _).set _ hS (hne 1) _).set _ hS (hne 2) _, gr_set (gr_set (gr_set hg _ (.inl (Nat.le_refl _)) _) _ (.inl (Nat.le_refl _)) _) _ (.inl (Nat.le_refl _)) _, by simpa using hs, hown, ?_, ?_, ?_, fun i hi => ?_⟩
 ·rw [set_ne (by simp), set_ne (by simp)]; exact World.cell?_setCell_same _ _ _ s0
 ·rw [set_ne (by simp)]; exact World.cell?_setCell_same (u := x1) _ _ _ ((set_ne (by simp)).trans s1)
 ·exact World.cell?_setCell_same (u := x2) _ _ _ ((set_ne (by simp)).trans ((set_ne (by simp)).trans s2))
 ·have : i = 0 ∨ i = 1 ∨ i = 2 := by omega
  rcases this with rfl | rfl | rfl
  ·rw [← f0]; simp
  ·rw [← f1]; simp
  ·rw [← f2]; simp
/-- Behind an append onto the plan's bounds, and the store of what it gives. -/
theorem PS.app {w0 wr w' : World} {g : Nat} {K n : Int} {A A' : Option Addr} {c c' : Nat} {bs bs' : List Bd} {row : Option Nat} (h : PS w0 wr g K n A c bs) (hg : wr.grownBy w' row) (hr : ∀ k, row = some k → w0.heap.size + 2 ≤ k) (len : Nat) (hlen : bs'.length = len)
  (hown : OwnB (w0.heap.size + 2) w' (.slice A' len c') bs') :
  w'.cell? ⟨w0.heap.size + 1, 1, none⟩ = some (.slice A bs.length c) ∧ w'.frozen? ⟨w0.heap.size + 1, 1, none⟩ = false ∧ PS w0 (w'.setCell ⟨w0.heap.size + 1, 1, none⟩ (.slice A' len c')) g K n A' c' bs' := by
 subst hlen
 have := h.lt; have hs := h.sz
 have k1 : ∀ b, b < w0.heap.size + 2 → some b ≠ row := fun b hb e => by have := hr _ e.symm; omega
 have hc : ∀ b o, b < w0.heap.size + 2 → w'.cell? ⟨b, o, none⟩ = wr.cell? ⟨b, o, none⟩ := fun b o hb => hg.cell_far _ (by show b < _; omega) (k1 b hb)
 have hf : ∀ b o, b < w0.heap.size + 2 → w'.frozen? ⟨b, o, none⟩ = wr.frozen? ⟨b, o, none⟩ := fun b o hb => hg.frozen_far _ (by show b < _; omega) (k1 b hb)
 have a1 := (hc (w0.heap.size + 1) 1 (by omega)).trans h.c1
 refine ⟨a1, (hf _ _ (by omega)).trans (h.cf 1), ?_⟩
 have hrd := h.rd.other hg (fun k e => by have := hr k e; omega)
 have hgr := gr_then h.gr hg (fun k e => .inl (by have := hr k e; omega))
 refine ⟨hrd.set _ (by dsimp only; omega) _, gr_set hgr _ (.inl (by dsimp only; omega)) _, h.lt, by simpa using Nat.le_trans h.sz hg.size, ?_, ?_, fun i => ?_, ?_, ?_, fun i => ?_, own_set_low hown (by dsimp only; omega) _⟩
 ·rw [set_ne (by simp)]; exact (hc _ _ (by omega)).trans h.z0
 ·rw [set_ne (by simp)]; exact (hc _ _ (by omega)).trans h.z1
 ·rw [← h.zf i, ← hf _ _ (by omega)]; simp
 ·rw [set_ne (by simp)]; exact (hc _ _ (by omega)).trans h.c0
 ·exact World.cell?_setCell_same _ _ _ a1
 ·rw [← h.cf i, ← hf _ _ (by omega)]; simp
theorem BX.more {w0 wr wc : World} {g : Nat} {K K' n f t m : Int} {A : Option Addr} {c : Nat} {bs : List Bd} (h : BX w0 wr wc g K n f t m A c bs) (hK : K ≤ K') : BX w0 wr wc g K' n f t m A c bs := { h with ps := h.ps.more hK }
theorem odd_ps {w0 : World} {g : Nat} {K n : Int} {A : Option Addr} {c : Nat} {bs : List Bd} (m : Int) (w : World) (h : PS w0 w g K n A c bs) (hK : 0 ≤ K ∧ K ≤ 1000000000) (hm : 0 ≤ m ∧ m ≤ 1000000000) :
  Calls Tryz.prog 53 #[.pointer (some ⟨g, 0, none⟩), .int .i64 m] w fun e w' =>
   ∃ v : Value, e = .returned v ∧ (v = .bool true ∨ v = .bool false) ∧ PS w0 w' g (K + 1) n A c bs ∧ w.grownBy w' (some g) ∧ w'.heap.size = w.heap.size := by
 refine (odd_c g K m w hK hm h.rd).mono ?_
 rintro e w' ⟨v, rfl, h4, h5, h6⟩
 refine ⟨.bool v, rfl, ?_, h.pick h4 h5, h5, h6⟩
 cases v
 ·exact .inr rfl
 ·exact .inl rfl
/-- The plan's number is turned. -/
theorem PS.setN {w0 wr : World} {g : Nat} {K n : Int} {A : Option Addr} {c : Nat} {bs : List Bd} (h : PS w0 wr g K n A c bs) (n' : Int) : PS w0 (wr.setCell ⟨w0.heap.size + 1, 0, none⟩ (.int .i64 n')) g K n' A c bs := by
 have := h.lt; have hs := h.sz
 refine ⟨h.rd.set _ (by dsimp only; omega) _, gr_set h.gr _ (.inl (by dsimp only; omega)) _, h.lt, by simpa using hs, ?_, ?_, fun i => ?_, ?_, ?_, fun i => ?_, own_set_low h.own (by dsimp only; omega) _⟩
 ·rw [set_ne (by simp)]; exact h.z0
 ·rw [set_ne (by simp)]; exact h.z1
 ·rw [← h.zf i]; simp
 ·exact World.cell?_setCell_same _ _ _ h.c0
 ·rw [set_ne (by simp)]; exact h.c1
 ·rw [← h.cf i]; simp
/-- The plan is handed back. -/
theorem PS.fin {w0 wr : World} {g : Nat} {K n : Int} {A : Option Addr} {c : Nat} {bs : List Bd} (h : PS w0 wr g K n A c bs) :
  ((wr.setCell ⟨w0.heap.size, 0, none⟩ (.int .i64 n)).setCell ⟨w0.heap.size, 1, none⟩ (.slice A bs.length c)).cell? ⟨w0.heap.size, 0, none⟩ = some (.int .i64 n) ∧ ((wr.setCell ⟨w0.heap.size, 0, none⟩ (.int .i64 n)).setCell ⟨w0.heap.size, 1, none⟩ (.slice A bs.length c)).cell? ⟨w0.heap.size, 1, none⟩ = some (.slice A bs.length c) ∧
  OwnB w0.heap.size ((wr.setCell ⟨w0.heap.size, 0, none⟩ (.int .i64 n)).setCell ⟨w0.heap.size, 1, none⟩ (.slice A bs.length c)) (.slice A bs.length c) bs ∧ RdO ((wr.setCell ⟨w0.heap.size, 0, none⟩ (.int .i64 n)).setCell ⟨w0.heap.size, 1, none⟩ (.slice A bs.length c)) g K ∧
  w0.grownBy ((wr.setCell ⟨w0.heap.size, 0, none⟩ (.int .i64 n)).setCell ⟨w0.heap.size, 1, none⟩ (.slice A bs.length c)) (some g) := by
 have := h.lt; have hs := h.sz
 obtain ⟨r0, r1⟩ := two_cells (a := .int .i64 n) (b := .slice A bs.length c) h.z0 h.z1
 exact ⟨r0, r1, own_less (own_set_low (own_set_low h.own (by dsimp only; omega) _) (by dsimp only; omega) _) (by omega), (h.rd.set _ (by dsimp only; omega) _).set _ (by dsimp only; omega) _, gr_set (gr_set h.gr _ (.inl (Nat.le_refl _)) _) _ (.inl (Nat.le_refl _)) _⟩

/-- A world in which a plan is drawn and turned: the reader g, the result's box (the first block of the call), the plan's box P. -/
structure JS (w0 wr : World) (g P : Nat) (K n : Int) (A : Option Addr) (c : Nat) (bs : List Bd) : Prop where
 rd : RdO wr g K
 gr : w0.grownBy wr (some g)
 lt : g < w0.heap.size
 P0 : w0.heap.size < P
 P1 : P < wr.heap.size
 z0 : wr.cell? ⟨w0.heap.size, 0, none⟩ = some (.int .i64 0)
 z1 : wr.cell? ⟨w0.heap.size, 1, none⟩ = some (.slice none 0 0)
 zf : ∀ i, wr.frozen? ⟨w0.heap.size, i, none⟩ = false
 c0 : wr.cell? ⟨P, 0, none⟩ = some (.int .i64 n)
 c1 : wr.cell? ⟨P, 1, none⟩ = some (.slice A bs.length c)
 cf : ∀ i, wr.frozen? ⟨P, i, none⟩ = false
 own : OwnB w0.heap.size wr (.slice A bs.length c) bs
 ne0 : (Value.slice A bs.length c).ownBlock ≠ some w0.heap.size
 neP : (Value.slice A bs.length c).ownBlock ≠ some P

theorem JS.more {w0 wr : World} {g P : Nat} {K K' n : Int} {A : Option Addr} {c : Nat} {bs : List Bd} (h : JS w0 wr g P K n A c bs) (hK : K ≤ K') : JS w0 wr g P K' n A c bs := { h with rd := h.rd.more hK }
theorem JS.reads {w0 wr : World} {g P : Nat} {K n : Int} {A : Option Addr} {c : Nat} {bs : List Bd} (h : JS w0 wr g P K n A c bs) : ∃ b, BdsR wr wr.heap.size b 0 A bs := OwnB.readsA h.own
theorem JS.pick {w0 wr w' : World} {g P : Nat} {K K' n : Int} {A : Option Addr} {c : Nat} {bs : List Bd} (h : JS w0 wr g P K n A c bs) (hR : RdO w' g K') (hg : wr.grownBy w' (some g)) : JS w0 w' g P K' n A c bs := by
 have := h.lt; have h0 := h.P0; have h1 := h.P1
 exact ⟨hR, gr_pick h.gr hg, h.lt, h.P0, Nat.lt_of_lt_of_le h.P1 hg.size, far_cell hg h.z0 (by omega), far_cell hg h.z1 (by omega), fun i => far_frozen hg (h.zf i) (by omega) (by omega), far_cell hg h.c0 (by omega), far_cell hg h.c1 (by omega), fun i => far_frozen hg (h.cf i) (by omega) (by omega), own_far h.own hg (by omega), h.ne0, h.neP⟩
theorem JS.below {w0 wr w' : World} {g P : Nat} {K n : Int} {A : Option Addr} {c : Nat} {bs : List Bd} (h : JS w0 wr g P K n A c bs) (hb : Below wr.heap.size wr w') : JS w0 w' g P K n A c bs := by
 have := h.lt; have h0 := h.P0; have h1 := h.P1
 have hc : ∀ b o, b < wr.heap.size → w'.cell? ⟨b, o, none⟩ = wr.cell? ⟨b, o, none⟩ := (bcell hb).1
 have hf := (bcell hb).2
 exact ⟨h.rd.below hb, gr_below h.gr hb, h.lt, h.P0, Nat.lt_of_lt_of_le h.P1 hb.size, (hc _ _ (by omega)).trans h.z0, (hc _ _ (by omega)).trans h.z1, fun i => (hf _ _ (by omega)).trans (h.zf i), (hc _ _ (by omega)).trans h.c0, (hc _ _ (by omega)).trans h.c1, fun i => (hf _ _ (by omega)).trans (h.cf i), own_below h.own hb, h.ne0, h.neP⟩
theorem JS.alloc {w0 wr : World} {g P : Nat} {K n : Int} {A : Option Addr} {c : Nat} {bs : List Bd} (h : JS w0 wr g P K n A c bs) (o : Obj) : JS w0 (wr.alloc o) g P K n A c bs := h.below (by go_grown)
theorem JS.drew {w0 wr : World} {g P : Nat} {K n : Int} {A : Option Addr} {c : Nat} {bs : List Bd} (h : JS w0 wr g P K n A c bs) : JS w0 wr.drew g P K n A c bs := h.below (by go_grown)
/-- A store into a box that came later. -/
theorem JS.set {w0 wr : World} {g P : Nat} {K n : Int} {A : Option Addr} {c : Nat} {bs : List Bd} (h : JS w0 wr g P K n A c bs) (p : Addr) (hp : P < p.block) (hne : (Value.slice A bs.length c).ownBlock ≠ some p.block) (v : Value) : JS w0 (wr.setCell p v) g P K n A c bs := by
 have := h.lt; have h0 := h.P0; have h1 := h.P1
 refine ⟨h.rd.set _ (by omega) _, gr_set h.gr _ (.inl (by omega)) _, h.lt, h.P0, by simpa using h1, ?_, ?_, fun i => ?_, ?_, ?_, fun i => ?_, own_set h.own hne _, h.ne0, h.neP⟩
 ·rw [set_other (by dsimp only; omega)]; exact h.z0
 ·rw [set_other (by dsimp only; omega)]; exact h.z1
 ·rw [← h.zf i]; simp
 ·rw [set_other (by dsimp only; omega)]; exact h.c0
 ·rw [set_other (by dsimp only; omega)]; exact h.c1
 ·rw [← h.cf i]; simp
/-- Another plan is put into the plan's box. -/
theorem JS.plan {w0 wr : World} {g P : Nat} {K n n' : Int} {A A' : Option Addr} {c c' : Nat} {bs bs' : List Bd} (h : JS w0 wr g P K n A c bs) (own : OwnB w0.heap.size wr (.slice A' bs'.length c') bs') (ne0 : (Value.slice A' bs'.length c').ownBlock ≠ some w0.heap.size) (neP : (Value.slice A' bs'.length c').ownBlock ≠ some P) :
  JS w0 ((wr.setCell ⟨P, 0, none⟩ (.int .i64 n')).setCell ⟨P, 1, none⟩ (.slice A' bs'.length c')) g P K n' A' c' bs' := by
 have := h.lt; have h0 := h.P0; have h1 := h.P1
 obtain ⟨r0, r1⟩ := two_cells (a := .int .i64 n') (b := .slice A' bs'.length c') h.c0 h.c1
 refine ⟨(h.rd.set _ (by dsimp only; omega) _).set _ (by dsimp only; omega) _, gr_set (gr_set h.gr _ (.inl (by dsimp only; omega)) _) _ (.inl (by dsimp only; omega)) _, h.lt, h.P0, by simpa using h1, ?_, ?_, fun i => ?_, r0, r1, fun i => ?_, own_set (own_set own neP _) neP _, ne0, neP⟩
 ·rw [set_other (by dsimp only; omega), set_other (by dsimp only; omega)]; exact h.z0
 ·rw [set_other (by dsimp only; omega), set_other (by dsimp only; omega)]; exact h.z1
 ·rw [← h.zf i]; simp
 ·rw [← h.cf i]; simp
theorem JS.fin {w0 wr : World} {g P : Nat} {K n : Int} {A : Option Addr} {c : Nat} {bs : List Bd} (h : JS w0 wr g P K n A c bs) :
  ((wr.setCell ⟨w0.heap.size, 0, none⟩ (.int .i64 n)).setCell ⟨w0.heap.size, 1, none⟩ (.slice A bs.length c)).cell? ⟨w0.heap.size, 0, none⟩ = some (.int .i64 n) ∧ ((wr.setCell ⟨w0.heap.size, 0, none⟩ (.int .i64 n)).setCell ⟨w0.heap.size, 1, none⟩ (.slice A bs.length c)).cell? ⟨w0.heap.size, 1, none⟩ = some (.slice A bs.length c) ∧
  OwnB w0.heap.size ((wr.setCell ⟨w0.heap.size, 0, none⟩ (.int .i64 n)).setCell ⟨w0.heap.size, 1, none⟩ (.slice A bs.length c)) (.slice A bs.length c) bs ∧ RdO ((wr.setCell ⟨w0.heap.size, 0, none⟩ (.int .i64 n)).setCell ⟨w0.heap.size, 1, none⟩ (.slice A bs.length c)) g K ∧
  w0.grownBy ((wr.setCell ⟨w0.heap.size, 0, none⟩ (.int .i64 n)).setCell ⟨w0.heap.size, 1, none⟩ (.slice A bs.length c)) (some g) := by
 have := h.lt
 obtain ⟨r0, r1⟩ := two_cells (a := .int .i64 n) (b := .slice A bs.length c) h.z0 h.z1
 exact ⟨r0, r1, own_set (own_set h.own h.ne0 _) h.ne0 _, (h.rd.set _ (by dsimp only; omega) _).set _ (by dsimp only; omega) _, gr_set (gr_set h.gr _ (.inl (Nat.le_refl _)) _) _ (.inl (Nat.le_refl _)) _⟩
/-- Behind the call that draws the plan. -/
theorem js_new {w w1 : World} {g : Nat} {K n : Int} {A : Option Addr} {c : Nat} {bs : List Bd} {t t' : TypeId} (G : (w.alloc (.cells #[.int .i64 0, .slice none 0 0] t')).grownBy w1 (some g)) (hg : g < w.heap.size) (hR : RdO w1 g K)
  (hown : OwnB (w.alloc (.cells #[.int .i64 0, .slice none 0 0] t')).heap.size w1 (.slice A bs.length c) bs) : JS w (w1.alloc (.cells #[.int .i64 n, .slice A bs.length c] t)) g w1.heap.size K n A c bs := by
 have hs : w.heap.size < w1.heap.size := by have := G.size; simp only [World.size_alloc] at this; omega
 have hl := fun q hq => hown.lt q hq
 simp only [World.size_alloc] at hl
 refine ⟨hR.alloc _, gr_alloc (gr_pick (gr_new w _ _) G) _, hg, hs, by simp, ?_, ?_, fun i => ?_, by simp [go_sem], by simp [go_sem], fun i => by simp [go_sem], ?_, fun e => ?_, fun e => ?_⟩
 ·rw [World.cell?_alloc_past _ _ _ hs]; exact far_cell G (by simp [go_sem]) (by omega)
 ·rw [World.cell?_alloc_past _ _ _ hs]; exact far_cell G (by simp [go_sem]) (by omega)
 ·rw [World.frozen?_alloc_past _ _ _ hs]; exact far_frozen G (by simp [go_sem]) (by simp) (by omega)
 ·exact own_less (hown.alloc _) (by simp)
 ·have := (hl _ e).1; omega
 ·have := (hl _ e).2; omega
theorem pick_js {w0 : World} {g P : Nat} {K n : Int} {A : Option Addr} {c : Nat} {bs : List Bd} (m : Int) (w : World) (h : JS w0 w g P K n A c bs) (hK : 0 ≤ K ∧ K ≤ 1000000000) (hm : -1000000000 ≤ m ∧ m ≤ 1000000000) :
  Calls Tryz.prog 88 #[.pointer (some ⟨g, 0, none⟩), .int .i64 m] w fun e w' =>
   ∃ v : Int, e = .returned (.int .i64 v) ∧ 0 ≤ v ∧ (1 ≤ m → v < m) ∧ (m < 1 → v = 0) ∧ JS w0 w' g P (K + 1) n A c bs ∧ w.grownBy w' (some g) ∧ w'.heap.size = w.heap.size := by
 refine (pick_c g K m w hK hm h.rd).mono ?_
 rintro e w' ⟨v, rfl, h1, h2, h3, h4, h5, h6⟩
 exact ⟨v, rfl, h1, h2, h3, h.pick h4 h5, h5, h6⟩
theorem sm_ok {n : Int} {bs : List Bd} (h : planOk ⟨n, bs⟩ = true) : (∀ x ∈ bs, Sm x) ∧ bs.length ≤ 16 ∧ 1 ≤ n ∧ n ≤ 6 := by
 obtain ⟨⟨h1, h2⟩, h3, h4⟩ := planOk_iff.1 h
 dsimp only at h1 h2 h3 h4
 refine ⟨fun x hx => ?_, h3, h1, h2⟩
 have := bdOk_iff.1 (h4 x hx)
 unfold Sm; omega
/-- A box for a plan, that came later. -/
structure XB (w : World) (P X : Nat) (v : Value) : Prop where
 lt : P < X
 own : v.ownBlock ≠ some X
 ex : X < w.heap.size
 c0 : ∃ u, w.cell? ⟨X, 0, none⟩ = some u
 c1 : ∃ u, w.cell? ⟨X, 1, none⟩ = some u
 f0 : w.frozen? ⟨X, 0, none⟩ = false
 f1 : w.frozen? ⟨X, 1, none⟩ = false
theorem xb_new {w : World} {P X : Nat} {v x y : Value} {t : TypeId} (hX : X = w.heap.size) (hP : P < w.heap.size) (hv : v.ownBlock ≠ some X) : XB (w.alloc (.cells #[x, y] t)) P X v := by
 subst hX
 exact ⟨hP, hv, by simp, ⟨x, by simp [go_sem]⟩, ⟨y, by simp [go_sem]⟩, by simp [go_sem], by simp [go_sem]⟩
theorem toldP_no {p : Pl} (h : planOk p = false) : toldP p = ⟨0, []⟩ := by unfold toldP; rw [if_neg (by simp [h])]
theorem toldP_yes {p : Pl} (h : planOk p = true) : toldP p = p := by unfold toldP; rw [if_pos h]
theorem JS.other {w0 wr w' : World} {g P : Nat} {K n : Int} {A : Option Addr} {c : Nat} {bs : List Bd} {row : Option Nat} (h : JS w0 wr g P K n A c bs) (hg : wr.grownBy w' row) (hr : ∀ k, row = some k → P < k ∧ (Value.slice A bs.length c).ownBlock ≠ some k) : JS w0 w' g P K n A c bs := by
 have := h.lt; have h0 := h.P0; have h1 := h.P1
 have k1 : ∀ b, b ≤ P → some b ≠ row := fun b hb e => by have := (hr _ e.symm).1; omega
 have hc : ∀ b o, b ≤ P → w'.cell? ⟨b, o, none⟩ = wr.cell? ⟨b, o, none⟩ := fun b o hb => hg.cell_far _ (by show b < _; omega) (k1 b hb)
 have hf : ∀ b o, b ≤ P → w'.frozen? ⟨b, o, none⟩ = wr.frozen? ⟨b, o, none⟩ := fun b o hb => hg.frozen_far _ (by show b < _; omega) (k1 b hb)
 refine ⟨h.rd.other hg (fun k e => by have := (hr k e).1; omega), gr_then h.gr hg (fun k e => .inl (by have := (hr k e).1; omega)), h.lt, h.P0, Nat.lt_of_lt_of_le h.P1 hg.size, (hc _ _ (by omega)).trans h.z0, (hc _ _ (by omega)).trans h.z1, fun i => (hf _ _ (by omega)).trans (h.zf i), (hc _ _ (by omega)).trans h.c0, (hc _ _ (by omega)).trans h.c1, fun i => (hf _ _ (by omega)).trans (h.cf i), ?_, h.ne0, h.neP⟩
 refine h.own.kept hg ?_
 cases hrow : row with
 | none => exact Classical.em _
 | some k => exact .inr (fun e => (hr k hrow).2 e)
/-- Another plan is handed back. -/
theorem JS.fin2 {w0 wr : World} {g P : Nat} {K n n' : Int} {A A' : Option Addr} {c c' : Nat} {bs bs' : List Bd} (h : JS w0 wr g P K n A c bs) (own : OwnB w0.heap.size wr (.slice A' bs'.length c') bs') (ne0 : (Value.slice A' bs'.length c').ownBlock ≠ some w0.heap.size) :
  ((wr.setCell ⟨w0.heap.size, 0, none⟩ (.int .i64 n')).setCell ⟨w0.heap.size, 1, none⟩ (.slice A' bs'.length c')).cell? ⟨w0.heap.size, 0, none⟩ = some (.int .i64 n') ∧ ((wr.setCell ⟨w0.heap.size, 0, none⟩ (.int .i64 n')).setCell ⟨w0.heap.size, 1, none⟩ (.slice A' bs'.length c')).cell? ⟨w0.heap.size, 1, none⟩ = some (.slice A' bs'.length c') ∧
  OwnB w0.heap.size ((wr.setCell ⟨w0.heap.size, 0, none⟩ (.int .i64 n')).setCell ⟨w0.heap.size, 1, none⟩ (.slice A' bs'.length c')) (.slice A' bs'.length c') bs' ∧ RdO ((wr.setCell ⟨w0.heap.size, 0, none⟩ (.int .i64 n')).setCell ⟨w0.heap.size, 1, none⟩ (.slice A' bs'.length c')) g K ∧
  w0.grownBy ((wr.setCell ⟨w0.heap.size, 0, none⟩ (.int .i64 n')).setCell ⟨w0.heap.size, 1, none⟩ (.slice A' bs'.length c')) (some g) := by
 have := h.lt
 obtain ⟨r0, r1⟩ := two_cells (a := .int .i64 n') (b := .slice A' bs'.length c') h.z0 h.z1
 exact ⟨r0, r1, own_set (own_set own ne0 _) ne0 _, (h.rd.set _ (by dsimp only; omega) _).set _ (by dsimp only; omega) _, gr_set (gr_set h.gr _ (.inl (Nat.le_refl _)) _) _ (.inl (Nat.le_refl _)) _⟩
end Go.Proofs.YtmnajkhoacogjaaGreatDoor
