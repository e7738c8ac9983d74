/-
  The draws of the reference: plans that are drawn and then turned: laws.
-/
import Derived.Test.YtjlaljnffmncpaaD2
namespace Go.Proofs.Ytjlaljnffmncpaa
set_option linter.unusedVariables false
set_option linter.unusedSimpArgs false
open Go.RowKit Pp

/-- A world in which a plan is drawn and turned: the reader g, the result's box (the first block of the call), the plan's box P. -/
structure JS (w0 wr : World) (g P : Nat) (K n : Int) (A : Option Addr) (c : Nat) (bs : List Bd) : Prop where
  rd : RdO wr g K
  gr : w0.grownBy wr (some g)
  lt : g < w0.heap.size
  P0 : w0.heap.size < P
  P1 : P < wr.heap.size
  z0 : wr.cell? ⟨w0.heap.size, 0, none⟩ = some (.int .i64 0)
  z1 : wr.cell? ⟨w0.heap.size, 1, none⟩ = some (.slice none 0 0)
  zf : ∀ i, wr.frozen? ⟨w0.heap.size, i, none⟩ = false
  c0 : wr.cell? ⟨P, 0, none⟩ = some (.int .i64 n)
  c1 : wr.cell? ⟨P, 1, none⟩ = some (.slice A bs.length c)
  cf : ∀ i, wr.frozen? ⟨P, i, none⟩ = false
  own : OwnB w0.heap.size wr (.slice A bs.length c) bs
  ne0 : (Value.slice A bs.length c).ownBlock ≠ some w0.heap.size
  neP : (Value.slice A bs.length c).ownBlock ≠ some P

theorem JS.more {w0 wr : World} {g P : Nat} {K K' n : Int} {A : Option Addr} {c : Nat} {bs : List Bd} (h : JS w0 wr g P K n A c bs) (hK : K ≤ K') : JS w0 wr g P K' n A c bs := { h with rd := h.rd.more hK }
theorem JS.reads {w0 wr : World} {g P : Nat} {K n : Int} {A : Option Addr} {c : Nat} {bs : List Bd} (h : JS w0 wr g P K n A c bs) : ∃ b, BdsR wr wr.heap.size b 0 A bs := OwnB.readsA h.own
theorem JS.pick {w0 wr w' : World} {g P : Nat} {K K' n : Int} {A : Option Addr} {c : Nat} {bs : List Bd} (h : JS w0 wr g P K n A c bs) (hR : RdO w' g K') (hg : wr.grownBy w' (some g)) : JS w0 w' g P K' n A c bs := by
  have := h.lt; have h0 := h.P0; have h1 := h.P1
  exact ⟨hR, gr_pick h.gr hg, h.lt, h.P0, Nat.lt_of_lt_of_le h.P1 hg.size, far_cell hg h.z0 (by omega), far_cell hg h.z1 (by omega), fun i => far_frozen hg (h.zf i) (by omega) (by omega), far_cell hg h.c0 (by omega), far_cell hg h.c1 (by omega), fun i => far_frozen hg (h.cf i) (by omega) (by omega), own_far h.own hg (by omega), h.ne0, h.neP⟩
theorem JS.below {w0 wr w' : World} {g P : Nat} {K n : Int} {A : Option Addr} {c : Nat} {bs : List Bd} (h : JS w0 wr g P K n A c bs) (hb : Below wr.heap.size wr w') : JS w0 w' g P K n A c bs := by
  have := h.lt; have h0 := h.P0; have h1 := h.P1
  have hc : ∀ b o, b < wr.heap.size → w'.cell? ⟨b, o, none⟩ = wr.cell? ⟨b, o, none⟩ := (bcell hb).1
  have hf := (bcell hb).2
  exact ⟨h.rd.below hb, gr_below h.gr hb, h.lt, h.P0, Nat.lt_of_lt_of_le h.P1 hb.size, (hc _ _ (by omega)).trans h.z0, (hc _ _ (by omega)).trans h.z1, fun i => (hf _ _ (by omega)).trans (h.zf i), (hc _ _ (by omega)).trans h.c0, (hc _ _ (by omega)).trans h.c1, fun i => (hf _ _ (by omega)).trans (h.cf i), own_below h.own hb, h.ne0, h.neP⟩
theorem JS.alloc {w0 wr : World} {g P : Nat} {K n : Int} {A : Option Addr} {c : Nat} {bs : List Bd} (h : JS w0 wr g P K n A c bs) (o : Obj) : JS w0 (wr.alloc o) g P K n A c bs := h.below (by go_grown)
theorem JS.drew {w0 wr : World} {g P : Nat} {K n : Int} {A : Option Addr} {c : Nat} {bs : List Bd} (h : JS w0 wr g P K n A c bs) : JS w0 wr.drew g P K n A c bs := h.below (by go_grown)
/-- A store into a box that came later. -/
theorem JS.set {w0 wr : World} {g P : Nat} {K n : Int} {A : Option Addr} {c : Nat} {bs : List Bd} (h : JS w0 wr g P K n A c bs) (p : Addr) (hp : P < p.block) (hne : (Value.slice A bs.length c).ownBlock ≠ some p.block) (v : Value) : JS w0 (wr.setCell p v) g P K n A c bs := by
  have := h.lt; have h0 := h.P0; have h1 := h.P1
  refine ⟨h.rd.set _ (by omega) _, gr_set h.gr _ (.inl (by omega)) _, h.lt, h.P0, by simpa using h1, ?_, ?_, fun i => ?_, ?_, ?_, fun i => ?_, own_set h.own hne _, h.ne0, h.neP⟩
  · rw [set_other (by dsimp only; omega)]; exact h.z0
  · rw [set_other (by dsimp only; omega)]; exact h.z1
  · rw [← h.zf i]; simp
  · rw [set_other (by dsimp only; omega)]; exact h.c0
  · rw [set_other (by dsimp only; omega)]; exact h.c1
  · rw [← h.cf i]; simp
/-- Another plan is put into the plan's box. -/
theorem JS.plan {w0 wr : World} {g P : Nat} {K n n' : Int} {A A' : Option Addr} {c c' : Nat} {bs bs' : List Bd} (h : JS w0 wr g P K n A c bs) (own : OwnB w0.heap.size wr (.slice A' bs'.length c') bs') (ne0 : (Value.slice A' bs'.length c').ownBlock ≠ some w0.heap.size) (neP : (Value.slice A' bs'.length c').ownBlock ≠ some P) :
    JS w0 ((wr.setCell ⟨P, 0, none⟩ (.int .i64 n')).setCell ⟨P, 1, none⟩ (.slice A' bs'.length c')) g P K n' A' c' bs' := by
  have := h.lt; have h0 := h.P0; have h1 := h.P1
  obtain ⟨r0, r1⟩ := two_cells (a := .int .i64 n') (b := .slice A' bs'.length c') h.c0 h.c1
  refine ⟨(h.rd.set _ (by dsimp only; omega) _).set _ (by dsimp only; omega) _, gr_set (gr_set h.gr _ (.inl (by dsimp only; omega)) _) _ (.inl (by dsimp only; omega)) _, h.lt, h.P0, by simpa using h1, ?_, ?_, fun i => ?_, r0, r1, fun i => ?_, own_set (own_set own neP _) neP _, ne0, neP⟩
  · rw [set_other (by dsimp only; omega), set_other (by dsimp only; omega)]; exact h.z0
  · rw [set_other (by dsimp only; omega), set_other (by dsimp only; omega)]; exact h.z1
  · rw [← h.zf i]; simp
  · rw [← h.cf i]; simp
theorem JS.fin {w0 wr : World} {g P : Nat} {K n : Int} {A : Option Addr} {c : Nat} {bs : List Bd} (h : JS w0 wr g P K n A c bs) :
    ((wr.setCell ⟨w0.heap.size, 0, none⟩ (.int .i64 n)).setCell ⟨w0.heap.size, 1, none⟩ (.slice A bs.length c)).cell? ⟨w0.heap.size, 0, none⟩ = some (.int .i64 n) ∧ ((wr.setCell ⟨w0.heap.size, 0, none⟩ (.int .i64 n)).setCell ⟨w0.heap.size, 1, none⟩ (.slice A bs.length c)).cell? ⟨w0.heap.size, 1, none⟩ = some (.slice A bs.length c) ∧
    OwnB w0.heap.size ((wr.setCell ⟨w0.heap.size, 0, none⟩ (.int .i64 n)).setCell ⟨w0.heap.size, 1, none⟩ (.slice A bs.length c)) (.slice A bs.length c) bs ∧ RdO ((wr.setCell ⟨w0.heap.size, 0, none⟩ (.int .i64 n)).setCell ⟨w0.heap.size, 1, none⟩ (.slice A bs.length c)) g K ∧
    w0.grownBy ((wr.setCell ⟨w0.heap.size, 0, none⟩ (.int .i64 n)).setCell ⟨w0.heap.size, 1, none⟩ (.slice A bs.length c)) (some g) := by
  have := h.lt
  obtain ⟨r0, r1⟩ := two_cells (a := .int .i64 n) (b := .slice A bs.length c) h.z0 h.z1
  exact ⟨r0, r1, own_set (own_set h.own h.ne0 _) h.ne0 _, (h.rd.set _ (by dsimp only; omega) _).set _ (by dsimp only; omega) _, gr_set (gr_set h.gr _ (.inl (Nat.le_refl _)) _) _ (.inl (Nat.le_refl _)) _⟩
/-- Behind the call that draws the plan. -/
theorem js_new {w w1 : World} {g : Nat} {K n : Int} {A : Option Addr} {c : Nat} {bs : List Bd} {t t' : TypeId} (G : (w.alloc (.cells #[.int .i64 0, .slice none 0 0] t')).grownBy w1 (some g)) (hg : g < w.heap.size) (hR : RdO w1 g K)
    (hown : OwnB (w.alloc (.cells #[.int .i64 0, .slice none 0 0] t')).heap.size w1 (.slice A bs.length c) bs) : JS w (w1.alloc (.cells #[.int .i64 n, .slice A bs.length c] t)) g w1.heap.size K n A c bs := by
  have hs : w.heap.size < w1.heap.size := by have := G.size; simp only [World.size_alloc] at this; omega
  have hl := fun q hq => hown.lt q hq
  simp only [World.size_alloc] at hl
  refine ⟨hR.alloc _, gr_alloc (gr_pick (gr_new w _ _) G) _, hg, hs, by simp, ?_, ?_, fun i => ?_, by simp [go_sem], by simp [go_sem], fun i => by simp [go_sem], ?_, fun e => ?_, fun e => ?_⟩
  · rw [World.cell?_alloc_past _ _ _ hs]; exact far_cell G (by simp [go_sem]) (by omega)
  · rw [World.cell?_alloc_past _ _ _ hs]; exact far_cell G (by simp [go_sem]) (by omega)
  · rw [World.frozen?_alloc_past _ _ _ hs]; exact far_frozen G (by simp [go_sem]) (by simp) (by omega)
  · exact own_less (hown.alloc _) (by simp)
  · have := (hl _ e).1; omega
  · have := (hl _ e).2; omega
theorem pick_js {w0 : World} {g P : Nat} {K n : Int} {A : Option Addr} {c : Nat} {bs : List Bd} (m : Int) (w : World) (h : JS w0 w g P K n A c bs) (hK : 0 ≤ K ∧ K ≤ 1000000000) (hm : -1000000000 ≤ m ∧ m ≤ 1000000000) :
    Calls Try.prog 89 #[.pointer (some ⟨g, 0, none⟩), .int .i64 m] w fun e w' =>
      ∃ v : Int, e = .returned (.int .i64 v) ∧ 0 ≤ v ∧ (1 ≤ m → v < m) ∧ (m < 1 → v = 0) ∧ JS w0 w' g P (K + 1) n A c bs ∧ w.grownBy w' (some g) ∧ w'.heap.size = w.heap.size := by
  refine (pick_c g K m w hK hm h.rd).mono ?_
  rintro e w' ⟨v, rfl, h1, h2, h3, h4, h5, h6⟩
  exact ⟨v, rfl, h1, h2, h3, h.pick h4 h5, h5, h6⟩
theorem sm_ok {n : Int} {bs : List Bd} (h : planOk ⟨n, bs⟩ = true) : (∀ x ∈ bs, Sm x) ∧ bs.length ≤ 16 ∧ 1 ≤ n ∧ n ≤ 6 := by
  obtain ⟨⟨h1, h2⟩, h3, h4⟩ := planOk_iff.1 h
  dsimp only at h1 h2 h3 h4
  refine ⟨fun x hx => ?_, h3, h1, h2⟩
  have := bdOk_iff.1 (h4 x hx)
  unfold Sm; omega
/-- A box for a plan, that came later. -/
structure XB (w : World) (P X : Nat) (v : Value) : Prop where
  lt : P < X
  own : v.ownBlock ≠ some X
  ex : X < w.heap.size
  c0 : ∃ u, w.cell? ⟨X, 0, none⟩ = some u
  c1 : ∃ u, w.cell? ⟨X, 1, none⟩ = some u
  f0 : w.frozen? ⟨X, 0, none⟩ = false
  f1 : w.frozen? ⟨X, 1, none⟩ = false
theorem xb_new {w : World} {P X : Nat} {v x y : Value} {t : TypeId} (hX : X = w.heap.size) (hP : P < w.heap.size) (hv : v.ownBlock ≠ some X) : XB (w.alloc (.cells #[x, y] t)) P X v := by
  subst hX
  exact ⟨hP, hv, by simp, ⟨x, by simp [go_sem]⟩, ⟨y, by simp [go_sem]⟩, by simp [go_sem], by simp [go_sem]⟩
theorem toldP_no {p : Pl} (h : planOk p = false) : toldP p = ⟨0, []⟩ := by unfold toldP; rw [if_neg (by simp [h])]
theorem toldP_yes {p : Pl} (h : planOk p = true) : toldP p = p := by unfold toldP; rw [if_pos h]
end Go.Proofs.Ytjlaljnffmncpaa
