/-
  The draws of the reference: cases: the boxes.
-/
import Derived.Test.YtledgblepdjjlaaD2
import Derived.Test.YtledgblepdjjlaaL11a
import Derived.Test.YtledgblepdjjlaaR50
namespace Go.Proofs.Ytledgblepdjjlaa
set_option linter.unusedVariables false
set_option linter.unusedSimpArgs false
open Go.RowKit Pp

/-- A drawn plan, with a deal's box for the result. -/
structure DS (w0 wr : World) (g P : Nat) (K n : Int) (A : Option Addr) (c : Nat) (bs : List Bd) : Prop where
  js : JS w0 wr g P K n A c bs
  z2 : wr.cell? ⟨w0.heap.size, 2, none⟩ = some (.slice none 0 0)
section
variable {w0 wr w' : World} {g P : Nat} {K K' n n' : Int} {A A' : Option Addr} {c c' : Nat} {bs bs' : List Bd}
theorem DS.more (h : DS w0 wr g P K n A c bs) (hK : K ≤ K') : DS w0 wr g P K' n A c bs := ⟨h.js.more hK, h.z2⟩
theorem DS.pick (h : DS w0 wr g P K n A c bs) (hR : RdO w' g K') (hg : wr.grownBy w' (some g)) : DS w0 w' g P K' n A c bs := by
  have := h.js.lt; have h0 := h.js.P0; have h1 := h.js.P1
  exact ⟨h.js.pick hR hg, far_cell hg h.z2 (by omega)⟩
theorem DS.below (h : DS w0 wr g P K n A c bs) (hb : Below wr.heap.size wr w') : DS w0 w' g P K n A c bs := by
  have h0 := h.js.P0; have h1 := h.js.P1
  exact ⟨h.js.below hb, ((bcell hb).1 _ _ (by omega)).trans h.z2⟩
theorem DS.alloc (h : DS w0 wr g P K n A c bs) (o : Obj) : DS w0 (wr.alloc o) g P K n A c bs := h.below (by go_grown)
theorem DS.drew (h : DS w0 wr g P K n A c bs) : DS w0 wr.drew g P K n A c bs := h.below (by go_grown)
end
section
variable {w0 wr : World} {g P q c k m : Nat} {K n : Int} {bs : List Bd}
/-- The plan's first m bounds alone. -/
theorem DS.take (h : DS w0 wr g P K n (some ⟨q, 0, none⟩) c bs) (hm : m ≤ bs.length) : DS w0 (wr.setCell ⟨P, 1, none⟩ (.slice (some ⟨q, 0, none⟩) m c)) g P K n (some ⟨q, 0, none⟩) c (bs.take m) := by
  have := h.js.lt; have h0 := h.js.P0; have h1 := h.js.P1
  have hl : (bs.take m).length = m := by simp; omega
  have e0 : q ≠ w0.heap.size := fun e => h.js.ne0 (by simp [Value.ownBlock, e])
  have eP : q ≠ P := fun e => h.js.neP (by simp [Value.ownBlock, e])
  refine ⟨⟨h.js.rd.set _ (by dsimp only; omega) _, gr_set h.js.gr _ (.inl (by dsimp only; omega)) _, h.js.lt, h.js.P0, by simpa using h1, ?_, ?_, fun i => ?_, ?_, ?_, fun i => ?_, ?_, by simpa [Value.ownBlock] using e0, by simpa [Value.ownBlock] using eP⟩, ?_⟩
  · rw [set_other (by dsimp only; omega)]; exact h.js.z0
  · rw [set_other (by dsimp only; omega)]; exact h.js.z1
  · rw [← h.js.zf i]; simp
  · rw [set_ne (by simp)]; exact h.js.c0
  · rw [hl]; exact World.cell?_setCell_same _ _ _ h.js.c1
  · rw [← h.js.cf i]; simp
  · rw [hl]; exact own_set (own_take h.js.own hm) (by simpa [Value.ownBlock] using eP) _
  · rw [set_other (by dsimp only; omega)]; exact h.z2
/-- One Most put anew. -/
theorem DS.put {x : Bd} (h : DS w0 wr g P K n (some ⟨q, 0, none⟩) c bs) (hx : bs[k]? = some x) (v : Int) : DS w0 (wr.setCell ⟨q, k * 3 + 2, none⟩ (.int .i64 v)) g P K n (some ⟨q, 0, none⟩) c (bs.set k ⟨x.f, x.t, v⟩) ∧ wr.frozen? ⟨q, k * 3 + 2, none⟩ = false := by
  have := h.js.lt; have h0 := h.js.P0; have h1 := h.js.P1
  have hl : (bs.set k ⟨x.f, x.t, v⟩).length = bs.length := List.length_set
  have e0 : q ≠ w0.heap.size := fun e => h.js.ne0 (by simp [Value.ownBlock, e])
  have eP : q ≠ P := fun e => h.js.neP (by simp [Value.ownBlock, e])
  obtain ⟨ho, hf⟩ := own_setM v h.js.own hx
  have hq := (h.js.own.lt q (by simp [Value.ownBlock])).1
  refine ⟨⟨⟨h.js.rd.set _ (by dsimp only; omega) _, gr_set h.js.gr _ (.inl (by dsimp only; omega)) _, h.js.lt, h.js.P0, by simpa using h1, ?_, ?_, fun i => ?_, ?_, ?_, fun i => ?_, ho, by simpa [Value.ownBlock] using e0, by simpa [Value.ownBlock] using eP⟩, ?_⟩, hf⟩
  · rw [set_other (by dsimp only; omega)]; exact h.js.z0
  · rw [set_other (by dsimp only; omega)]; exact h.js.z1
  · rw [← h.js.zf i]; simp
  · rw [set_other (by dsimp only; omega)]; exact h.js.c0
  · rw [set_other (by dsimp only; omega), hl]; exact h.js.c1
  · rw [← h.js.cf i]; simp
  · rw [set_other (by dsimp only; omega)]; exact h.z2
end
theorem pick_ds {w0 : World} {g P : Nat} {K n : Int} {A : Option Addr} {c : Nat} {bs : List Bd} (m : Int) (w : World) (h : DS w0 w g P K n A c bs) (hK : 0 ≤ K ∧ K ≤ 1000000000) (hm : -1000000000 ≤ m ∧ m ≤ 1000000000) :
    Calls Try.prog 88 #[.pointer (some ⟨g, 0, none⟩), .int .i64 m] w fun e w' =>
      ∃ v : Int, e = .returned (.int .i64 v) ∧ 0 ≤ v ∧ (1 ≤ m → v < m) ∧ (m < 1 → v = 0) ∧ DS w0 w' g P (K + 1) n A c bs ∧ w.grownBy w' (some g) ∧ w'.heap.size = w.heap.size := by
  refine (pick_c g K m w hK hm h.js.rd).mono ?_
  rintro e w' ⟨v, rfl, h1, h2, h3, h4, h5, h6⟩
  exact ⟨v, rfl, h1, h2, h3, h.pick h4 h5, h5, h6⟩

/-- .. the plan's box a case's. -/
theorem ds_new3 {w w1 : World} {g : Nat} {K n : Int} {A : Option Addr} {c : Nat} {bs : List Bd} {t t' : TypeId} (G : (w.alloc (.cells #[.int .i64 0, .slice none 0 0, .slice none 0 0] t')).grownBy w1 (some g)) (hg : g < w.heap.size) (hR : RdO w1 g K)
    (hown : OwnB (w.alloc (.cells #[.int .i64 0, .slice none 0 0, .slice none 0 0] t')).heap.size w1 (.slice A bs.length c) bs) : DS w (w1.alloc (.cells #[.int .i64 n, .slice A bs.length c, .slice none 0 0] t)) g w1.heap.size K n A c bs := by
  have hs : w.heap.size < w1.heap.size := by have := G.size; simp only [World.size_alloc] at this; omega
  have hl := fun q hq => hown.lt q hq
  simp only [World.size_alloc] at hl
  refine ⟨⟨hR.alloc _, gr_alloc (gr_pick (gr_new w _ _) G) _, hg, hs, by simp, ?_, ?_, fun i => ?_, by simp [go_sem], by simp [go_sem], fun i => by simp [go_sem], ?_, fun e => ?_, fun e => ?_⟩, ?_⟩
  · rw [World.cell?_alloc_past _ _ _ hs]; exact far_cell G (by simp [go_sem]) (by omega)
  · rw [World.cell?_alloc_past _ _ _ hs]; exact far_cell G (by simp [go_sem]) (by omega)
  · rw [World.frozen?_alloc_past _ _ _ hs]; exact far_frozen G (by simp [go_sem]) (by simp) (by omega)
  · exact own_less (hown.alloc _) (by simp)
  · have := (hl _ e).1; omega
  · have := (hl _ e).2; omega
  · rw [World.cell?_alloc_past _ _ _ hs]; exact far_cell G (by simp [go_sem]) (by omega)

theorem three_cells {w : World} {g : Nat} {a b d x y z : Value} (h0 : w.cell? ⟨g, 0, none⟩ = some x) (h1 : w.cell? ⟨g, 1, none⟩ = some y) (h2 : w.cell? ⟨g, 2, none⟩ = some z) :
    (((w.setCell ⟨g, 0, none⟩ a).setCell ⟨g, 1, none⟩ b).setCell ⟨g, 2, none⟩ d).cell? ⟨g, 0, none⟩ = some a ∧ (((w.setCell ⟨g, 0, none⟩ a).setCell ⟨g, 1, none⟩ b).setCell ⟨g, 2, none⟩ d).cell? ⟨g, 1, none⟩ = some b ∧ (((w.setCell ⟨g, 0, none⟩ a).setCell ⟨g, 1, none⟩ b).setCell ⟨g, 2, none⟩ d).cell? ⟨g, 2, none⟩ = some d := by
  obtain ⟨r0, r1⟩ := two_cells (a := a) (b := b) h0 h1
  refine ⟨?_, ?_, ?_⟩
  · rw [World.cell?_setCell_other _ _ _ _ (by simp)]; exact r0
  · rw [World.cell?_setCell_other _ _ _ _ (by simp)]; exact r1
  · exact World.cell?_setCell_same (u := z) _ _ _ ((World.cell?_setCell_other _ _ _ _ (by simp)).trans ((World.cell?_setCell_other _ _ _ _ (by simp)).trans h2))
theorem own_cap {w : World} {base : Nat} {e : TypeId} {size : Nat} {A : Option Addr} {n c : Nat} {cs : List Value} (h : w.ownsRow base e size (.slice A n c) n cs) : n ≤ c := by
  obtain ⟨A2, g, c2, hv, h1, _, _⟩ := own_form h
  injection hv with e1 _ e3
  subst e1; subst e3
  rcases Nat.eq_zero_or_pos n with h0 | h0
  · omega
  · rw [h1 h0] at h
    obtain ⟨_, _, _, _, h5, _⟩ := own_row h
    exact h5
theorem bds_off {w : World} {B b o : Nat} {A : Option Addr} {bs : List Bd} (h : BdsR w B b o A bs) (p : Addr) (v : Value) (hp : 0 < bs.length → b ≠ p.block) : BdsR (w.setCell p v) B b o A bs := by
  have hl : ∀ (j : Nat) (x : Bd), bs[j]? = some x → p.block ≠ b := fun j x hx => Ne.symm (hp (by have := (List.getElem?_eq_some_iff.1 hx).1; omega))
  exact ⟨h.addr, h.lt, fun j x hx => (set_other (hl j x hx)).trans (h.c0 j x hx), fun j x hx => (set_other (hl j x hx)).trans (h.c1 j x hx), fun j x hx => (set_other (hl j x hx)).trans (h.c2 j x hx)⟩

/-- A row of rows of one's own. -/
def OwnCh (lo : Nat) (W : World) (A2 : Option Addr) (c2 : Nat) (cs : List (List Bd)) : Prop :=
  ∃ vs : List Value, vs.length = cs.length ∧ W.ownsRow lo 30 1 (.slice A2 cs.length c2) cs.length vs ∧ ∀ (j : Nat) (l : List Bd), cs[j]? = some l → ∃ A' c', vs[j]? = some (.slice A' l.length c') ∧ OwnB lo W (.slice A' l.length c') l
theorem OwnCh.set_low {lo : Nat} {W : World} {A2 : Option Addr} {c2 : Nat} {cs : List (List Bd)} (h : OwnCh lo W A2 c2 cs) {p : Addr} (hp : p.block < lo) (u : Value) : OwnCh lo (W.setCell p u) A2 c2 cs := by
  obtain ⟨vs, hl, ho, hr⟩ := h
  refine ⟨vs, hl, own_set_low ho hp u, fun j l hj => ?_⟩
  obtain ⟨A', c', e, ho'⟩ := hr j l hj
  exact ⟨A', c', e, own_set_low ho' hp u⟩
theorem OwnCh.far {lo g : Nat} {W W' : World} {A2 : Option Addr} {c2 : Nat} {cs : List (List Bd)} (h : OwnCh lo W A2 c2 cs) (hg : W.grownBy W' (some g)) (hp : g < lo) : OwnCh lo W' A2 c2 cs := by
  obtain ⟨vs, hl, ho, hr⟩ := h
  refine ⟨vs, hl, own_far ho hg hp, fun j l hj => ?_⟩
  obtain ⟨A', c', e, ho'⟩ := hr j l hj
  exact ⟨A', c', e, own_far ho' hg hp⟩
theorem OwnCh.below {lo : Nat} {W W' : World} {A2 : Option Addr} {c2 : Nat} {cs : List (List Bd)} (h : OwnCh lo W A2 c2 cs) (hb : Below W.heap.size W W') : OwnCh lo W' A2 c2 cs := by
  obtain ⟨vs, hl, ho, hr⟩ := h
  refine ⟨vs, hl, own_below ho hb, fun j l hj => ?_⟩
  obtain ⟨A', c', e, ho'⟩ := hr j l hj
  exact ⟨A', c', e, own_below ho' hb⟩
theorem OwnCh.reads {lo : Nat} {W : World} {A2 : Option Addr} {c2 : Nat} {cs : List (List Bd)} (h : OwnCh lo W A2 c2 cs) : ∃ b, ChR W W.heap.size b 0 A2 cs := by
  obtain ⟨vs, hl, ho, hrow⟩ := h
  obtain ⟨A', g2, c', hv, k1, k2, k3⟩ := own_form ho
  injection hv with e1 _ e3
  subst e1
  refine ⟨g2, k1, fun hx => (k2 hx).2, fun j l hj => ?_⟩
  obtain ⟨A8, c8, e, ho8⟩ := hrow j l hj
  obtain ⟨g8, hr8⟩ := OwnB.readsA ho8
  exact ⟨A8, g8, 0, c8, by rw [Nat.zero_add]; exact k3 j _ e, hr8⟩
/-- A drawn case in its box, with rows of its own. -/
structure CQ (w0 wr : World) (g P : Nat) (K n : Int) (A : Option Addr) (c : Nat) (bs : List Bd) (A2 : Option Addr) (c2 : Nat) (cs : List (List Bd)) : Prop where
  ds : DS w0 wr g P K n A c bs
  lo : ∀ q, (Value.slice A bs.length c).ownBlock = some q → q < P
  p2 : wr.cell? ⟨P, 2, none⟩ = some (.slice A2 cs.length c2)
  rows : ∃ vs : List Value, vs.length = cs.length ∧ wr.ownsRow (P + 1) 30 1 (.slice A2 cs.length c2) cs.length vs ∧ ∀ (j : Nat) (l : List Bd), cs[j]? = some l → ∃ A' c', vs[j]? = some (.slice A' l.length c') ∧ OwnB (P + 1) wr (.slice A' l.length c') l
section
variable {w0 wr w' : World} {g P : Nat} {K K' n : Int} {A A2 : Option Addr} {c c2 : Nat} {bs : List Bd} {cs : List (List Bd)}
theorem CQ.more (h : CQ w0 wr g P K n A c bs A2 c2 cs) (hK : K ≤ K') : CQ w0 wr g P K' n A c bs A2 c2 cs := { h with ds := h.ds.more hK }
theorem CQ.pick (h : CQ w0 wr g P K n A c bs A2 c2 cs) (hR : RdO w' g K') (hg : wr.grownBy w' (some g)) : CQ w0 w' g P K' n A c bs A2 c2 cs := by
  have := h.ds.js.lt; have h0 := h.ds.js.P0; have h1 := h.ds.js.P1
  obtain ⟨vs, hl, ho, hr⟩ := h.rows
  refine ⟨h.ds.pick hR hg, h.lo, far_cell hg h.p2 (by omega), vs, hl, own_far ho hg (by omega), fun j l hj => ?_⟩
  obtain ⟨A', c', e, ho'⟩ := hr j l hj
  exact ⟨A', c', e, own_far ho' hg (by omega)⟩
theorem CQ.below (h : CQ w0 wr g P K n A c bs A2 c2 cs) (hb : Below wr.heap.size wr w') : CQ w0 w' g P K n A c bs A2 c2 cs := by
  have h1 := h.ds.js.P1
  obtain ⟨vs, hl, ho, hr⟩ := h.rows
  refine ⟨h.ds.below hb, h.lo, ((bcell hb).1 _ _ h1).trans h.p2, vs, hl, own_below ho hb, fun j l hj => ?_⟩
  obtain ⟨A', c', e, ho'⟩ := hr j l hj
  exact ⟨A', c', e, own_below ho' hb⟩
theorem CQ.alloc (h : CQ w0 wr g P K n A c bs A2 c2 cs) (o : Obj) : CQ w0 (wr.alloc o) g P K n A c bs A2 c2 cs := h.below (by go_grown)
theorem CQ.drew (h : CQ w0 wr g P K n A c bs A2 c2 cs) : CQ w0 wr.drew g P K n A c bs A2 c2 cs := h.below (by go_grown)
end
section
variable {w0 wr w3 : World} {g P q m : Nat} {K n : Int} {A A2 A3 : Option Addr} {c c2 c3 : Nat} {bs : List Bd} {cs : List (List Bd)}
/-- The plan's first m bounds alone. -/
theorem CQ.take (h : CQ w0 wr g P K n (some ⟨q, 0, none⟩) c bs A2 c2 cs) (hm : m ≤ bs.length) : CQ w0 (wr.setCell ⟨P, 1, none⟩ (.slice (some ⟨q, 0, none⟩) m c)) g P K n (some ⟨q, 0, none⟩) c (bs.take m) A2 c2 cs := by
  obtain ⟨vs, hl, ho, hr⟩ := h.rows
  refine ⟨h.ds.take hm, fun k hk => h.lo k (by simpa [Value.ownBlock] using hk), by rw [set_ne (by simp)]; exact h.p2, vs, hl, own_set_low ho (by dsimp only; omega) _, fun j l hj => ?_⟩
  obtain ⟨A', c', e, ho'⟩ := hr j l hj
  exact ⟨A', c', e, own_set_low ho' (by dsimp only; omega) _⟩
/-- The choices put anew. -/
theorem CQ.put2 (h : CQ w0 wr g P K n A c bs A2 c2 cs) {cs3 : List (List Bd)} {vs : List Value} (hl : vs.length = cs3.length) (ho : wr.ownsRow (P + 1) 30 1 (.slice A3 cs3.length c3) cs3.length vs)
    (hr : ∀ (j : Nat) (l : List Bd), cs3[j]? = some l → ∃ A' c', vs[j]? = some (.slice A' l.length c') ∧ OwnB (P + 1) wr (.slice A' l.length c') l) : CQ w0 (wr.setCell ⟨P, 2, none⟩ (.slice A3 cs3.length c3)) g P K n A c bs A3 c3 cs3 := by
  have := h.ds.js.lt; have h0 := h.ds.js.P0; have h1 := h.ds.js.P1
  refine ⟨⟨⟨h.ds.js.rd.set _ (by dsimp only; omega) _, gr_set h.ds.js.gr _ (.inl (by dsimp only; omega)) _, h.ds.js.lt, h.ds.js.P0, by simpa using h1, ?_, ?_, fun i => ?_, ?_, ?_, fun i => ?_, own_set h.ds.js.own h.ds.js.neP _, h.ds.js.ne0, h.ds.js.neP⟩, ?_⟩, h.lo, World.cell?_setCell_same _ _ _ h.p2, vs, hl, own_set_low ho (by dsimp only; omega) _, fun j l hj => ?_⟩
  · rw [set_other (by dsimp only; omega)]; exact h.ds.js.z0
  · rw [set_other (by dsimp only; omega)]; exact h.ds.js.z1
  · rw [← h.ds.js.zf i]; simp
  · rw [set_ne (by simp)]; exact h.ds.js.c0
  · rw [set_ne (by simp)]; exact h.ds.js.c1
  · rw [← h.ds.js.cf i]; simp
  · rw [set_other (by dsimp only; omega)]; exact h.ds.z2
  · obtain ⟨A', c', e, ho'⟩ := hr j l hj
    exact ⟨A', c', e, own_set_low ho' (by dsimp only; omega) _⟩
/-- A row more. -/
theorem CQ.push (h : CQ w0 wr g P K n A c bs A2 c2 cs) {l : List Bd} {A8 : Option Addr} {c8 : Nat} {vs : List Value} (hL : OwnB (P + 1) wr (.slice A8 l.length c8) l) (hlv : vs.length = cs.length) (hov : wr.ownsRow (P + 1) 30 1 (.slice A2 cs.length c2) cs.length vs)
    (hrv : ∀ (j : Nat) (l : List Bd), cs[j]? = some l → ∃ A' c', vs[j]? = some (.slice A' l.length c') ∧ OwnB (P + 1) wr (.slice A' l.length c') l)
    (hg : wr.grownBy w3 (Value.slice A2 cs.length c2).ownBlock) (ho : w3.ownsRow (P + 1) 30 1 (.slice A3 (cs.length + 1) c3) (cs.length + 1) (vs ++ [.slice A8 l.length c8])) :
    CQ w0 (w3.setCell ⟨P, 2, none⟩ (.slice A3 (cs.length + 1) c3)) g P K n A c bs A3 c3 (cs ++ [l]) ∧ w3.cell? ⟨P, 2, none⟩ = some (.slice A2 cs.length c2) ∧ w3.frozen? ⟨P, 2, none⟩ = false := by
  have h0 := h.ds.js.P0; have h1 := h.ds.js.P1
  have hq : ∀ k, (Value.slice A2 cs.length c2).ownBlock = some k → P + 1 ≤ k := fun k hk => (hov.lt k hk).1
  have kP : some P ≠ (Value.slice A2 cs.length c2).ownBlock := fun e => by have := hq _ e.symm; omega
  have hkeep : ∀ {A' : Option Addr} {c' : Nat} {l' : List Bd}, OwnB (P + 1) wr (.slice A' l'.length c') l' → OwnB (P + 1) w3 (.slice A' l'.length c') l' := fun {A' c' l'} ho' => by
    refine ho'.kept hg ?_
    cases hk : (Value.slice A2 cs.length c2).ownBlock with
    | none =>
      cases hv : (Value.slice A' l'.length c').ownBlock with
      | none => exact .inl rfl
      | some k => exact .inr (by simp)
    | some k => exact .inr (own_ne ho' hov (by decide) hk)
  have hP2 := hg.cell h.p2 kP
  have hPf : w3.frozen? ⟨P, 2, none⟩ = false := (hg.frozen_far ⟨P, 2, none⟩ h1 kP).trans (h.ds.js.cf 2)
  have hc3 : CQ w0 w3 g P K n A c bs A2 c2 cs ∨ True := .inr trivial
  have hds : DS w0 w3 g P K n A c bs := by
    refine ⟨h.ds.js.other hg (fun k e => ⟨by have := hq k e; omega, fun e2 => by have := h.lo _ e2; have := hq k e; omega⟩), ?_⟩
    exact hg.cell h.ds.z2 (fun e => by have := hq w0.heap.size e.symm; omega)
  have hl2 : (cs ++ [l]).length = cs.length + 1 := by simp
  refine ⟨?_, hP2, hPf⟩
  have hds2 := hds
  have hb1 := hds.js.P1
  have hlt := hds.js.lt
  have hrows : ∀ (j : Nat) (l' : List Bd), (cs ++ [l])[j]? = some l' → ∃ A' c', (vs ++ [Value.slice A8 l.length c8])[j]? = some (.slice A' l'.length c') ∧ OwnB (P + 1) (w3.setCell ⟨P, 2, none⟩ (.slice A3 (cs.length + 1) c3)) (.slice A' l'.length c') l' := fun j l' hj => by
    by_cases e : j < cs.length
    · rw [List.getElem?_append_left e] at hj
      obtain ⟨A', c', e1, ho'⟩ := hrv j l' hj
      exact ⟨A', c', by rw [List.getElem?_append_left (by omega)]; exact e1, own_set_low (hkeep ho') (by dsimp only; omega) _⟩
    · have hjl := (List.getElem?_eq_some_iff.1 hj).1
      rw [hl2] at hjl
      have e1 : j = cs.length := by omega
      subst e1
      simp at hj
      subst hj
      exact ⟨A8, c8, by rw [← hlv]; simp, own_set_low (hkeep hL) (by dsimp only; omega) _⟩
  refine ⟨⟨⟨hds.js.rd.set _ (by dsimp only; omega) _, gr_set hds.js.gr _ (.inl (by dsimp only; omega)) _, hlt, h0, by simpa using hb1, ?_, ?_, fun i => ?_, ?_, ?_, fun i => ?_, own_set hds.js.own hds.js.neP _, hds.js.ne0, hds.js.neP⟩, ?_⟩, h.lo, by rw [hl2]; exact World.cell?_setCell_same _ _ _ hP2, _, by simp [hlv], by rw [hl2]; exact own_set_low ho (by dsimp only; omega) _, hrows⟩
  · rw [set_other (by dsimp only; omega)]; exact hds.js.z0
  · rw [set_other (by dsimp only; omega)]; exact hds.js.z1
  · rw [← hds.js.zf i]; simp
  · rw [set_ne (by simp)]; exact hds.js.c0
  · rw [set_ne (by simp)]; exact hds.js.c1
  · rw [← hds.js.cf i]; simp
  · rw [set_other (by dsimp only; omega)]; exact hds.z2
/-- Handed back. -/
theorem CQ.fin (h : CQ w0 wr g P K n A c bs A2 c2 cs) {W : World} (hW : ((wr.setCell ⟨w0.heap.size, 0, none⟩ (.int .i64 n)).setCell ⟨w0.heap.size, 1, none⟩ (.slice A bs.length c)).setCell ⟨w0.heap.size, 2, none⟩ (.slice A2 cs.length c2) = W) :
    W.cell? ⟨w0.heap.size, 0, none⟩ = some (.int .i64 n) ∧ W.cell? ⟨w0.heap.size, 1, none⟩ = some (.slice A bs.length c) ∧ W.cell? ⟨w0.heap.size, 2, none⟩ = some (.slice A2 cs.length c2) ∧
    OwnB w0.heap.size W (.slice A bs.length c) bs ∧ OwnCh w0.heap.size W A2 c2 cs ∧ cs.length ≤ c2 ∧ RdO W g K ∧ w0.grownBy W (some g) := by
  have := h.ds.js.lt; have h0 := h.ds.js.P0; have h1 := h.ds.js.P1
  obtain ⟨r0, r1, r2⟩ := three_cells (a := .int .i64 n) (b := .slice A bs.length c) (d := .slice A2 cs.length c2) h.ds.js.z0 h.ds.js.z1 h.ds.z2
  rw [hW] at r0 r1 r2
  obtain ⟨vs, hl, ho, hr⟩ := h.rows
  have hoB : OwnB w0.heap.size W (.slice A bs.length c) bs := by
    rw [← hW]
    exact own_set (own_set (own_set h.ds.js.own (p := ⟨w0.heap.size, 0, none⟩) h.ds.js.ne0 _) (p := ⟨w0.heap.size, 1, none⟩) h.ds.js.ne0 _) (p := ⟨w0.heap.size, 2, none⟩) h.ds.js.ne0 _
  have hsz : W.heap.size = wr.heap.size := by rw [← hW]; simp
  have hoC : W.ownsRow (P + 1) 30 1 (.slice A2 cs.length c2) cs.length vs := by
    rw [← hW]
    exact own_set_low (own_set_low (own_set_low ho (p := ⟨w0.heap.size, 0, none⟩) (by dsimp only; omega) _) (p := ⟨w0.heap.size, 1, none⟩) (by dsimp only; omega) _) (p := ⟨w0.heap.size, 2, none⟩) (by dsimp only; omega) _
  have hrow : ∀ (j : Nat) (l : List Bd), cs[j]? = some l → ∃ A' c', vs[j]? = some (.slice A' l.length c') ∧ OwnB (P + 1) W (.slice A' l.length c') l := fun j l hj => by
    obtain ⟨A', c', e, ho'⟩ := hr j l hj
    refine ⟨A', c', e, ?_⟩
    rw [← hW]
    exact own_set_low (own_set_low (own_set_low ho' (p := ⟨w0.heap.size, 0, none⟩) (by dsimp only; omega) _) (p := ⟨w0.heap.size, 1, none⟩) (by dsimp only; omega) _) (p := ⟨w0.heap.size, 2, none⟩) (by dsimp only; omega) _
  refine ⟨r0, r1, r2, hoB, ⟨vs, hl, own_less hoC (by omega), fun j l hj => ?_⟩, own_cap hoC, ?_, ?_⟩
  · obtain ⟨A', c', e, ho'⟩ := hrow j l hj
    exact ⟨A', c', e, own_less ho' (by omega)⟩
  · rw [← hW]; exact ((h.ds.js.rd.set _ (by dsimp only; omega) _).set _ (by dsimp only; omega) _).set _ (by dsimp only; omega) _
  · rw [← hW]; exact gr_set (gr_set (gr_set h.ds.js.gr _ (.inl (Nat.le_refl _)) _) _ (.inl (Nat.le_refl _)) _) _ (.inl (Nat.le_refl _)) _
end
theorem cq_new {w w1 : World} {g : Nat} {K n : Int} {A : Option Addr} {c : Nat} {bs : List Bd} {t t' : TypeId} (G : (w.alloc (.cells #[.int .i64 0, .slice none 0 0, .slice none 0 0] t')).grownBy w1 (some g)) (hg : g < w.heap.size) (hR : RdO w1 g K)
    (hown : OwnB (w.alloc (.cells #[.int .i64 0, .slice none 0 0, .slice none 0 0] t')).heap.size w1 (.slice A bs.length c) bs) : CQ w (w1.alloc (.cells #[.int .i64 n, .slice A bs.length c, .slice none 0 0] t)) g w1.heap.size K n A c bs none 0 [] :=
  ⟨ds_new3 G hg hR hown, fun q hq => (hown.lt q hq).2, by simp [go_sem], [], rfl, World.ownsRow_nil _ _ _ _, fun j l hj => by simp at hj⟩
theorem pick_cq {w0 : World} {g P : Nat} {K n : Int} {A A2 : Option Addr} {c c2 : Nat} {bs : List Bd} {cs : List (List Bd)} (m : Int) (w : World) (h : CQ w0 w g P K n A c bs A2 c2 cs) (hK : 0 ≤ K ∧ K ≤ 1000000000) (hm : -1000000000 ≤ m ∧ m ≤ 1000000000) :
    Calls Try.prog 88 #[.pointer (some ⟨g, 0, none⟩), .int .i64 m] w fun e w' =>
      ∃ v : Int, e = .returned (.int .i64 v) ∧ 0 ≤ v ∧ (1 ≤ m → v < m) ∧ (m < 1 → v = 0) ∧ CQ w0 w' g P (K + 1) n A c bs A2 c2 cs ∧ w.grownBy w' (some g) ∧ w'.heap.size = w.heap.size := by
  refine (pick_c g K m w hK hm h.ds.js.rd).mono ?_
  rintro e w' ⟨v, rfl, h1, h2, h3, h4, h5, h6⟩
  exact ⟨v, rfl, h1, h2, h3, h.pick h4 h5, h5, h6⟩
end Go.Proofs.Ytledgblepdjjlaa
