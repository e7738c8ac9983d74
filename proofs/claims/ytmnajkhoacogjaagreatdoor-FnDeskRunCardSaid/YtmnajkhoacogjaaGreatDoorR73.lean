/-
 Rows of plans in memory.
 A desk being made in a box of the call's own.
-/
import Derived.Test.YtmnajkhoacogjaaGreatDoorL11a
import Derived.Test.YtmnajkhoacogjaaGreatDoorP60
namespace Go.Proofs.YtmnajkhoacogjaaGreatDoor
set_option linter.unusedVariables false
set_option linter.unusedSimpArgs false
open Go Go.RowKit Pp

theorem infoPl : (Tryz.prog.info? 34).map (fun i => (i.zero, i.size, i.bytes)) = some (some (.agg #[.int .i64 0, .slice none 0 0]), 2, 32) := by kernel_rfl
/-- Two rows of different elements are no one block. -/
theorem own_neT {w : World} {base base' : Nat} {e e' : TypeId} {size size' : Nat} {v v' : Value} {n n' : Nat} {xs xs' : List Value} (h : w.ownsRow base e size v n xs) (h' : w.ownsRow base' e' size' v' n' xs') (hne : e ≠ e') {k : Nat} (hk : v.ownBlock = some k) : v'.ownBlock ≠ some k := fun hk' => by
 rcases h.2 with ⟨rfl, _⟩ | ⟨g, cap, cur, rfl, _, hg, _⟩
 ·simp [Value.ownBlock] at hk
 ·rcases h'.2 with ⟨rfl, _⟩ | ⟨g', cap', cur', rfl, _, hg', _⟩
  ·simp [Value.ownBlock] at hk'
  ·have e1 : g = k := by simpa [Value.ownBlock] using hk
   have e2 : g' = k := by simpa [Value.ownBlock] using hk'
   subst e1
   subst e2
   rw [hg] at hg'
   injection hg' with hg'
   injection hg' with _ ht
   exact hne ht
/-- Plans that are read. -/
structure PlsR (w : World) (B b o : Nat) (A : Option Addr) (ps : List Pl) : Prop where
 addr : 0 < ps.length → A = some ⟨b, o, none⟩
 lt : 0 < ps.length → b < B
 row : ∀ (j : Nat) (p : Pl), ps[j]? = some p → ∃ (A' : Option Addr) (b' o' c' : Nat), w.cell? ⟨b, o + j * 2, none⟩ = some (.int .i64 p.n) ∧ w.cell? ⟨b, o + j * 2 + 1, none⟩ = some (.slice A' p.bs.length c') ∧ BdsR w B b' o' A' p.bs
theorem PlsR.below {w w' : World} {B b o : Nat} {A : Option Addr} {ps : List Pl} (h : PlsR w B b o A ps) (hb : Below B w w') : PlsR w' B b o A ps :=
 ⟨h.addr, h.lt, fun j p hp => by
  obtain ⟨A', b', o', c', h0, h1, h2⟩ := h.row j p hp
  have hlt := h.lt (by have := (List.getElem?_eq_some_iff.1 hp).1; omega)
  exact ⟨A', b', o', c', (hb.cell (p := ⟨b, _, none⟩) hlt).trans h0, (hb.cell (p := ⟨b, _, none⟩) hlt).trans h1, h2.below hb⟩⟩
theorem PlsR.more {w : World} {B B' b o : Nat} {A : Option Addr} {ps : List Pl} (h : PlsR w B b o A ps) (hB : B ≤ B') : PlsR w B' b o A ps :=
 ⟨h.addr, fun hx => Nat.lt_of_lt_of_le (h.lt hx) hB, fun j p hp => by
  obtain ⟨A', b', o', c', h0, h1, h2⟩ := h.row j p hp
  exact ⟨A', b', o', c', h0, h1, h2.more hB⟩⟩
theorem PlsR.next {w w' : World} {b o : Nat} {A : Option Addr} {ps : List Pl} (h : PlsR w w.heap.size b o A ps) (hb : Below w.heap.size w w') : PlsR w' w'.heap.size b o A ps := (h.below hb).more hb.size
theorem PlsR.nil (w : World) (B : Nat) (A : Option Addr) : PlsR w B 0 0 A [] := ⟨by simp, by simp, by simp⟩
theorem PlsR.take {w : World} {B b o : Nat} {A : Option Addr} {ps : List Pl} (h : PlsR w B b o A ps) (k : Nat) : PlsR w B b o A (ps.take k) :=
 ⟨fun hx => h.addr (by rw [List.length_take] at hx; omega), fun hx => h.lt (by rw [List.length_take] at hx; omega), fun j p hp => h.row j p (by
  rw [List.getElem?_take] at hp
  split at hp
  ·exact hp
  ·cases hp)⟩
/-- The cells of plans of one's own. -/
def PlC (lo : Nat) (w : World) (ps : List Pl) (cs : List Value) : Prop :=
 cs.length = ps.length * 2 ∧ ∀ (j : Nat) (p : Pl), ps[j]? = some p → cs[j * 2]? = some (.int .i64 p.n) ∧ ∃ A c, cs[j * 2 + 1]? = some (.slice A p.bs.length c) ∧ OwnB lo w (.slice A p.bs.length c) p.bs
theorem PlC.below {lo : Nat} {w w' : World} {ps : List Pl} {cs : List Value} (h : PlC lo w ps cs) (hb : Below w.heap.size w w') : PlC lo w' ps cs :=
 ⟨h.1, fun j p hp => by
  obtain ⟨h0, A, c, h1, h2⟩ := h.2 j p hp
  exact ⟨h0, A, c, h1, own_below h2 hb⟩⟩
theorem PlC.less {lo lo' : Nat} {w : World} {ps : List Pl} {cs : List Value} (h : PlC lo w ps cs) (hl : lo' ≤ lo) : PlC lo' w ps cs :=
 ⟨h.1, fun j p hp => by
  obtain ⟨h0, A, c, h1, h2⟩ := h.2 j p hp
  exact ⟨h0, A, c, h1, own_less h2 hl⟩⟩
theorem PlC.grown {lo lo' : Nat} {w w' : World} {ps : List Pl} {cs ds : List Value} {v : Value} {n : Nat} (h : PlC lo w ps cs) (hv : w.ownsRow lo' 34 2 v n ds) (hg : w.grownBy w' v.ownBlock) : PlC lo w' ps cs :=
 ⟨h.1, fun j p hp => by
  obtain ⟨h0, A, c, h1, h2⟩ := h.2 j p hp
  refine ⟨h0, A, c, h1, World.ownsRow.kept h2 hg ?_⟩
  cases hk : (Value.slice A p.bs.length c).ownBlock with
  | none => exact .inl rfl
  | some k => exact .inr (fun e => own_neT h2 hv (by decide) hk e.symm)⟩
theorem PlC.snoc {lo : Nat} {w : World} {ps : List Pl} {cs : List Value} {p : Pl} {A : Option Addr} {c : Nat} (h : PlC lo w ps cs) (hp : OwnB lo w (.slice A p.bs.length c) p.bs) : PlC lo w (ps ++ [p]) (cs ++ [.int .i64 p.n, .slice A p.bs.length c]) := by
 have hl := h.1
 refine ⟨by simp [hl]; omega, fun j q hq => ?_⟩
 by_cases hj : j < ps.length
 ·rw [List.getElem?_append_left hj] at hq
  obtain ⟨h0, A', c', h1, h2⟩ := h.2 j q hq
  exact ⟨by rw [List.getElem?_append_left (by omega)]; exact h0, A', c', by rw [List.getElem?_append_left (by omega)]; exact h1, h2⟩
 ·have hj2 : j = ps.length := by
   have := (List.getElem?_eq_some_iff.1 hq).1
   simp at this; omega
  subst hj2
  rw [List.getElem?_append_right (Nat.le_refl _), Nat.sub_self] at hq
  simp at hq
  subst hq
  refine ⟨by rw [List.getElem?_append_right (by omega), hl, Nat.sub_self]; rfl, A, c, ?_, hp⟩
  rw [List.getElem?_append_right (by omega), hl, Nat.add_sub_cancel_left]; rfl
/-- A row of plans of one's own. -/
def OwnPs (lo : Nat) (w : World) (v : Value) (ps : List Pl) : Prop := ∃ cs, w.ownsRow lo 34 2 v ps.length cs ∧ PlC lo w ps cs
theorem OwnPs.below {lo : Nat} {w w' : World} {v : Value} {ps : List Pl} (h : OwnPs lo w v ps) (hb : Below w.heap.size w w') : OwnPs lo w' v ps := by
 obtain ⟨cs, h1, h2⟩ := h
 exact ⟨cs, own_below h1 hb, h2.below hb⟩
theorem OwnPs.less {lo lo' : Nat} {w : World} {v : Value} {ps : List Pl} (h : OwnPs lo w v ps) (hl : lo' ≤ lo) : OwnPs lo' w v ps := by
 obtain ⟨cs, h1, h2⟩ := h
 exact ⟨cs, own_less h1 hl, h2.less hl⟩
theorem OwnPs.nil (lo : Nat) (w : World) : OwnPs lo w (.slice none 0 0) [] := ⟨[], World.ownsRow_nil _ _ _ _, rfl, by simp⟩
theorem OwnPs.reads {lo : Nat} {w : World} {A : Option Addr} {c : Nat} {ps : List Pl} (h : OwnPs lo w (.slice A ps.length c) ps) : ∃ g, PlsR w w.heap.size g 0 A ps := by
 obtain ⟨cs, h1, h2⟩ := h
 obtain ⟨A2, g, c2, hv, e1, e2, e3⟩ := own_form h1
 injection hv with hv1 _ _
 subst hv1
 refine ⟨g, e1, fun hx => (e2 hx).2, fun j p hp => ?_⟩
 have hj := (List.getElem?_eq_some_iff.1 hp).1
 obtain ⟨k0, A', c', k1, k2⟩ := h2.2 j p hp
 obtain ⟨g', hr⟩ := OwnB.readsA k2
 exact ⟨A', g', 0, c', by rw [Nat.zero_add]; exact e3 _ _ k0, by rw [Nat.zero_add]; exact e3 _ _ k1, hr⟩
/-- A desk in a box, that is read. -/
structure DkB (w0 W : World) (X : Nat) (n : Int) (b o : Nat) (A : Option Addr) (c : Nat) (bs : List Bd) (b2 o2 : Nat) (A2 : Option Addr) (c2 : Nat) (ps : List Pl) : Prop where
 bel : Below w0.heap.size w0 W
 lo : w0.heap.size ≤ X
 ex : X < W.heap.size
 c0 : W.cell? ⟨X, 0, none⟩ = some (.int .i64 n)
 c1 : W.cell? ⟨X, 1, none⟩ = some (.slice A bs.length c)
 c2 : W.cell? ⟨X, 2, none⟩ = some (.slice A2 ps.length c2)
 rd : BdsR W W.heap.size b o A bs
 rp : PlsR W W.heap.size b2 o2 A2 ps
section
variable {w0 W W' : World} {X b o b2 o2 c c2 : Nat} {n : Int} {A A2 : Option Addr} {bs : List Bd} {ps : List Pl}
theorem DkB.below (h : DkB w0 W X n b o A c bs b2 o2 A2 c2 ps) (hb : Below W.heap.size W W') : DkB w0 W' X n b o A c bs b2 o2 A2 c2 ps :=
 ⟨bthen h.bel hb, h.lo, Nat.lt_of_lt_of_le h.ex hb.size, ((bcell hb).1 _ _ h.ex).trans h.c0, ((bcell hb).1 _ _ h.ex).trans h.c1, ((bcell hb).1 _ _ h.ex).trans h.c2, (h.rd.below hb).more hb.size, h.rp.next hb⟩
theorem DkB.alloc (h : DkB w0 W X n b o A c bs b2 o2 A2 c2 ps) (x : Obj) : DkB w0 (W.alloc x) X n b o A c bs b2 o2 A2 c2 ps := h.below (by go_grown)
theorem DkB.drew (h : DkB w0 W X n b o A c bs b2 o2 A2 c2 ps) : DkB w0 W.drew X n b o A c bs b2 o2 A2 c2 ps := h.below (by go_grown)
theorem dkb_new {t : TypeId} (hW : Below w0.heap.size w0 W) (hrd : BdsR W W.heap.size b o A bs) (hrp : PlsR W W.heap.size b2 o2 A2 ps) : DkB w0 (W.alloc (.cells #[.int .i64 n, .slice A bs.length c, .slice A2 ps.length c2] t)) W.heap.size n b o A c bs b2 o2 A2 c2 ps := by
 have hb : Below W.heap.size W (W.alloc (.cells #[.int .i64 n, .slice A bs.length c, .slice A2 ps.length c2] t)) := by go_grown
 exact ⟨bthen hW hb, hW.size, by simp, by simp [go_sem], by simp [go_sem], by simp [go_sem], (hrd.below hb).more hb.size, hrp.next hb⟩
/-- A box for a desk that is the zero value. -/
structure ZD (w0 W : World) (Y : Nat) : Prop where
 lo : w0.heap.size ≤ Y
 ex : Y < W.heap.size
 z0 : W.cell? ⟨Y, 0, none⟩ = some (.int .i64 0)
 z1 : W.cell? ⟨Y, 1, none⟩ = some (.slice none 0 0)
 z2 : W.cell? ⟨Y, 2, none⟩ = some (.slice none 0 0)
 zf : ∀ i, W.frozen? ⟨Y, i, none⟩ = false
theorem ZD.grown {Y : Nat} {row : Option Nat} (h : ZD w0 W Y) (hg : W.grownBy W' row) (hr : ∀ k, row = some k → k ≠ Y) : ZD w0 W' Y := by
 have hne : some Y ≠ row := fun e => hr _ e.symm rfl
 exact ⟨h.lo, Nat.lt_of_lt_of_le h.ex hg.size, (hg.cell_far ⟨Y, 0, none⟩ h.ex hne).trans h.z0, (hg.cell_far ⟨Y, 1, none⟩ h.ex hne).trans h.z1, (hg.cell_far ⟨Y, 2, none⟩ h.ex hne).trans h.z2, fun i => (hg.frozen_far ⟨Y, i, none⟩ h.ex hne).trans (h.zf i)⟩
theorem ZD.below {Y : Nat} (h : ZD w0 W Y) (hb : Below W.heap.size W W') : ZD w0 W' Y := h.grown (bel_grown hb) (fun _ e => by cases e)
theorem zd_at {t : TypeId} {Y : Nat} (hX : Y = W.heap.size) (h : w0.heap.size ≤ W.heap.size) : ZD w0 (W.alloc (.cells #[.int .i64 0, .slice none 0 0, .slice none 0 0] t)) Y := by
 subst hX
 exact ⟨h, by simp, by simp [go_sem], by simp [go_sem], by simp [go_sem], fun i => by simp [go_sem]⟩
end

def BoxT (w : World) (X : Nat) (t : TypeId) : Prop := ∃ cs : Array Value, w.heap[X]? = some (.cells cs t (0, 0))
theorem own_box {w : World} {base : Nat} {e t : TypeId} {size : Nat} {v : Value} {n X : Nat} {xs : List Value} (h : w.ownsRow base e size v n xs) (hX : BoxT w X t) (hne : e ≠ t) : v.ownBlock ≠ some X := fun hk => by
 obtain ⟨cs, hX⟩ := hX
 rcases h.2 with ⟨rfl, _⟩ | ⟨g, cap, cur, rfl, _, hg, _⟩
 ·simp [Value.ownBlock] at hk
 ·have e1 : g = X := by simpa [Value.ownBlock] using hk
  subst e1
  rw [hg] at hX
  injection hX with hX
  injection hX with _ ht
  exact hne ht
theorem BoxT.below {w w' : World} {X : Nat} {t : TypeId} (h : BoxT w X t) (hlt : X < w.heap.size) (hb : Below w.heap.size w w') : BoxT w' X t := by
 obtain ⟨cs, h⟩ := h
 exact ⟨cs, (hb.block X hlt).trans h⟩
theorem BoxT.grown {w w' : World} {X : Nat} {t : TypeId} {row : Option Nat} (h : BoxT w X t) (hlt : X < w.heap.size) (hg : w.grownBy w' row) (hr : row ≠ some X) : BoxT w' X t := by
 obtain ⟨cs, h⟩ := h
 exact ⟨cs, (hg.block X hlt (fun e => hr e.symm)).trans h⟩
theorem BoxT.set {w : World} {X : Nat} {t : TypeId} (h : BoxT w X t) (i : Nat) (v : Value) : BoxT (w.setCell ⟨X, i, none⟩ v) X t := by
 obtain ⟨cs, h⟩ := h
 exact ⟨cs.setIfInBounds i v, by simp [World.setCell, Array.getElem?_modify, h]⟩
theorem PlC.set {lo : Nat} {w : World} {X : Nat} {ps : List Pl} {cs : List Value} (h : PlC lo w ps cs) (hX : BoxT w X 37) (i : Nat) (v : Value) : PlC lo (w.setCell ⟨X, i, none⟩ v) ps cs :=
 ⟨h.1, fun j p hp => by
  obtain ⟨h0, A, c, h1, h2⟩ := h.2 j p hp
  exact ⟨h0, A, c, h1, own_set h2 (own_box h2 hX (by decide)) _⟩⟩
/-- A desk that is being made. -/
structure MD (W wr : World) (X : Nat) (n : Int) (A : Option Addr) (c : Nat) (bs : List Bd) (A2 : Option Addr) (c2 : Nat) (ps : List Pl) : Prop where
 bel : Below W.heap.size W wr
 lo : W.heap.size ≤ X
 ex : X < wr.heap.size
 p0 : wr.cell? ⟨X, 0, none⟩ = some (.int .i64 n)
 p1 : wr.cell? ⟨X, 1, none⟩ = some (.slice A bs.length c)
 p2 : wr.cell? ⟨X, 2, none⟩ = some (.slice A2 ps.length c2)
 cf : ∀ i, wr.frozen? ⟨X, i, none⟩ = false
 bx : BoxT wr X 37
 own : OwnB W.heap.size wr (.slice A bs.length c) bs
 ops : OwnPs W.heap.size wr (.slice A2 ps.length c2) ps
section
variable {W wr w' : World} {X c c2 c2' : Nat} {n : Int} {A A2 A2' : Option Addr} {bs : List Bd} {ps : List Pl}
theorem MD.below (h : MD W wr X n A c bs A2 c2 ps) (hb : Below wr.heap.size wr w') : MD W w' X n A c bs A2 c2 ps :=
 ⟨bthen h.bel hb, h.lo, Nat.lt_of_lt_of_le h.ex hb.size, ((bcell hb).1 _ _ h.ex).trans h.p0, ((bcell hb).1 _ _ h.ex).trans h.p1, ((bcell hb).1 _ _ h.ex).trans h.p2, fun i => ((bcell hb).2 _ _ h.ex).trans (h.cf i), h.bx.below h.ex hb, own_below h.own hb, h.ops.below hb⟩
theorem MD.alloc (h : MD W wr X n A c bs A2 c2 ps) (x : Obj) : MD W (wr.alloc x) X n A c bs A2 c2 ps := h.below (by go_grown)
theorem MD.drew (h : MD W wr X n A c bs A2 c2 ps) : MD W wr.drew X n A c bs A2 c2 ps := h.below (by go_grown)
theorem md_new (hW : Below W.heap.size W wr) (own : OwnB W.heap.size wr (.slice A bs.length c) bs) : MD W (wr.alloc (.cells #[.int .i64 n, .slice A bs.length c, .slice none 0 0] 37)) wr.heap.size n A c bs none 0 [] := by
 have hb : Below wr.heap.size wr (wr.alloc (.cells #[.int .i64 n, .slice A bs.length c, .slice none 0 0] 37)) := by go_grown
 exact ⟨bthen hW hb, hW.size, by simp, by simp [go_sem], by simp [go_sem], by simp [go_sem], fun i => by simp [go_sem], ⟨_, at_new rfl⟩, own_below own hb, OwnPs.nil _ _⟩
/-- Behind an append onto its plans of before: they are stored. -/
theorem MD.app {p : Pl} {Ap : Option Addr} {cp : Nat} {cs : List Value} (h : MD W wr X n A c bs A2 c2 ps) (hrow : wr.ownsRow W.heap.size 34 2 (.slice A2 ps.length c2) ps.length cs) (hplc : PlC W.heap.size wr ps cs) (hp : OwnB W.heap.size wr (.slice Ap p.bs.length cp) p.bs)
  (hg : wr.grownBy w' (Value.slice A2 ps.length c2).ownBlock) (hown : w'.ownsRow W.heap.size 34 2 (.slice A2' (ps.length + 1) c2') (ps.length + 1) (cs ++ [.int .i64 p.n, .slice Ap p.bs.length cp])) :
  w'.cell? ⟨X, 2, none⟩ = some (.slice A2 ps.length c2) ∧ w'.frozen? ⟨X, 2, none⟩ = false ∧ MD W (w'.setCell ⟨X, 2, none⟩ (.slice A2' (ps.length + 1) c2')) X n A c bs A2' c2' (ps ++ [p]) ∧ Below W.heap.size W w' := by
 have hneX := own_box hrow h.bx (by decide)
 have hne : some X ≠ (Value.slice A2 ps.length c2).ownBlock := fun e => hneX e.symm
 have e0 : w'.cell? ⟨X, 0, none⟩ = some (.int .i64 n) := (hg.cell_far ⟨X, 0, none⟩ h.ex hne).trans h.p0
 have e1 : w'.cell? ⟨X, 1, none⟩ = some (.slice A bs.length c) := (hg.cell_far ⟨X, 1, none⟩ h.ex hne).trans h.p1
 have e2 : w'.cell? ⟨X, 2, none⟩ = some (.slice A2 ps.length c2) := (hg.cell_far ⟨X, 2, none⟩ h.ex hne).trans h.p2
 have ef : ∀ i, w'.frozen? ⟨X, i, none⟩ = false := fun i => (hg.frozen_far ⟨X, i, none⟩ h.ex hne).trans (h.cf i)
 have hb : Below W.heap.size W w' := below_app h.bel hrow hg (Nat.le_refl _) h.bel.size
 have hbx : BoxT w' X 37 := h.bx.grown h.ex hg hneX
 have ownB' : OwnB W.heap.size w' (.slice A bs.length c) bs := World.ownsRow.kept h.own hg (by
  cases hk : (Value.slice A bs.length c).ownBlock with
  | none => exact .inl rfl
  | some k => exact .inr (fun e => own_neT h.own hrow (by decide) hk e.symm))
 have hp' : OwnB W.heap.size w' (.slice Ap p.bs.length cp) p.bs := World.ownsRow.kept hp hg (by
  cases hk : (Value.slice Ap p.bs.length cp).ownBlock with
  | none => exact .inl rfl
  | some k => exact .inr (fun e => own_neT hp hrow (by decide) hk e.symm))
 have hplc' := (hplc.grown hrow hg).snoc hp'
 have hl : (ps ++ [p]).length = ps.length + 1 := by simp
 refine ⟨e2, ef 2, ⟨hb.setCell h.lo _, h.lo, by have := hg.size; have := h.ex; simp; omega, ?_, ?_, ?_, fun i => ?_, hbx.set _ _, own_set ownB' (own_box ownB' hbx (by decide)) _, ?_⟩, hb⟩
 ·rw [World.cell?_setCell_other _ _ _ _ (by simp)]; exact e0
 ·rw [World.cell?_setCell_other _ _ _ _ (by simp)]; exact e1
 ·rw [hl]; exact World.cell?_setCell_same _ _ _ e2
 ·rw [← ef i]; simp
 ·rw [hl]
  refine ⟨_, ?_, hplc'.set hbx _ _⟩
  rw [hl]
  exact own_set hown (own_box hown hbx (by decide)) _
end
end Go.Proofs.YtmnajkhoacogjaaGreatDoor
