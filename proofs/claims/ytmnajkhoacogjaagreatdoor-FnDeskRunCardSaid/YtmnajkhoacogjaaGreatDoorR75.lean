/-
 A drawn term: rows of marks in a row.
 Desks that are handed back; stores into a desk's box.
 A drawn deed in its box.
 A drawn desk in its box.
-/
import Derived.Test.YtmnajkhoacogjaaGreatDoorD2
import Derived.Test.YtmnajkhoacogjaaGreatDoorR70
import Derived.Test.YtmnajkhoacogjaaGreatDoorS9d
import Derived.Test.YtmnajkhoacogjaaGreatDoorS6
namespace Go.Proofs.YtmnajkhoacogjaaGreatDoor
set_option linter.unusedVariables false
set_option linter.unusedSimpArgs false
open Go Go.RowKit Pp

open Go Go.RowKit Pp

theorem infoMS : (Tryz.prog.info? 99).map (fun i => (i.zero, i.size, i.bytes)) = some (some (.slice none 0 0), 1, 24) := by kernel_rfl
theorem own_one (A : Option Addr) (n m c c' : Nat) : (Value.slice A n c).ownBlock = (Value.slice A m c').ownBlock := by cases A <;> rfl
/-- A row of marks of one's own, of at most M. -/
def MRow (lo : Nat) (wx : World) (M : Nat) (u : Value) : Prop := ∃ A c, ∃ t : List Mk, u = .slice A t.length c ∧ OwnM lo wx (.slice A t.length c) t ∧ 1 ≤ t.length ∧ t.length ≤ M
theorem MRow.below {lo : Nat} {wx w' : World} {M : Nat} {u : Value} (h : MRow lo wx M u) (hb : Below wx.heap.size wx w') : MRow lo w' M u := by
 obtain ⟨A, c, t, e, ho, hl⟩ := h
 exact ⟨A, c, t, e, own_below ho hb, hl⟩
theorem MRow.far {lo g : Nat} {wx w' : World} {M : Nat} {u : Value} (h : MRow lo wx M u) (hg : wx.grownBy w' (some g)) (hp : g < lo) : MRow lo w' M u := by
 obtain ⟨A, c, t, e, ho, hl⟩ := h
 exact ⟨A, c, t, e, own_far ho hg hp, hl⟩
theorem MRow.kept {lo : Nat} {wx w' : World} {M : Nat} {u v : Value} (h : MRow lo wx M u) (hg : wx.grownBy w' v.ownBlock) (hne : ∀ k, u.ownBlock = some k → v.ownBlock ≠ some k) : MRow lo w' M u := by
 obtain ⟨A, c, t, e, ho, hl⟩ := h
 refine ⟨A, c, t, e, World.ownsRow.kept ho hg ?_, hl⟩
 subst e
 cases hk : (Value.slice A t.length c).ownBlock with
 | none => exact .inl rfl
 | some k => exact .inr (fun e => hne k hk e.symm)
theorem MRow.more {lo : Nat} {wx : World} {M M' : Nat} {u : Value} (h : MRow lo wx M u) (hM : M ≤ M') : MRow lo wx M' u := by
 obtain ⟨A, c, t, e, ho, hl⟩ := h
 exact ⟨A, c, t, e, ho, hl.1, Nat.le_trans hl.2 hM⟩
theorem MRow.lt {lo : Nat} {wx : World} {M : Nat} {u : Value} (h : MRow lo wx M u) {k : Nat} (hk : u.ownBlock = some k) : lo ≤ k ∧ k < wx.heap.size := by
 obtain ⟨A, c, t, e, ho, hl⟩ := h
 subst e
 exact ho.lt k hk
/-- A row of such rows is being made. -/
structure TR (wD wx : World) (g : Nat) (K : Int) (v : Value) (vs : List Value) (M : Nat) : Prop where
 rd : RdO wx g K
 gr : wD.grownBy wx (some g)
 gl : g < wD.heap.size
 own : wx.ownsRow wD.heap.size 99 1 v vs.length vs
 each : ∀ u ∈ vs, MRow wD.heap.size wx M u ∧ ∀ k, u.ownBlock = some k → v.ownBlock ≠ some k
section
variable {wD wx w' : World} {g : Nat} {K K' : Int} {v v' : Value} {vs vs' : List Value} {M M' : Nat}
theorem TR.more (h : TR wD wx g K v vs M) (hK : K ≤ K') : TR wD wx g K' v vs M := { h with rd := h.rd.more hK }
theorem TR.moreM (h : TR wD wx g K v vs M) (hM : M ≤ M') : TR wD wx g K v vs M' := { h with each := fun u hu => ⟨(h.each u hu).1.more hM, (h.each u hu).2⟩ }
theorem TR.pick (h : TR wD wx g K v vs M) (hR : RdO w' g K') (hg : wx.grownBy w' (some g)) : TR wD w' g K' v vs M :=
 ⟨hR, gr_pick h.gr hg, h.gl, own_far h.own hg h.gl, fun u hu => ⟨(h.each u hu).1.far hg h.gl, (h.each u hu).2⟩⟩
theorem TR.below (h : TR wD wx g K v vs M) (hb : Below wx.heap.size wx w') : TR wD w' g K v vs M :=
 ⟨h.rd.below hb, gr_below h.gr hb, h.gl, own_below h.own hb, fun u hu => ⟨(h.each u hu).1.below hb, (h.each u hu).2⟩⟩
/-- The row itself has turned: of its rows, and one more. -/
theorem TR.app (h : TR wD wx g K v vs M) (hg : wx.grownBy w' v.ownBlock) (hown : w'.ownsRow wD.heap.size 99 1 v' vs'.length vs')
  (hat : v'.ownBlock = v.ownBlock ∨ v'.ownBlock = some wx.heap.size) (hsub : ∀ u ∈ vs', MRow wD.heap.size wx M u ∧ ∀ k, u.ownBlock = some k → v.ownBlock ≠ some k) : TR wD w' g K v' vs' M := by
 have hq : ∀ k, v.ownBlock = some k → wD.heap.size ≤ k := fun k hk => (h.own.lt k hk).1
 refine ⟨h.rd.other hg (fun k e => by have := hq k e; have := h.gl; omega), gr_then h.gr hg (fun k e => .inl (hq k e)), h.gl, hown, fun u hu => ?_⟩
 obtain ⟨h1, h2⟩ := hsub u hu
 refine ⟨h1.kept hg h2, fun k hk e => ?_⟩
 rcases hat with e1 | e1
 ·exact h2 k hk (e1 ▸ e)
 ·rw [e1] at e; injection e with e; have := (h1.lt hk).2; omega
/-- Another block has turned. -/
theorem TR.aside {row : Option Nat} (h : TR wD wx g K v vs M) (hg : wx.grownBy w' row) (hr : ∀ k, row = some k → wD.heap.size ≤ k ∧ v.ownBlock ≠ some k ∧ ∀ u ∈ vs, u.ownBlock ≠ some k) : TR wD w' g K v vs M := by
 have hgl := h.gl
 refine ⟨h.rd.other hg (fun k e => by have := (hr k e).1; omega), gr_then h.gr hg (fun k e => .inl (hr k e).1), h.gl, h.own.kept hg ?_, fun u hu => ⟨?_, (h.each u hu).2⟩⟩
 ·cases hk : v.ownBlock with
  | none => exact .inl rfl
  | some k => exact .inr (fun e => (hr k e.symm).2.1 hk)
 ·obtain ⟨A, c, t, e, ho, hl⟩ := (h.each u hu).1
  refine ⟨A, c, t, e, World.ownsRow.kept ho hg ?_, hl⟩
  subst e
  cases hk : (Value.slice A t.length c).ownBlock with
  | none => exact .inl rfl
  | some k => exact .inr (fun e => (hr k e.symm).2.2 _ hu hk)
/-- All its blocks are old ones. -/
theorem TR.old (h : TR wD wx g K v vs M) {k : Nat} (hk : wx.heap.size ≤ k) : wD.heap.size ≤ k ∧ v.ownBlock ≠ some k ∧ ∀ u ∈ vs, u.ownBlock ≠ some k :=
 ⟨Nat.le_trans h.gr.size hk, fun e => by have := (h.own.lt k e).2; omega, fun u hu e => by have := ((h.each u hu).1.lt e).2; omega⟩
/-- A new row of such rows. -/
theorem TR.fresh (h : TR wD wx g K v vs M) (hb : Below wx.heap.size wx w') (hown : w'.ownsRow wx.heap.size 99 1 v' vs'.length vs') (hsub : ∀ u ∈ vs', u ∈ vs ∨ MRow wD.heap.size wx M u) : TR wD w' g K v' vs' M := by
 refine ⟨h.rd.below hb, gr_below h.gr hb, h.gl, own_less hown h.gr.size, fun u hu => ?_⟩
 have hu2 : MRow wD.heap.size wx M u := by
  rcases hsub u hu with h1 | h1
  ·exact (h.each u h1).1
  ·exact h1
 exact ⟨hu2.below hb, fun k hk e => by have := (hu2.lt hk).2; have := (hown.lt k e).1; omega⟩
/-- One row put anew. -/
theorem TR.put {q c i : Nat} {u : Value} (h : TR wD wx g K (.slice (some ⟨q, 0, none⟩) vs.length c) vs M) (hu : MRow wD.heap.size wx M u) (hne : u.ownBlock ≠ some q) (hi : i < vs.length)
  (hown : (wx.setCell ⟨q, i, none⟩ u).ownsRow wD.heap.size 99 1 (.slice (some ⟨q, 0, none⟩) vs.length c) vs.length (vs.set i u)) : TR wD (wx.setCell ⟨q, i, none⟩ u) g K (.slice (some ⟨q, 0, none⟩) (vs.set i u).length c) (vs.set i u) M := by
 have hq := (h.own.lt q (by simp [Value.ownBlock])).1
 have hgl := h.gl
 refine ⟨h.rd.set _ (by dsimp only; omega) _, gr_set h.gr _ (.inl hq) _, h.gl, by rw [List.length_set]; exact hown, fun x hx => ?_⟩
 have key : MRow wD.heap.size wx M x ∧ x.ownBlock ≠ some q := by
  rcases List.mem_or_eq_of_mem_set hx with h1 | h1
  ·exact ⟨(h.each x h1).1, fun e => (h.each x h1).2 q e (by simp [Value.ownBlock])⟩
  ·subst h1; exact ⟨hu, hne⟩
 obtain ⟨⟨A, cc, t, e, ho, hl⟩, hn⟩ := key
 refine ⟨⟨A, cc, t, e, own_set ho (by subst e; exact hn) _, hl⟩, fun k hk e2 => ?_⟩
 have : k = q := by simpa [Value.ownBlock] using e2.symm
 subst this
 exact hn hk
theorem TR.lt (h : TR wD wx g K v vs M) : g < wx.heap.size := Nat.lt_of_lt_of_le h.gl h.gr.size
end
theorem pick_tr {wD : World} {g : Nat} {K : Int} {v : Value} {vs : List Value} {M : Nat} (m : Int) (w : World) (h : TR wD w g K v vs M) (hK : 0 ≤ K ∧ K ≤ 1000000000) (hm : -1000000000 ≤ m ∧ m ≤ 1000000000) :
  Calls Tryz.prog 88 #[.pointer (some ⟨g, 0, none⟩), .int .i64 m] w fun e w' =>
   ∃ x : Int, e = .returned (.int .i64 x) ∧ 0 ≤ x ∧ (1 ≤ m → x < m) ∧ (m < 1 → x = 0) ∧ TR wD w' g (K + 1) v vs M ∧ w.grownBy w' (some g) ∧ w'.heap.size = w.heap.size := by
 refine (pick_c g K m w hK hm h.rd).mono ?_
 rintro e w' ⟨x, rfl, h1, h2, h3, h4, h5, h6⟩
 exact ⟨x, rfl, h1, h2, h3, h.pick h4 h5, h5, h6⟩
namespace Pp
def bnd (s : Nat) : Nat := 4 ^ (8 - s)
theorem bnd_step {s : Nat} (h : 1 ≤ s) (h8 : s ≤ 8) : 2 * bnd s + 1 ≤ bnd (s - 1) ∧ bnd s ≤ bnd (s - 1) := by
 have : ∀ s : Fin 9, 1 ≤ s.1 → 2 * bnd s.1 + 1 ≤ bnd (s.1 - 1) ∧ bnd s.1 ≤ bnd (s.1 - 1) := by decide
 exact this ⟨s, by omega⟩ h
theorem bnd_anti {s s' : Nat} (h : s ≤ s') : bnd s' ≤ bnd s := Nat.pow_le_pow_right (by omega) (by omega)
theorem bnd_ok {s : Nat} (h8 : s ≤ 8) : 1 ≤ bnd s ∧ bnd s ≤ 65536 := by
 have : ∀ s : Fin 9, 1 ≤ bnd s.1 ∧ bnd s.1 ≤ 65536 := by decide
 exact this ⟨s, by omega⟩
end Pp

open Go Go.RowKit Pp

/-- Plans that lie in a row of one's own, or in it behind its first. -/
def OwnT (lo : Nat) (w : World) (A2 : Option Addr) (ps : List Pl) : Prop := (∃ c, OwnPs lo w (.slice A2 ps.length c) ps) ∨ ∃ (q : Pl) (g c : Nat), A2 = some ⟨g, 2, none⟩ ∧ OwnPs lo w (.slice (some ⟨g, 0, none⟩) (ps.length + 1) c) (q :: ps)
namespace Pp
/-- A desk and a word that are handed back: they are read; the plans of before are a row of their own, if they are few. -/
def DkR (w w' : World) (d : Dk) (r : Bool) (v : Value) : Prop := ∃ A c A2 c2 b2 o2, v = .tuple #[.agg #[.int .i64 d.now.n, .slice A d.now.bs.length c, .slice A2 d.past.length c2], .bool r] ∧ OwnB w.heap.size w' (.slice A d.now.bs.length c) d.now.bs ∧ PlsR w' w'.heap.size b2 o2 A2 d.past ∧ (d.past.length < 8 → OwnPs w.heap.size w' (.slice A2 d.past.length c2) d.past) ∧ OwnT w.heap.size w' A2 d.past
theorem madeP_len (rt : List UInt8 → Option (List Mk)) (p : Pl) (hp : planOk p = true) (d : Dd) : (madeP rt p d).bs.length ≤ 17 := by
 obtain ⟨hn, h16, -⟩ := planOk_iff.1 hp
 have h0 : ∀ q : Pl, planOk q = true → q.bs.length ≤ 16 := fun q hq => (planOk_iff.1 hq).2.1
 unfold madeP
 split
 ·dsimp only; omega
 split
 ·unfold toldP
  split
  ·rename_i hx; have := h0 _ hx; omega
  ·simp
 split
 ·unfold lessP
  split
  ·dsimp only; have := del_le p.bs d.a.toNat; omega
  ·simp
 split
 ·have := (trim_ok hp).2.2.2.2.2; omega
 split
 ·unfold swapP; dsimp only; rw [List.length_map]; omega
 split
 ·unfold planOf
  split
  ·split
   ·rename_i hx; have := h0 _ hx; omega
   ·simp
  ·simp
 ·simp
end Pp
theorem PlsR.drop1 {w : World} {B g : Nat} {A : Option Addr} {ps : List Pl} (h : PlsR w B g 0 A ps) (hl : 1 < ps.length) : PlsR w B g 2 (some ⟨g, 2, none⟩) (ps.drop 1) :=
 ⟨fun _ => rfl, fun hx => h.lt (by omega), fun j p hp => by
  rw [List.getElem?_drop] at hp
  obtain ⟨A', b', o', c', h0, h1, h2⟩ := h.row _ p hp
  refine ⟨A', b', o', c', ?_, ?_, h2⟩
  ·rw [show 2 + j * 2 = 0 + (1 + j) * 2 by omega]; exact h0
  ·rw [show 2 + j * 2 + 1 = 0 + (1 + j) * 2 + 1 by omega]; exact h1⟩
theorem OwnPs.setBox {lo X : Nat} {w : World} {v : Value} {ps : List Pl} (h : OwnPs lo w v ps) (hX : BoxT w X 37) (i : Nat) (x : Value) : OwnPs lo (w.setCell ⟨X, i, none⟩ x) v ps := by
 obtain ⟨cs, h1, h2⟩ := h
 exact ⟨cs, own_set h1 (own_box h1 hX (by decide)) _, h2.set hX i x⟩
theorem OwnB.setBox {lo X : Nat} {w : World} {v : Value} {bs : List Bd} (h : OwnB lo w v bs) (hX : BoxT w X 37) (i : Nat) (x : Value) : OwnB lo (w.setCell ⟨X, i, none⟩ x) v bs := own_set h (own_box h hX (by decide)) _
theorem OwnT.reads {lo : Nat} {w : World} {A2 : Option Addr} {ps : List Pl} (h : OwnT lo w A2 ps) : ∃ g o, PlsR w w.heap.size g o A2 ps := by
 rcases h with ⟨c, h⟩ | ⟨q, g, c, rfl, h⟩
 ·obtain ⟨g, hr⟩ := h.reads
  exact ⟨g, 0, hr⟩
 ·obtain ⟨g', hr⟩ := OwnPs.reads (ps := q :: ps) h
  have e := hr.addr (by simp)
  injection e with e
  injection e with e
  subst e
  rcases Nat.eq_zero_or_pos ps.length with h0 | h0
  ·obtain rfl := List.eq_nil_of_length_eq_zero h0
   exact ⟨0, 0, PlsR.nil _ _ _⟩
  ·exact ⟨g, 2, hr.drop1 (by simp; omega)⟩
theorem OwnT.below {lo : Nat} {w w' : World} {A2 : Option Addr} {ps : List Pl} (h : OwnT lo w A2 ps) (hb : Below w.heap.size w w') : OwnT lo w' A2 ps := by
 rcases h with ⟨c, h⟩ | ⟨q, g, c, e, h⟩
 ·exact .inl ⟨c, h.below hb⟩
 ·exact .inr ⟨q, g, c, e, h.below hb⟩
theorem OwnT.less {lo lo' : Nat} {w : World} {A2 : Option Addr} {ps : List Pl} (h : OwnT lo w A2 ps) (hl : lo' ≤ lo) : OwnT lo' w A2 ps := by
 rcases h with ⟨c, h⟩ | ⟨q, g, c, e, h⟩
 ·exact .inl ⟨c, h.less hl⟩
 ·exact .inr ⟨q, g, c, e, h.less hl⟩
theorem OwnT.setBox {lo Y : Nat} {w : World} {A2 : Option Addr} {ps : List Pl} (h : OwnT lo w A2 ps) (hY : BoxT w Y 37) (i : Nat) (x : Value) : OwnT lo (w.setCell ⟨Y, i, none⟩ x) A2 ps := by
 rcases h with ⟨c, h⟩ | ⟨q, g, c, e, h⟩
 ·exact .inl ⟨c, h.setBox hY i x⟩
 ·exact .inr ⟨q, g, c, e, h.setBox hY i x⟩
/-- The first plans of a row of one's own. -/
theorem OwnPs.take {lo c : Nat} {w : World} {A : Option Addr} {ps : List Pl} (h : OwnPs lo w (.slice A ps.length c) ps) (m : Nat) (hm : m ≤ ps.length) : OwnPs lo w (.slice A m c) (ps.take m) := by
 obtain ⟨cs, h1, h2⟩ := h
 have hl : (ps.take m).length = m := by simp; omega
 refine ⟨cs.take (m * 2), ?_, by rw [List.length_take, h2.1, hl]; omega, fun j p hp => ?_⟩
 ·rw [hl]
  refine ⟨by rw [List.length_take, h2.1]; omega, ?_⟩
  rcases h1.2 with ⟨hv, hx⟩ | ⟨g, cap, cur, hv, h3, h4, h5, h6, h7, h8⟩
  ·injection hv with e1 e2 e3
   subst e1; subst e3
   obtain rfl : m = 0 := by omega
   exact .inl ⟨rfl, rfl⟩
  ·injection hv with e1 e2 e3
   subst e1; subst e3
   refine .inr ⟨g, _, cur, rfl, h3, h4, by omega, h6, h7, ?_⟩
   rw [← h8, List.take_take, Nat.min_eq_left (by omega)]
 ·have hj := (List.getElem?_eq_some_iff.1 hp).1
  rw [hl] at hj
  rw [List.getElem?_take, if_pos hj] at hp
  obtain ⟨k0, A', c', k1, k2⟩ := h2.2 j p hp
  exact ⟨by rw [List.getElem?_take, if_pos (by omega)]; exact k0, A', c', by rw [List.getElem?_take, if_pos (by omega)]; exact k1, k2⟩
theorem ZD.belowX {w0 W W' : World} {Y B : Nat} (h : ZD w0 W Y) (hY : Y < B) (hb : Below B W W') : ZD w0 W' Y := by
 have e := hb.block Y hY
 have hc : ∀ i, W'.cell? ⟨Y, i, none⟩ = W.cell? ⟨Y, i, none⟩ := fun i => hb.cell (p := ⟨Y, i, none⟩) hY
 have hf : ∀ i, W'.frozen? ⟨Y, i, none⟩ = W.frozen? ⟨Y, i, none⟩ := fun i => hb.frozen (p := ⟨Y, i, none⟩) hY
 exact ⟨h.lo, Nat.lt_of_lt_of_le h.ex hb.size, (hc 0).trans h.z0, (hc 1).trans h.z1, (hc 2).trans h.z2, fun i => (hf i).trans (h.zf i)⟩
/-- A plan of a row of one's own. -/
theorem OwnPs.at {lo c m : Nat} {w : World} {A : Option Addr} {ps : List Pl} {q : Pl} (h : OwnPs lo w (.slice A ps.length c) ps) (hx : ps[m]? = some q) :
  ∃ g Aq cq, A = some ⟨g, 0, none⟩ ∧ g < w.heap.size ∧ w.cell? ⟨g, m * 2, none⟩ = some (.int .i64 q.n) ∧ w.cell? ⟨g, m * 2 + 1, none⟩ = some (.slice Aq q.bs.length cq) ∧ OwnB lo w (.slice Aq q.bs.length cq) q.bs := by
 obtain ⟨cs, h1, h2⟩ := h
 have hm := (List.getElem?_eq_some_iff.1 hx).1
 obtain ⟨A2, g, c2, hv, e1, e2, e3⟩ := own_form h1
 injection hv with hv1 _ _
 subst hv1
 obtain ⟨k0, A', c', k1, k2⟩ := h2.2 m q hx
 exact ⟨g, A', c', e1 (by omega), (e2 (by omega)).2, e3 _ _ k0, e3 _ _ k1, k2⟩
theorem dkr_of {w w' : World} {lo c c2 : Nat} {n : Int} {A A2 : Option Addr} {bs : List Bd} {ps : List Pl} (own : OwnB lo w' (.slice A bs.length c) bs) (ops : OwnPs lo w' (.slice A2 ps.length c2) ps) (h : w.heap.size ≤ lo) (r : Bool) : DkR w w' ⟨⟨n, bs⟩, ps⟩ r (.tuple #[.agg #[.int .i64 n, .slice A bs.length c, .slice A2 ps.length c2], .bool r]) := by
 obtain ⟨g2, hr2⟩ := ops.reads
 exact ⟨A, c, A2, c2, g2, 0, rfl, own_less own h, hr2, fun _ => ops.less h, .inl ⟨c2, ops.less h⟩⟩
section
variable {W wr w' : World} {X c c2 c2' : Nat} {n : Int} {A A2 A2' : Option Addr} {bs : List Bd} {ps : List Pl}
theorem md_of (hW : Below W.heap.size W wr) (own : OwnB W.heap.size wr (.slice A bs.length c) bs) (ops : OwnPs W.heap.size wr (.slice A2 ps.length c2) ps) : MD W (wr.alloc (.cells #[.int .i64 n, .slice A bs.length c, .slice A2 ps.length c2] 37)) wr.heap.size n A c bs A2 c2 ps := by
 have hb : Below wr.heap.size wr (wr.alloc (.cells #[.int .i64 n, .slice A bs.length c, .slice A2 ps.length c2] 37)) := by go_grown
 exact ⟨bthen hW hb, hW.size, by simp, by simp [go_sem], by simp [go_sem], by simp [go_sem], fun i => by simp [go_sem], ⟨_, at_new rfl⟩, own_below own hb, ops.below hb⟩
/-- A plan of one's own is put into it. -/
theorem MD.putNow {n' : Int} {A' : Option Addr} {c' : Nat} {bs' : List Bd} (h : MD W wr X n A c bs A2 c2 ps) (own : OwnB W.heap.size wr (.slice A' bs'.length c') bs') :
  MD W ((wr.setCell ⟨X, 0, none⟩ (.int .i64 n')).setCell ⟨X, 1, none⟩ (.slice A' bs'.length c')) X n' A' c' bs' A2 c2 ps := by
 have hb1 := h.bx.set 0 (.int .i64 n')
 obtain ⟨r0, r1⟩ := two_cells (a := .int .i64 n') (b := .slice A' bs'.length c') h.p0 h.p1
 refine ⟨(h.bel.setCell h.lo _).setCell h.lo _, h.lo, by simpa using h.ex, r0, r1, ?_, fun i => ?_, hb1.set _ _, (own.setBox h.bx _ _).setBox hb1 _ _, (h.ops.setBox h.bx _ _).setBox hb1 _ _⟩
 ·rw [World.cell?_setCell_other _ _ _ _ (by simp), World.cell?_setCell_other _ _ _ _ (by simp)]; exact h.p2
 ·rw [← h.cf i]; simp
/-- Its plans of before are cut. -/
theorem MD.cut (h : MD W wr X n A c bs A2 c2 ps) (m : Nat) (hm : m ≤ ps.length) : MD W (wr.setCell ⟨X, 2, none⟩ (.slice A2 m c2)) X n A c bs A2 c2 (ps.take m) := by
 have hl : (ps.take m).length = m := by simp; omega
 refine ⟨h.bel.setCell h.lo _, h.lo, by simpa using h.ex, ?_, ?_, ?_, fun i => ?_, h.bx.set _ _, h.own.setBox h.bx _ _, ?_⟩
 ·rw [World.cell?_setCell_other _ _ _ _ (by simp)]; exact h.p0
 ·rw [World.cell?_setCell_other _ _ _ _ (by simp)]; exact h.p1
 ·rw [hl]; exact World.cell?_setCell_same _ _ _ h.p2
 ·rw [← h.cf i]; simp
 ·rw [hl]; exact (h.ops.take m hm).setBox h.bx _ _
end
/-- A desk in a box of one's own, whose plans of before need not be its third cell. -/
structure MX (W wr : World) (X : Nat) (n : Int) (A : Option Addr) (c : Nat) (bs : List Bd) (v2 u : Value) (qs : List Pl) : Prop where
 bel : Below W.heap.size W wr
 lo : W.heap.size ≤ X
 ex : X < wr.heap.size
 p0 : wr.cell? ⟨X, 0, none⟩ = some (.int .i64 n)
 p1 : wr.cell? ⟨X, 1, none⟩ = some (.slice A bs.length c)
 p2 : wr.cell? ⟨X, 2, none⟩ = some v2
 cf : ∀ i, wr.frozen? ⟨X, i, none⟩ = false
 bx : BoxT wr X 37
 own : OwnB W.heap.size wr (.slice A bs.length c) bs
 ops : OwnPs W.heap.size wr u qs
section
variable {W wr w' : World} {X c c2 : Nat} {n : Int} {A A2 : Option Addr} {bs : List Bd} {v2 u : Value} {ps : List Pl}
theorem MD.toX (h : MD W wr X n A c bs A2 c2 ps) : MX W wr X n A c bs (.slice A2 ps.length c2) (.slice A2 ps.length c2) ps := ⟨h.bel, h.lo, h.ex, h.p0, h.p1, h.p2, h.cf, h.bx, h.own, h.ops⟩
theorem MX.below (h : MX W wr X n A c bs v2 u ps) (hb : Below wr.heap.size wr w') : MX W w' X n A c bs v2 u ps :=
 ⟨bthen h.bel hb, h.lo, Nat.lt_of_lt_of_le h.ex hb.size, ((bcell hb).1 _ _ h.ex).trans h.p0, ((bcell hb).1 _ _ h.ex).trans h.p1, ((bcell hb).1 _ _ h.ex).trans h.p2, fun i => ((bcell hb).2 _ _ h.ex).trans (h.cf i), h.bx.below h.ex hb, own_below h.own hb, h.ops.below hb⟩
theorem MX.set2 (h : MX W wr X n A c bs v2 u ps) (v2' : Value) : MX W (wr.setCell ⟨X, 2, none⟩ v2') X n A c bs v2' u ps := by
 refine ⟨h.bel.setCell h.lo _, h.lo, by simpa using h.ex, ?_, ?_, ?_, fun i => ?_, h.bx.set _ _, h.own.setBox h.bx _ _, h.ops.setBox h.bx _ _⟩
 ·rw [World.cell?_setCell_other _ _ _ _ (by simp)]; exact h.p0
 ·rw [World.cell?_setCell_other _ _ _ _ (by simp)]; exact h.p1
 ·exact World.cell?_setCell_same _ _ _ h.p2
 ·rw [← h.cf i]; simp
theorem MX.putNow {n' : Int} {A' : Option Addr} {c' : Nat} {bs' : List Bd} (h : MX W wr X n A c bs v2 u ps) (own : OwnB W.heap.size wr (.slice A' bs'.length c') bs') :
  MX W ((wr.setCell ⟨X, 0, none⟩ (.int .i64 n')).setCell ⟨X, 1, none⟩ (.slice A' bs'.length c')) X n' A' c' bs' v2 u ps := by
 have hb1 := h.bx.set 0 (.int .i64 n')
 obtain ⟨r0, r1⟩ := two_cells (a := .int .i64 n') (b := .slice A' bs'.length c') h.p0 h.p1
 refine ⟨(h.bel.setCell h.lo _).setCell h.lo _, h.lo, by simpa using h.ex, r0, r1, ?_, fun i => ?_, hb1.set _ _, (own.setBox h.bx _ _).setBox hb1 _ _, (h.ops.setBox h.bx _ _).setBox hb1 _ _⟩
 ·rw [World.cell?_setCell_other _ _ _ _ (by simp), World.cell?_setCell_other _ _ _ _ (by simp)]; exact h.p2
 ·rw [← h.cf i]; simp
end
/-- A plan in a box, that is read. -/
structure VB (W : World) (V b o : Nat) (n : Int) (A : Option Addr) (c : Nat) (bs : List Bd) : Prop where
 ex : V < W.heap.size
 c0 : W.cell? ⟨V, 0, none⟩ = some (.int .i64 n)
 c1 : W.cell? ⟨V, 1, none⟩ = some (.slice A bs.length c)
 rd : BdsR W W.heap.size b o A bs
section
variable {W W' : World} {V b o c : Nat} {n : Int} {A : Option Addr} {bs : List Bd}
theorem VB.grown {row : Option Nat} (h : VB W V b o n A c bs) (hg : W.grownBy W' row) (hV : some V ≠ row) (hb : 0 < bs.length → some b ≠ row) : VB W' V b o n A c bs := by
 have hl : ∀ {j : Nat} {x : Bd}, bs[j]? = some x → some b ≠ row := fun {j x} hx => hb (by have := (List.getElem?_eq_some_iff.1 hx).1; omega)
 exact ⟨Nat.lt_of_lt_of_le h.ex hg.size, hg.cell h.c0 hV, hg.cell h.c1 hV, BdsR.more ⟨h.rd.addr, h.rd.lt, fun j x hx => hg.cell (h.rd.c0 j x hx) (hl hx), fun j x hx => hg.cell (h.rd.c1 j x hx) (hl hx), fun j x hx => hg.cell (h.rd.c2 j x hx) (hl hx)⟩ hg.size⟩
theorem VB.set {X i : Nat} (h : VB W V b o n A c bs) (hV : V ≠ X) (hb : 0 < bs.length → b ≠ X) (v : Value) : VB (W.setCell ⟨X, i, none⟩ v) V b o n A c bs :=
 h.grown (grown_set W ⟨X, i, none⟩ v) (fun e => hV (by injection e)) (fun hl e => hb hl (by injection e))
theorem VB.below (h : VB W V b o n A c bs) (hb : Below W.heap.size W W') : VB W' V b o n A c bs := h.grown (bel_grown hb) (by simp) (by simp)
end

def Zd : List Value := [.int .i64 0, .int .i64 0, .int .i64 0, .int .i64 0, .string ⟨#[]⟩]
/-- The reader; a plan in its box; a box that is still zero. -/
structure DJ (w wx : World) (g : Nat) (K : Int) (P : Nat) (n : Int) (A : Option Addr) (L c Y : Nat) : Prop where
 rd : RdO wx g K
 gr : w.grownBy wx (some g)
 gl : g < w.heap.size
 pl : w.heap.size ≤ P
 pe : P < wx.heap.size
 p0 : wx.cell? ⟨P, 0, none⟩ = some (.int .i64 n)
 p1 : wx.cell? ⟨P, 1, none⟩ = some (.slice A L c)
 yl : w.heap.size ≤ Y
 ye : Y < wx.heap.size
 y : ∀ i v, Zd[i]? = some v → wx.cell? ⟨Y, i, none⟩ = some v
 yf : ∀ i, wx.frozen? ⟨Y, i, none⟩ = false
section
variable {w wx w' : World} {g P L c Y : Nat} {K K' n : Int} {A : Option Addr}
theorem DJ.more (h : DJ w wx g K P n A L c Y) (hK : K ≤ K') : DJ w wx g K' P n A L c Y := { h with rd := h.rd.more hK }
theorem DJ.grow {row : Option Nat} (h : DJ w wx g K P n A L c Y) (hR : RdO w' g K') (hg : wx.grownBy w' row) (hr : ∀ k, row = some k → k = g ∨ (w.heap.size ≤ k ∧ k ≠ P ∧ k ≠ Y)) : DJ w w' g K' P n A L c Y := by
 have hgl := h.gl
 have hpl := h.pl
 have hyl := h.yl
 have hP : some P ≠ row := fun e => by have := hr P e.symm; omega
 have hY : some Y ≠ row := fun e => by have := hr Y e.symm; omega
 exact ⟨hR, gr_then h.gr hg (fun k e => by have := hr k e; omega), h.gl, h.pl, Nat.lt_of_lt_of_le h.pe hg.size, (hg.cell_far ⟨P, 0, none⟩ h.pe hP).trans h.p0, (hg.cell_far ⟨P, 1, none⟩ h.pe hP).trans h.p1, h.yl, Nat.lt_of_lt_of_le h.ye hg.size,
  fun i v e => (hg.cell_far ⟨Y, i, none⟩ h.ye hY).trans (h.y i v e), fun i => (hg.frozen_far ⟨Y, i, none⟩ h.ye hY).trans (h.yf i)⟩
theorem DJ.pick (h : DJ w wx g K P n A L c Y) (hR : RdO w' g K') (hg : wx.grownBy w' (some g)) : DJ w w' g K' P n A L c Y := h.grow hR hg (fun k e => .inl (by injection e with e; exact e.symm))
theorem DJ.below (h : DJ w wx g K P n A L c Y) (hb : Below wx.heap.size wx w') : DJ w w' g K P n A L c Y := h.grow (h.rd.below hb) (bel_grown hb) (fun k e => by cases e)
theorem DJ.alloc (h : DJ w wx g K P n A L c Y) (o : Obj) : DJ w (wx.alloc o) g K P n A L c Y := h.below (by go_grown)
end
/-- And a deed in a box of one's own. -/
structure DX (w wx : World) (g : Nat) (K : Int) (P : Nat) (n : Int) (A : Option Addr) (L c Y X : Nat) (vs : List Value) : Prop where
 j : DJ w wx g K P n A L c Y
 xl : w.heap.size ≤ X
 xe : X < wx.heap.size
 xp : X ≠ P
 xy : X ≠ Y
 x : ∀ i v, vs[i]? = some v → wx.cell? ⟨X, i, none⟩ = some v
 xf : ∀ i, wx.frozen? ⟨X, i, none⟩ = false
section
variable {w wx w' : World} {g P L c Y X : Nat} {K K' n : Int} {A : Option Addr} {vs : List Value}
theorem DX.more (h : DX w wx g K P n A L c Y X vs) (hK : K ≤ K') : DX w wx g K' P n A L c Y X vs := { h with j := h.j.more hK }
theorem DX.pick (h : DX w wx g K P n A L c Y X vs) (hR : RdO w' g K') (hg : wx.grownBy w' (some g)) : DX w w' g K' P n A L c Y X vs := by
 have hxl := h.xl
 have hgl := h.j.gl
 have hX : some X ≠ some g := fun e => by injection e with e; omega
 exact ⟨h.j.pick hR hg, h.xl, Nat.lt_of_lt_of_le h.xe hg.size, h.xp, h.xy, fun i v e => (hg.cell_far ⟨X, i, none⟩ h.xe hX).trans (h.x i v e), fun i => (hg.frozen_far ⟨X, i, none⟩ h.xe hX).trans (h.xf i)⟩
theorem DX.below (h : DX w wx g K P n A L c Y X vs) (hb : Below wx.heap.size wx w') : DX w w' g K P n A L c Y X vs :=
 ⟨h.j.below hb, h.xl, Nat.lt_of_lt_of_le h.xe hb.size, h.xp, h.xy, fun i v e => ((bcell hb).1 _ _ h.xe).trans (h.x i v e), fun i => ((bcell hb).2 _ _ h.xe).trans (h.xf i)⟩
theorem DX.set (h : DX w wx g K P n A L c Y X vs) (i : Nat) (hi : i < vs.length) (v : Value) : DX w (wx.setCell ⟨X, i, none⟩ v) g K P n A L c Y X (vs.set i v) := by
 have hxl := h.xl
 have hgl := h.j.gl
 refine ⟨h.j.grow (h.j.rd.set ⟨X, i, none⟩ (by show g < X; omega) v) (grown_set wx ⟨X, i, none⟩ v) (fun k e => .inr (by injection e with e; exact ⟨by rw [← e]; exact h.xl, by rw [← e]; exact h.xp, by rw [← e]; exact h.xy⟩)), h.xl, by simpa using h.xe, h.xp, h.xy, fun j u e => ?_, fun j => by rw [← h.xf j]; simp⟩
 by_cases hj : j = i
 ·subst hj
  rw [List.getElem?_set_self hi] at e
  injection e with e
  subst e
  exact World.cell?_setCell_same _ _ _ (h.x j _ (List.getElem?_eq_getElem hi))
 ·rw [List.getElem?_set_ne (fun e => hj e.symm)] at e
  rw [World.cell?_setCell_other _ _ _ _ (by first | (simp; done) | (simp; exact fun e => hj e.symm))]
  exact h.x j u e
/-- A deed is put into the zero box, and handed back. -/
theorem DX.fin {k a1 a2 a3 : Int} {s : ByteArray} (h : DX w wx g K P n A L c Y X vs) :
  ∀ W, W = ((((wx.setCell ⟨Y, 0, none⟩ (.int .i64 k)).setCell ⟨Y, 1, none⟩ (.int .i64 a1)).setCell ⟨Y, 2, none⟩ (.int .i64 a2)).setCell ⟨Y, 3, none⟩ (.int .i64 a3)).setCell ⟨Y, 4, none⟩ (.string s) →
  W.cell? ⟨Y, 0, none⟩ = some (.int .i64 k) ∧ W.cell? ⟨Y, 1, none⟩ = some (.int .i64 a1) ∧ W.cell? ⟨Y, 2, none⟩ = some (.int .i64 a2) ∧ W.cell? ⟨Y, 3, none⟩ = some (.int .i64 a3) ∧ W.cell? ⟨Y, 4, none⟩ = some (.string s) ∧ RdO W g K ∧ w.grownBy W (some g) := by
 intro W hW
 have hyl := h.j.yl
 have hgl := h.j.gl
 have y0 := h.j.y 0 _ rfl
 have y1 := h.j.y 1 _ rfl
 have y2 := h.j.y 2 _ rfl
 have y3 := h.j.y 3 _ rfl
 have y4 := h.j.y 4 _ rfl
 have hg : g < (⟨Y, 0, none⟩ : Addr).block := by show g < Y; omega
 subst hW
 refine ⟨?_, ?_, ?_, ?_, ?_, ((((h.j.rd.set ⟨Y, 0, none⟩ hg _).set ⟨Y, 1, none⟩ hg _).set ⟨Y, 2, none⟩ hg _).set ⟨Y, 3, none⟩ hg _).set ⟨Y, 4, none⟩ hg _, gr_set (gr_set (gr_set (gr_set (gr_set h.j.gr _ (.inl hyl) _) _ (.inl hyl) _) _ (.inl hyl) _) _ (.inl hyl) _) _ (.inl hyl) _⟩
 ·rw [World.cell?_setCell_other _ _ _ _ (by simp), World.cell?_setCell_other _ _ _ _ (by simp), World.cell?_setCell_other _ _ _ _ (by simp), World.cell?_setCell_other _ _ _ _ (by simp)]
  exact World.cell?_setCell_same _ _ _ y0
 ·rw [World.cell?_setCell_other _ _ _ _ (by simp), World.cell?_setCell_other _ _ _ _ (by simp), World.cell?_setCell_other _ _ _ _ (by simp)]
  exact World.cell?_setCell_same _ _ _ (by rw [World.cell?_setCell_other _ _ _ _ (by simp)]; exact y1)
 ·rw [World.cell?_setCell_other _ _ _ _ (by simp), World.cell?_setCell_other _ _ _ _ (by simp)]
  exact World.cell?_setCell_same _ _ _ (by rw [World.cell?_setCell_other _ _ _ _ (by simp), World.cell?_setCell_other _ _ _ _ (by simp)]; exact y2)
 ·rw [World.cell?_setCell_other _ _ _ _ (by simp)]
  exact World.cell?_setCell_same _ _ _ (by rw [World.cell?_setCell_other _ _ _ _ (by simp), World.cell?_setCell_other _ _ _ _ (by simp), World.cell?_setCell_other _ _ _ _ (by simp)]; exact y3)
 ·exact World.cell?_setCell_same _ _ _ (by rw [World.cell?_setCell_other _ _ _ _ (by simp), World.cell?_setCell_other _ _ _ _ (by simp), World.cell?_setCell_other _ _ _ _ (by simp), World.cell?_setCell_other _ _ _ _ (by simp)]; exact y4)
end
/-- The slots that hold something in the midst of the first draw. -/
def AR (w : World) (b : Nat) (wx : World) : Prop := w.heap.size ≤ b ∧ b < wx.heap.size ∧ ∀ j : Nat, j < 10 → ∃ v : Int, wx.cell? ⟨b, j, none⟩ = some (.int .i64 v)
def CX (w : World) (P Y : Nat) (y : Value) (wx : World) : Prop := ∃ X, y = .pointer (some ⟨X, 0, none⟩) ∧ w.heap.size ≤ X ∧ X < wx.heap.size ∧ X ≠ P ∧ X ≠ Y ∧ (∀ i v, Zd[i]? = some v → wx.cell? ⟨X, i, none⟩ = some v) ∧ ∀ i, wx.frozen? ⟨X, i, none⟩ = false
section
variable {w wx w' : World} {g P Y : Nat} {y : Value}
theorem AR.pick {b : Nat} (h : AR w b wx) (hgl : g < w.heap.size) (hg : wx.grownBy w' (some g)) : AR w b w' :=
 ⟨h.1, Nat.lt_of_lt_of_le h.2.1 hg.size, fun j hj => by obtain ⟨v, hv⟩ := h.2.2 j hj; have := h.1; exact ⟨v, far_cell hg hv (by omega)⟩⟩
theorem AR.below {b : Nat} (h : AR w b wx) (hb : Below wx.heap.size wx w') : AR w b w' :=
 ⟨h.1, Nat.lt_of_lt_of_le h.2.1 hb.size, fun j hj => by obtain ⟨v, hv⟩ := h.2.2 j hj; exact ⟨v, ((bcell hb).1 _ _ h.2.1).trans hv⟩⟩
theorem CX.pick (h : CX w P Y y wx) (hgl : g < w.heap.size) (hg : wx.grownBy w' (some g)) : CX w P Y y w' := by
 obtain ⟨X, h1, h2, h3, hp, hy, h4, h5⟩ := h
 have hX : some X ≠ some g := fun e => by injection e with e; omega
 exact ⟨X, h1, h2, Nat.lt_of_lt_of_le h3 hg.size, hp, hy, fun i v e => (hg.cell_far ⟨X, i, none⟩ h3 hX).trans (h4 i v e), fun i => (hg.frozen_far ⟨X, i, none⟩ h3 hX).trans (h5 i)⟩
theorem CX.below (h : CX w P Y y wx) (hb : Below wx.heap.size wx w') : CX w P Y y w' := by
 obtain ⟨X, h1, h2, h3, hp, hy, h4, h5⟩ := h
 exact ⟨X, h1, h2, Nat.lt_of_lt_of_le h3 hb.size, hp, hy, fun i v e => ((bcell hb).1 _ _ h3).trans (h4 i v e), fun i => ((bcell hb).2 _ _ h3).trans (h5 i)⟩
theorem cx_new {t : TypeId} (hw : w.heap.size ≤ wx.heap.size) (hP : P < wx.heap.size) (hY : Y < wx.heap.size) : CX w P Y (.pointer (some ⟨wx.heap.size, 0, none⟩)) (wx.alloc (.cells #[.int .i64 0, .int .i64 0, .int .i64 0, .int .i64 0, .string ⟨#[]⟩] t)) := by
 refine ⟨wx.heap.size, rfl, hw, by simp, by omega, by omega, fun i v e => ?_, fun i => by simp [go_sem]⟩
 match i, e with
 | 0, e => injection e with e; subst e; simp [go_sem]
 | 1, e => injection e with e; subst e; simp [go_sem]
 | 2, e => injection e with e; subst e; simp [go_sem]
 | 3, e => injection e with e; subst e; simp [go_sem]
 | 4, e => injection e with e; subst e; simp [go_sem]
 | i + 5, e => simp [Zd] at e
theorem ar_new {t : TypeId} (hw : w.heap.size ≤ wx.heap.size) : AR w wx.heap.size (wx.alloc (.cells #[.int .i64 0, .int .i64 1, .int .i64 1, .int .i64 1, .int .i64 2, .int .i64 2, .int .i64 3, .int .i64 4, .int .i64 5, .int .i64 6] t)) := by
 refine ⟨hw, by simp, fun j hj => ?_⟩
 match j, hj with
 | 0, _ => exact ⟨0, by simp [go_sem]⟩
 | 1, _ => exact ⟨1, by simp [go_sem]⟩
 | 2, _ => exact ⟨1, by simp [go_sem]⟩
 | 3, _ => exact ⟨1, by simp [go_sem]⟩
 | 4, _ => exact ⟨2, by simp [go_sem]⟩
 | 5, _ => exact ⟨2, by simp [go_sem]⟩
 | 6, _ => exact ⟨3, by simp [go_sem]⟩
 | 7, _ => exact ⟨4, by simp [go_sem]⟩
 | 8, _ => exact ⟨5, by simp [go_sem]⟩
 | 9, _ => exact ⟨6, by simp [go_sem]⟩
 | j + 10, h => omega
theorem dx_of {K n : Int} {A : Option Addr} {L c X : Nat} (h : DJ w wx g K P n A L c Y) (hC : CX w P Y (.pointer (some ⟨X, 0, none⟩)) wx) : DX w wx g K P n A L c Y X Zd := by
 obtain ⟨X', h1, h2, h3, hp, hy, h4, h5⟩ := hC
 injection h1 with h1
 injection h1 with h1
 injection h1 with h1
 subst h1
 exact ⟨h, h2, h3, hp, hy, h4, h5⟩
end
/-- One step of two chains. -/
theorem wpF_two {P : Program} {ops : Array Oper} {Q : Exit → Act → World → Prop} {S : World → Prop} {e f : Nat} {J : World → Prop} {B : Value → World → Prop} {m : Nat} {fl : Bool} {z : Value} {w : World} {L : Bool → Array Bool} {a : Value → Act} (i j : Nat) (hi : i < ops.size) (hj : j < ops.size) (hgi : ops[i].guard = none) (hgj : ops[j].guard = none)
  (hr0 : (Region.ready .any ops (L false)).all (fun k => k == i || k == j || k == f) = true) (he0 : (Region.ready .any ops (L false)).isEmpty = false) (hr1 : (Region.ready .any ops (L true)).all (fun k => k == i || k == j) = true) (he1 : (Region.ready .any ops (L true)).isEmpty = false) (hL : (L false).setIfInBounds f true = L true)
  (hF : Floats P ops Q S e f J B a) (hJ : J w) (hB : fl = true → B z w)
  (h1 : ∀ (fl : Bool) (z : Value) (w : World), J w → (fl = true → B z w) → ∀ K' : Act → World → Prop, Shut (∀ a' w', (i = e ∨ S w') → wpE P .any ops Q S e (fuelF m fl) ((L fl).setIfInBounds i true) a' w' → K' a' w') → Oper.wp P ops[i] (a z) w K' Q)
  (h2 : ∀ (fl : Bool) (z : Value) (w : World), J w → (fl = true → B z w) → ∀ K' : Act → World → Prop, Shut (∀ a' w', (j = e ∨ S w') → wpE P .any ops Q S e (fuelF m fl) ((L fl).setIfInBounds j true) a' w' → K' a' w') → Oper.wp P ops[j] (a z) w K' Q) :
  wpE P .any ops Q S e (fuelF (m + 1) fl) (L fl) (a z) w := by
 have c1 : ∀ (fl : Bool) (z : Value) (w : World), J w → (fl = true → B z w) → wpOp P ops Q i (fun a' w' => (i = e ∨ S w') ∧ wpE P .any ops Q S e (fuelF m fl) ((L fl).setIfInBounds i true) a' w') (a z) w := fun fl z w hJ hB => by
  refine wpOp_step (Array.getElem?_eq_getElem hi) (fun K' hK => ?_)
  rw [if_pos (by unfold Region.wanted; rw [hgi])]
  exact h1 fl z w hJ hB K' (fun a w hS hW => hK a w ⟨hS, hW⟩)
 have c2 : ∀ (fl : Bool) (z : Value) (w : World), J w → (fl = true → B z w) → wpOp P ops Q j (fun a' w' => (j = e ∨ S w') ∧ wpE P .any ops Q S e (fuelF m fl) ((L fl).setIfInBounds j true) a' w') (a z) w := fun fl z w hJ hB => by
  refine wpOp_step (Array.getElem?_eq_getElem hj) (fun K' hK => ?_)
  rw [if_pos (by unfold Region.wanted; rw [hgj])]
  exact h2 fl z w hJ hB K' (fun a w hS hW => hK a w ⟨hS, hW⟩)
 have ht : ∀ z w, J w → B z w → wpE P .any ops Q S e (m + 1) (L true) (a z) w := fun z w hJ hB => by
  refine ⟨fun h0 => (by rw [h0] at he1; cases he1), fun k hk => ?_⟩
  have h1 := List.all_eq_true.1 hr1 k hk
  simp only [Bool.or_eq_true, beq_iff_eq] at h1
  rcases h1 with rfl | rfl
  ·exact c1 true z w hJ (fun _ => hB)
  ·exact c2 true z w hJ (fun _ => hB)
 cases fl
 ·show wpE P .any ops Q S e (m + 1 + 1) (L false) (a z) w
  refine ⟨fun h0 => (by rw [h0] at he0; cases he0), fun k hk => ?_⟩
  have h1 := List.all_eq_true.1 hr0 k hk
  simp only [Bool.or_eq_true, beq_iff_eq] at h1
  rcases h1 with (rfl | rfl) | rfl
  ·exact c1 false z w hJ hB
  ·exact c2 false z w hJ hB
  ·refine hF.2 z w hJ _ (fun z' w' hS' hJ' hB' => ⟨.inr hS', ?_⟩)
   rw [hL]
   exact ht z' w' hJ' hB'
 ·exact ht z w hJ (hB rfl)
/-- A stronger word on the world may stand instead. -/
theorem wpE_strong {P : Program} {ops : Array Oper} {Q : Exit → Act → World → Prop} {md : Region.Mode} {S S' : World → Prop} {e : Nat} (hS : ∀ w, S' w → S w) : ∀ (fuel : Nat) (listed : Array Bool) (a : Act) (w : World), wpE P md ops Q S' e fuel listed a w → wpE P md ops Q S e fuel listed a w
 | 0, _, _, _, h => h
 | fuel + 1, _, _, _, h => ⟨h.1, fun i hi => wpOp_mono (fun a' w' h' => ⟨h'.1.elim .inl (fun x => .inr (hS _ x)), wpE_strong hS fuel _ a' w' h'.2⟩) (h.2 i hi)⟩

theorem OwnPs.far {lo g : Nat} {w w' : World} {v : Value} {ps : List Pl} (h : OwnPs lo w v ps) (hg : w.grownBy w' (some g)) (hlt : g < lo) : OwnPs lo w' v ps := by
 obtain ⟨cs, h1, h2⟩ := h
 exact ⟨cs, own_far h1 hg hlt, h2.1, fun j p hp => by
  obtain ⟨h0, A, c, k1, k2⟩ := h2.2 j p hp
  exact ⟨h0, A, c, k1, own_far k2 hg hlt⟩⟩
/-- The reader, a desk in its box X, a box Y that is still zero. -/
structure LD (w wx : World) (g : Nat) (K : Int) (Y X : Nat) (n : Int) (A : Option Addr) (c : Nat) (bs : List Bd) (A2 : Option Addr) (c2 : Nat) (ps : List Pl) : Prop where
 rd : RdO wx g K
 gr : w.grownBy wx (some g)
 gl : g < w.heap.size
 zd : ZD w wx Y
 yl : Y = w.heap.size
 lo : w.heap.size < X
 ex : X < wx.heap.size
 p0 : wx.cell? ⟨X, 0, none⟩ = some (.int .i64 n)
 p1 : wx.cell? ⟨X, 1, none⟩ = some (.slice A bs.length c)
 p2 : wx.cell? ⟨X, 2, none⟩ = some (.slice A2 ps.length c2)
 cf : ∀ i, wx.frozen? ⟨X, i, none⟩ = false
 bx : BoxT wx X 37
 own : OwnB (w.heap.size + 1) wx (.slice A bs.length c) bs
 ops : OwnPs (w.heap.size + 1) wx (.slice A2 ps.length c2) ps
section
variable {w wx w' : World} {g Y X c c2 c2' : Nat} {K K' n : Int} {A A2 A2' : Option Addr} {bs : List Bd} {ps : List Pl}
theorem LD.more (h : LD w wx g K Y X n A c bs A2 c2 ps) (hK : K ≤ K') : LD w wx g K' Y X n A c bs A2 c2 ps := { h with rd := h.rd.more hK }
theorem LD.pick (h : LD w wx g K Y X n A c bs A2 c2 ps) (hR : RdO w' g K') (hg : wx.grownBy w' (some g)) : LD w w' g K' Y X n A c bs A2 c2 ps := by
 have hgl := h.gl
 have hlo := h.lo
 have hyl := h.yl
 have hX : some X ≠ some g := fun e => by injection e with e; omega
 exact ⟨hR, gr_pick h.gr hg, h.gl, h.zd.grown hg (fun k e => by injection e with e; omega), h.yl, h.lo, Nat.lt_of_lt_of_le h.ex hg.size, (hg.cell_far ⟨X, 0, none⟩ h.ex hX).trans h.p0, (hg.cell_far ⟨X, 1, none⟩ h.ex hX).trans h.p1, (hg.cell_far ⟨X, 2, none⟩ h.ex hX).trans h.p2,
  fun i => (hg.frozen_far ⟨X, i, none⟩ h.ex hX).trans (h.cf i), h.bx.grown h.ex hg (fun e => hX e.symm), own_far h.own hg (by omega), h.ops.far hg (by omega)⟩
theorem LD.below (h : LD w wx g K Y X n A c bs A2 c2 ps) (hb : Below wx.heap.size wx w') : LD w w' g K Y X n A c bs A2 c2 ps :=
 ⟨h.rd.below hb, gr_below h.gr hb, h.gl, h.zd.below hb, h.yl, h.lo, Nat.lt_of_lt_of_le h.ex hb.size, ((bcell hb).1 _ _ h.ex).trans h.p0, ((bcell hb).1 _ _ h.ex).trans h.p1, ((bcell hb).1 _ _ h.ex).trans h.p2, fun i => ((bcell hb).2 _ _ h.ex).trans (h.cf i), h.bx.below h.ex hb, own_below h.own hb, h.ops.below hb⟩
theorem LD.alloc (h : LD w wx g K Y X n A c bs A2 c2 ps) (o : Obj) : LD w (wx.alloc o) g K Y X n A c bs A2 c2 ps := h.below (by go_grown)
/-- Another desk is put into it. -/
theorem LD.put {n' : Int} {A' A2' : Option Addr} {c' c2' : Nat} {bs' : List Bd} {ps' : List Pl} (h : LD w wx g K Y X n A c bs A2 c2 ps) (own : OwnB (w.heap.size + 1) wx (.slice A' bs'.length c') bs') (ops : OwnPs (w.heap.size + 1) wx (.slice A2' ps'.length c2') ps') :
  LD w (((wx.setCell ⟨X, 0, none⟩ (.int .i64 n')).setCell ⟨X, 1, none⟩ (.slice A' bs'.length c')).setCell ⟨X, 2, none⟩ (.slice A2' ps'.length c2')) g K Y X n' A' c' bs' A2' c2' ps' := by
 have hgl := h.gl
 have hlo := h.lo
 have hyl := h.yl
 have hb0 := h.bx.set 0 (.int .i64 n')
 have hb1 := hb0.set 1 (.slice A' bs'.length c')
 obtain ⟨r0, r1, r2⟩ := three_cellsD (a := .int .i64 n') (b := .slice A' bs'.length c') (d := .slice A2' ps'.length c2') h.p0 h.p1 h.p2
 have hgX : g < (⟨X, 0, none⟩ : Addr).block := by show g < X; omega
 have hz : ∀ k, some X = some k → k ≠ Y := fun k e => by injection e with e; omega
 refine ⟨((h.rd.set ⟨X, 0, none⟩ hgX _).set ⟨X, 1, none⟩ hgX _).set ⟨X, 2, none⟩ hgX _, gr_set (gr_set (gr_set h.gr _ (.inl (Nat.le_of_lt hlo)) _) _ (.inl (Nat.le_of_lt hlo)) _) _ (.inl (Nat.le_of_lt hlo)) _, h.gl,
  ((h.zd.grown (grown_set wx ⟨X, 0, none⟩ _) hz).grown (grown_set _ ⟨X, 1, none⟩ _) hz).grown (grown_set _ ⟨X, 2, none⟩ _) hz, h.yl, h.lo, by simpa using h.ex, r0, r1, r2, fun i => by rw [← h.cf i]; simp, hb1.set _ _,
  ((own.setBox h.bx _ _).setBox hb0 _ _).setBox hb1 _ _, ((ops.setBox h.bx _ _).setBox hb0 _ _).setBox hb1 _ _⟩
theorem LD.set0 (h : LD w wx g K Y X n A c bs A2 c2 ps) (n' : Int) : LD w (wx.setCell ⟨X, 0, none⟩ (.int .i64 n')) g K Y X n' A c bs A2 c2 ps := by
 have hgl := h.gl
 have hlo := h.lo
 have hyl := h.yl
 refine ⟨h.rd.set ⟨X, 0, none⟩ (by show g < X; omega) _, gr_set h.gr _ (.inl (Nat.le_of_lt hlo)) _, h.gl, h.zd.grown (grown_set wx ⟨X, 0, none⟩ _) (fun k e => by injection e with e; dsimp only at e; omega), h.yl, h.lo, by simpa using h.ex, World.cell?_setCell_same _ _ _ h.p0, ?_, ?_, fun i => by rw [← h.cf i]; simp, h.bx.set _ _, h.own.setBox h.bx _ _, h.ops.setBox h.bx _ _⟩
 ·rw [World.cell?_setCell_other _ _ _ _ (by simp)]; exact h.p1
 ·rw [World.cell?_setCell_other _ _ _ _ (by simp)]; exact h.p2
/-- A store beside it. -/
theorem LD.setV {V : Nat} (h : LD w wx g K Y X n A c bs A2 c2 ps) (hV : w.heap.size < V) (hVX : V ≠ X) (hVY : V ≠ Y) (hbV : BoxT wx V 37) (i : Nat) (v : Value) : LD w (wx.setCell ⟨V, i, none⟩ v) g K Y X n A c bs A2 c2 ps := by
 have hgl := h.gl
 have hlo := h.lo
 have hg := grown_set wx ⟨V, i, none⟩ v
 have hX : some X ≠ some (⟨V, i, none⟩ : Addr).block := fun e => by injection e with e; exact hVX e.symm
 refine ⟨h.rd.set ⟨V, i, none⟩ (by show g < V; omega) _, gr_set h.gr _ (.inl (Nat.le_of_lt hV)) _, h.gl, h.zd.grown hg (fun k e => by injection e with e; rw [← e]; exact hVY), h.yl, h.lo, by simpa using h.ex, (hg.cell_far ⟨X, 0, none⟩ h.ex hX).trans h.p0, (hg.cell_far ⟨X, 1, none⟩ h.ex hX).trans h.p1, (hg.cell_far ⟨X, 2, none⟩ h.ex hX).trans h.p2,
  fun i => (hg.frozen_far ⟨X, i, none⟩ h.ex hX).trans (h.cf i), h.bx.grown h.ex hg (fun e => hX e.symm), h.own.setBox hbV _ _, h.ops.setBox hbV _ _⟩
/-- Behind an append onto its plans of before: they are stored. -/
theorem LD.app {p : Pl} {Ap : Option Addr} {cp : Nat} {cs : List Value} (h : LD w wx g K Y X n A c bs A2 c2 ps) (hrow : wx.ownsRow (w.heap.size + 1) 34 2 (.slice A2 ps.length c2) ps.length cs) (hplc : PlC (w.heap.size + 1) wx ps cs) (hp : OwnB (w.heap.size + 1) wx (.slice Ap p.bs.length cp) p.bs)
  (hg : wx.grownBy w' (Value.slice A2 ps.length c2).ownBlock) (hown : w'.ownsRow (w.heap.size + 1) 34 2 (.slice A2' (ps.length + 1) c2') (ps.length + 1) (cs ++ [.int .i64 p.n, .slice Ap p.bs.length cp])) :
  w'.cell? ⟨X, 2, none⟩ = some (.slice A2 ps.length c2) ∧ w'.frozen? ⟨X, 2, none⟩ = false ∧ LD w (w'.setCell ⟨X, 2, none⟩ (.slice A2' (ps.length + 1) c2')) g K Y X n A c bs A2' c2' (ps ++ [p]) := by
 have hgl := h.gl
 have hlo := h.lo
 have hyl := h.yl
 have hneX := own_box hrow h.bx (by decide)
 have hne : some X ≠ (Value.slice A2 ps.length c2).ownBlock := fun e => hneX e.symm
 have hge : ∀ k, (Value.slice A2 ps.length c2).ownBlock = some k → w.heap.size + 1 ≤ k := fun k e => (hrow.lt k e).1
 have e0 : w'.cell? ⟨X, 0, none⟩ = some (.int .i64 n) := (hg.cell_far ⟨X, 0, none⟩ h.ex hne).trans h.p0
 have e1 : w'.cell? ⟨X, 1, none⟩ = some (.slice A bs.length c) := (hg.cell_far ⟨X, 1, none⟩ h.ex hne).trans h.p1
 have e2 : w'.cell? ⟨X, 2, none⟩ = some (.slice A2 ps.length c2) := (hg.cell_far ⟨X, 2, none⟩ h.ex hne).trans h.p2
 have ef : ∀ i, w'.frozen? ⟨X, i, none⟩ = false := fun i => (hg.frozen_far ⟨X, i, none⟩ h.ex hne).trans (h.cf i)
 have hbx : BoxT w' X 37 := h.bx.grown h.ex hg hneX
 have hkeep : ∀ {A' : Option Addr} {c' : Nat} {bs' : List Bd}, OwnB (w.heap.size + 1) wx (.slice A' bs'.length c') bs' → OwnB (w.heap.size + 1) w' (.slice A' bs'.length c') bs' := fun {A' c' bs'} ho => World.ownsRow.kept ho hg (by
  cases hk : (Value.slice A' bs'.length c').ownBlock with
  | none => exact .inl rfl
  | some k => exact .inr (fun e => own_neT ho hrow (by decide) hk e.symm))
 have hplc' := (hplc.grown hrow hg).snoc (hkeep hp)
 have hl : (ps ++ [p]).length = ps.length + 1 := by simp
 refine ⟨e2, ef 2, ⟨(h.rd.other hg (fun k e => by have := hge k e; omega)).set ⟨X, 2, none⟩ (by show g < X; omega) _, gr_set (gr_then h.gr hg (fun k e => .inl (by have := hge k e; omega))) _ (.inl (Nat.le_of_lt hlo)) _, h.gl, (h.zd.grown hg (fun k e => by have := hge k e; omega)).grown (grown_set w' ⟨X, 2, none⟩ _) (fun k e => by injection e with e; dsimp only at e; omega), h.yl, h.lo, by have := hg.size; have := h.ex; simp; omega, ?_, ?_, ?_, fun i => by rw [← ef i]; simp, hbx.set _ _, (hkeep h.own).setBox hbx _ _, ?_⟩⟩
 ·rw [World.cell?_setCell_other _ _ _ _ (by simp)]; exact e0
 ·rw [World.cell?_setCell_other _ _ _ _ (by simp)]; exact e1
 ·rw [hl]; exact World.cell?_setCell_same _ _ _ e2
 ·rw [hl]
  refine ⟨_, ?_, hplc'.set hbx _ _⟩
  rw [hl]
  exact own_set hown (own_box hown hbx (by decide)) _
/-- It is put into the zero box, and handed back. -/
theorem LD.fin (h : LD w wx g K Y X n A c bs A2 c2 ps) (n' : Int) (A' : Option Addr) (c' : Nat) (bs' : List Bd) (A2' : Option Addr) (c2' : Nat) (ps' : List Pl) (own : OwnB (w.heap.size + 1) wx (.slice A' bs'.length c') bs') (ops : OwnPs (w.heap.size + 1) wx (.slice A2' ps'.length c2') ps') :
  ∀ W, W = ((wx.setCell ⟨Y, 0, none⟩ (.int .i64 n')).setCell ⟨Y, 1, none⟩ (.slice A' bs'.length c')).setCell ⟨Y, 2, none⟩ (.slice A2' ps'.length c2') →
  W.cell? ⟨Y, 0, none⟩ = some (.int .i64 n') ∧ W.cell? ⟨Y, 1, none⟩ = some (.slice A' bs'.length c') ∧ W.cell? ⟨Y, 2, none⟩ = some (.slice A2' ps'.length c2') ∧ OwnB w.heap.size W (.slice A' bs'.length c') bs' ∧ OwnPs w.heap.size W (.slice A2' ps'.length c2') ps' ∧ RdO W g K ∧ w.grownBy W (some g) := by
 intro W hW
 have hgl := h.gl
 have hyl := h.yl
 have hgY : g < (⟨Y, 0, none⟩ : Addr).block := by show g < Y; omega
 have hYl : Y < w.heap.size + 1 := by omega
 obtain ⟨r0, r1, r2⟩ := three_cellsD (a := .int .i64 n') (b := .slice A' bs'.length c') (d := .slice A2' ps'.length c2') h.zd.z0 h.zd.z1 h.zd.z2
 subst hW
 exact ⟨r0, r1, r2, own_less (((own.setLow hYl 0 _).setLow hYl 1 _).setLow hYl 2 _) (by omega), (((ops.setLow hYl 0 _).setLow hYl 1 _).setLow hYl 2 _).less (by omega), ((h.rd.set ⟨Y, 0, none⟩ hgY _).set ⟨Y, 1, none⟩ hgY _).set ⟨Y, 2, none⟩ hgY _, gr_set (gr_set (gr_set h.gr _ (.inl h.zd.lo) _) _ (.inl h.zd.lo) _) _ (.inl h.zd.lo) _⟩
end
/-- The floating box of a desk. -/
def CV (w : World) (X Y : Nat) (z : Value) (wx : World) : Prop := ∃ V, z = .pointer (some ⟨V, 0, none⟩) ∧ w.heap.size < V ∧ V < wx.heap.size ∧ V ≠ X ∧ V ≠ Y ∧ wx.cell? ⟨V, 0, none⟩ = some (.int .i64 0) ∧ wx.cell? ⟨V, 1, none⟩ = some (.slice none 0 0) ∧ wx.cell? ⟨V, 2, none⟩ = some (.slice none 0 0) ∧ (∀ i, wx.frozen? ⟨V, i, none⟩ = false) ∧ BoxT wx V 37
section
variable {w wx w' : World} {g X Y : Nat} {z : Value}
theorem CV.pick (h : CV w X Y z wx) (hgl : g < w.heap.size) (hg : wx.grownBy w' (some g)) : CV w X Y z w' := by
 obtain ⟨V, h1, h2, h3, h4, h5, c0, c1, c2, cf, hb⟩ := h
 have hV : some V ≠ some g := fun e => by injection e with e; omega
 exact ⟨V, h1, h2, Nat.lt_of_lt_of_le h3 hg.size, h4, h5, (hg.cell_far ⟨V, 0, none⟩ h3 hV).trans c0, (hg.cell_far ⟨V, 1, none⟩ h3 hV).trans c1, (hg.cell_far ⟨V, 2, none⟩ h3 hV).trans c2, fun i => (hg.frozen_far ⟨V, i, none⟩ h3 hV).trans (cf i), hb.grown h3 hg (fun e => hV e.symm)⟩
theorem CV.below (h : CV w X Y z wx) (hb : Below wx.heap.size wx w') : CV w X Y z w' := by
 obtain ⟨V, h1, h2, h3, h4, h5, c0, c1, c2, cf, hbx⟩ := h
 exact ⟨V, h1, h2, Nat.lt_of_lt_of_le h3 hb.size, h4, h5, ((bcell hb).1 _ _ h3).trans c0, ((bcell hb).1 _ _ h3).trans c1, ((bcell hb).1 _ _ h3).trans c2, fun i => ((bcell hb).2 _ _ h3).trans (cf i), hbx.below h3 hb⟩
theorem cv_new (hw : w.heap.size < wx.heap.size) (hX : X < wx.heap.size) (hY : Y < wx.heap.size) : CV w X Y (.pointer (some ⟨wx.heap.size, 0, none⟩)) (wx.alloc (.cells #[.int .i64 0, .slice none 0 0, .slice none 0 0] 37)) :=
 ⟨wx.heap.size, rfl, hw, by simp, by omega, by omega, by simp [go_sem], by simp [go_sem], by simp [go_sem], fun i => by simp [go_sem], ⟨_, at_new rfl⟩⟩
end
end Go.Proofs.YtmnajkhoacogjaaGreatDoor
