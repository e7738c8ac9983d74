/-
  Desks that are handed back; stores into a desk's box.
-/
import Derived.Test.YtmnajkhoacogjaaS9b
import Derived.Test.YtmnajkhoacogjaaS6
namespace Go.Proofs.Ytmnajkhoacogjaa
set_option linter.unusedVariables false
set_option linter.unusedSimpArgs false
open Go Go.RowKit Pp

namespace Pp
/-- A desk and a word that are handed back: they are read; the plans of before are a row of their own, if they are few. -/
def DkR (w w' : World) (d : Dk) (r : Bool) (v : Value) : Prop := ∃ A c A2 c2 b2 o2, v = .tuple #[.agg #[.int .i64 d.now.n, .slice A d.now.bs.length c, .slice A2 d.past.length c2], .bool r] ∧ OwnB w.heap.size w' (.slice A d.now.bs.length c) d.now.bs ∧ PlsR w' w'.heap.size b2 o2 A2 d.past ∧ (d.past.length < 8 → OwnPs w.heap.size w' (.slice A2 d.past.length c2) d.past)
theorem madeP_len (rt : List UInt8 → Option (List Mk)) (p : Pl) (hp : planOk p = true) (d : Dd) : (madeP rt p d).bs.length ≤ 17 := by
  obtain ⟨hn, h16, -⟩ := planOk_iff.1 hp
  have h0 : ∀ q : Pl, planOk q = true → q.bs.length ≤ 16 := fun q hq => (planOk_iff.1 hq).2.1
  unfold madeP
  split
  · dsimp only; omega
  split
  · unfold toldP
    split
    · rename_i hx; have := h0 _ hx; omega
    · simp
  split
  · unfold lessP
    split
    · dsimp only; have := del_le p.bs d.a.toNat; omega
    · simp
  split
  · have := (trim_ok hp).2.2.2.2.2; omega
  split
  · unfold swapP; dsimp only; rw [List.length_map]; omega
  split
  · unfold planOf
    split
    · split
      · rename_i hx; have := h0 _ hx; omega
      · simp
    · simp
  · simp
end Pp
theorem PlsR.drop1 {w : World} {B g : Nat} {A : Option Addr} {ps : List Pl} (h : PlsR w B g 0 A ps) (hl : 1 < ps.length) : PlsR w B g 2 (some ⟨g, 2, none⟩) (ps.drop 1) :=
  ⟨fun _ => rfl, fun hx => h.lt (by omega), fun j p hp => by
    rw [List.getElem?_drop] at hp
    obtain ⟨A', b', o', c', h0, h1, h2⟩ := h.row _ p hp
    refine ⟨A', b', o', c', ?_, ?_, h2⟩
    · rw [show 2 + j * 2 = 0 + (1 + j) * 2 by omega]; exact h0
    · rw [show 2 + j * 2 + 1 = 0 + (1 + j) * 2 + 1 by omega]; exact h1⟩
theorem OwnPs.setBox {lo X : Nat} {w : World} {v : Value} {ps : List Pl} (h : OwnPs lo w v ps) (hX : BoxT w X 28) (i : Nat) (x : Value) : OwnPs lo (w.setCell ⟨X, i, none⟩ x) v ps := by
  obtain ⟨cs, h1, h2⟩ := h
  exact ⟨cs, own_set h1 (own_box h1 hX (by decide)) _, h2.set hX i x⟩
theorem OwnB.setBox {lo X : Nat} {w : World} {v : Value} {bs : List Bd} (h : OwnB lo w v bs) (hX : BoxT w X 28) (i : Nat) (x : Value) : OwnB lo (w.setCell ⟨X, i, none⟩ x) v bs := own_set h (own_box h hX (by decide)) _
/-- The first plans of a row of one's own. -/
theorem OwnPs.take {lo c : Nat} {w : World} {A : Option Addr} {ps : List Pl} (h : OwnPs lo w (.slice A ps.length c) ps) (m : Nat) (hm : m ≤ ps.length) : OwnPs lo w (.slice A m c) (ps.take m) := by
  obtain ⟨cs, h1, h2⟩ := h
  have hl : (ps.take m).length = m := by simp; omega
  refine ⟨cs.take (m * 2), ?_, by rw [List.length_take, h2.1, hl]; omega, fun j p hp => ?_⟩
  · rw [hl]
    refine ⟨by rw [List.length_take, h2.1]; omega, ?_⟩
    rcases h1.2 with ⟨hv, hx⟩ | ⟨g, cap, cur, hv, h3, h4, h5, h6, h7, h8⟩
    · injection hv with e1 e2 e3
      subst e1; subst e3
      obtain rfl : m = 0 := by omega
      exact .inl ⟨rfl, rfl⟩
    · injection hv with e1 e2 e3
      subst e1; subst e3
      refine .inr ⟨g, _, cur, rfl, h3, h4, by omega, h6, h7, ?_⟩
      rw [← h8, List.take_take, Nat.min_eq_left (by omega)]
  · have hj := (List.getElem?_eq_some_iff.1 hp).1
    rw [hl] at hj
    rw [List.getElem?_take, if_pos hj] at hp
    obtain ⟨k0, A', c', k1, k2⟩ := h2.2 j p hp
    exact ⟨by rw [List.getElem?_take, if_pos (by omega)]; exact k0, A', c', by rw [List.getElem?_take, if_pos (by omega)]; exact k1, k2⟩
theorem ZD.belowX {w0 W W' : World} {Y B : Nat} (h : ZD w0 W Y) (hY : Y < B) (hb : Below B W W') : ZD w0 W' Y := by
  have e := hb.block Y hY
  have hc : ∀ i, W'.cell? ⟨Y, i, none⟩ = W.cell? ⟨Y, i, none⟩ := fun i => hb.cell (p := ⟨Y, i, none⟩) hY
  have hf : ∀ i, W'.frozen? ⟨Y, i, none⟩ = W.frozen? ⟨Y, i, none⟩ := fun i => hb.frozen (p := ⟨Y, i, none⟩) hY
  exact ⟨h.lo, Nat.lt_of_lt_of_le h.ex hb.size, (hc 0).trans h.z0, (hc 1).trans h.z1, (hc 2).trans h.z2, fun i => (hf i).trans (h.zf i)⟩
/-- A plan of a row of one's own. -/
theorem OwnPs.at {lo c m : Nat} {w : World} {A : Option Addr} {ps : List Pl} {q : Pl} (h : OwnPs lo w (.slice A ps.length c) ps) (hx : ps[m]? = some q) :
    ∃ g Aq cq, A = some ⟨g, 0, none⟩ ∧ g < w.heap.size ∧ w.cell? ⟨g, m * 2, none⟩ = some (.int .i64 q.n) ∧ w.cell? ⟨g, m * 2 + 1, none⟩ = some (.slice Aq q.bs.length cq) ∧ OwnB lo w (.slice Aq q.bs.length cq) q.bs := by
  obtain ⟨cs, h1, h2⟩ := h
  have hm := (List.getElem?_eq_some_iff.1 hx).1
  obtain ⟨A2, g, c2, hv, e1, e2, e3⟩ := own_form h1
  injection hv with hv1 _ _
  subst hv1
  obtain ⟨k0, A', c', k1, k2⟩ := h2.2 m q hx
  exact ⟨g, A', c', e1 (by omega), (e2 (by omega)).2, e3 _ _ k0, e3 _ _ k1, k2⟩
theorem dkr_of {w w' : World} {lo c c2 : Nat} {n : Int} {A A2 : Option Addr} {bs : List Bd} {ps : List Pl} (own : OwnB lo w' (.slice A bs.length c) bs) (ops : OwnPs lo w' (.slice A2 ps.length c2) ps) (h : w.heap.size ≤ lo) (r : Bool) : DkR w w' ⟨⟨n, bs⟩, ps⟩ r (.tuple #[.agg #[.int .i64 n, .slice A bs.length c, .slice A2 ps.length c2], .bool r]) := by
  obtain ⟨g2, hr2⟩ := ops.reads
  exact ⟨A, c, A2, c2, g2, 0, rfl, own_less own h, hr2, fun _ => ops.less h⟩
section
variable {W wr w' : World} {X c c2 c2' : Nat} {n : Int} {A A2 A2' : Option Addr} {bs : List Bd} {ps : List Pl}
theorem md_of (hW : Below W.heap.size W wr) (own : OwnB W.heap.size wr (.slice A bs.length c) bs) (ops : OwnPs W.heap.size wr (.slice A2 ps.length c2) ps) : MD W (wr.alloc (.cells #[.int .i64 n, .slice A bs.length c, .slice A2 ps.length c2] 28)) wr.heap.size n A c bs A2 c2 ps := by
  have hb : Below wr.heap.size wr (wr.alloc (.cells #[.int .i64 n, .slice A bs.length c, .slice A2 ps.length c2] 28)) := by go_grown
  exact ⟨bthen hW hb, hW.size, by simp, by simp [go_sem], by simp [go_sem], by simp [go_sem], fun i => by simp [go_sem], ⟨_, at_new rfl⟩, own_below own hb, ops.below hb⟩
/-- A plan of one's own is put into it. -/
theorem MD.putNow {n' : Int} {A' : Option Addr} {c' : Nat} {bs' : List Bd} (h : MD W wr X n A c bs A2 c2 ps) (own : OwnB W.heap.size wr (.slice A' bs'.length c') bs') :
    MD W ((wr.setCell ⟨X, 0, none⟩ (.int .i64 n')).setCell ⟨X, 1, none⟩ (.slice A' bs'.length c')) X n' A' c' bs' A2 c2 ps := by
  have hb1 := h.bx.set 0 (.int .i64 n')
  obtain ⟨r0, r1⟩ := two_cells (a := .int .i64 n') (b := .slice A' bs'.length c') h.p0 h.p1
  refine ⟨(h.bel.setCell h.lo _).setCell h.lo _, h.lo, by simpa using h.ex, r0, r1, ?_, fun i => ?_, hb1.set _ _, (own.setBox h.bx _ _).setBox hb1 _ _, (h.ops.setBox h.bx _ _).setBox hb1 _ _⟩
  · rw [World.cell?_setCell_other _ _ _ _ (by simp), World.cell?_setCell_other _ _ _ _ (by simp)]; exact h.p2
  · rw [← h.cf i]; simp
/-- Its plans of before are cut. -/
theorem MD.cut (h : MD W wr X n A c bs A2 c2 ps) (m : Nat) (hm : m ≤ ps.length) : MD W (wr.setCell ⟨X, 2, none⟩ (.slice A2 m c2)) X n A c bs A2 c2 (ps.take m) := by
  have hl : (ps.take m).length = m := by simp; omega
  refine ⟨h.bel.setCell h.lo _, h.lo, by simpa using h.ex, ?_, ?_, ?_, fun i => ?_, h.bx.set _ _, h.own.setBox h.bx _ _, ?_⟩
  · rw [World.cell?_setCell_other _ _ _ _ (by simp)]; exact h.p0
  · rw [World.cell?_setCell_other _ _ _ _ (by simp)]; exact h.p1
  · rw [hl]; exact World.cell?_setCell_same _ _ _ h.p2
  · rw [← h.cf i]; simp
  · rw [hl]; exact (h.ops.take m hm).setBox h.bx _ _
end
/-- A desk in a box of one's own, whose plans of before need not be its third cell. -/
structure MX (W wr : World) (X : Nat) (n : Int) (A : Option Addr) (c : Nat) (bs : List Bd) (v2 u : Value) (qs : List Pl) : Prop where
  bel : Below W.heap.size W wr
  lo : W.heap.size ≤ X
  ex : X < wr.heap.size
  p0 : wr.cell? ⟨X, 0, none⟩ = some (.int .i64 n)
  p1 : wr.cell? ⟨X, 1, none⟩ = some (.slice A bs.length c)
  p2 : wr.cell? ⟨X, 2, none⟩ = some v2
  cf : ∀ i, wr.frozen? ⟨X, i, none⟩ = false
  bx : BoxT wr X 28
  own : OwnB W.heap.size wr (.slice A bs.length c) bs
  ops : OwnPs W.heap.size wr u qs
section
variable {W wr w' : World} {X c c2 : Nat} {n : Int} {A A2 : Option Addr} {bs : List Bd} {v2 u : Value} {ps : List Pl}
theorem MD.toX (h : MD W wr X n A c bs A2 c2 ps) : MX W wr X n A c bs (.slice A2 ps.length c2) (.slice A2 ps.length c2) ps := ⟨h.bel, h.lo, h.ex, h.p0, h.p1, h.p2, h.cf, h.bx, h.own, h.ops⟩
theorem MX.below (h : MX W wr X n A c bs v2 u ps) (hb : Below wr.heap.size wr w') : MX W w' X n A c bs v2 u ps :=
  ⟨bthen h.bel hb, h.lo, Nat.lt_of_lt_of_le h.ex hb.size, ((bcell hb).1 _ _ h.ex).trans h.p0, ((bcell hb).1 _ _ h.ex).trans h.p1, ((bcell hb).1 _ _ h.ex).trans h.p2, fun i => ((bcell hb).2 _ _ h.ex).trans (h.cf i), h.bx.below h.ex hb, own_below h.own hb, h.ops.below hb⟩
theorem MX.set2 (h : MX W wr X n A c bs v2 u ps) (v2' : Value) : MX W (wr.setCell ⟨X, 2, none⟩ v2') X n A c bs v2' u ps := by
  refine ⟨h.bel.setCell h.lo _, h.lo, by simpa using h.ex, ?_, ?_, ?_, fun i => ?_, h.bx.set _ _, h.own.setBox h.bx _ _, h.ops.setBox h.bx _ _⟩
  · rw [World.cell?_setCell_other _ _ _ _ (by simp)]; exact h.p0
  · rw [World.cell?_setCell_other _ _ _ _ (by simp)]; exact h.p1
  · exact World.cell?_setCell_same _ _ _ h.p2
  · rw [← h.cf i]; simp
theorem MX.putNow {n' : Int} {A' : Option Addr} {c' : Nat} {bs' : List Bd} (h : MX W wr X n A c bs v2 u ps) (own : OwnB W.heap.size wr (.slice A' bs'.length c') bs') :
    MX W ((wr.setCell ⟨X, 0, none⟩ (.int .i64 n')).setCell ⟨X, 1, none⟩ (.slice A' bs'.length c')) X n' A' c' bs' v2 u ps := by
  have hb1 := h.bx.set 0 (.int .i64 n')
  obtain ⟨r0, r1⟩ := two_cells (a := .int .i64 n') (b := .slice A' bs'.length c') h.p0 h.p1
  refine ⟨(h.bel.setCell h.lo _).setCell h.lo _, h.lo, by simpa using h.ex, r0, r1, ?_, fun i => ?_, hb1.set _ _, (own.setBox h.bx _ _).setBox hb1 _ _, (h.ops.setBox h.bx _ _).setBox hb1 _ _⟩
  · rw [World.cell?_setCell_other _ _ _ _ (by simp), World.cell?_setCell_other _ _ _ _ (by simp)]; exact h.p2
  · rw [← h.cf i]; simp
end
/-- A plan in a box, that is read. -/
structure VB (W : World) (V b o : Nat) (n : Int) (A : Option Addr) (c : Nat) (bs : List Bd) : Prop where
  ex : V < W.heap.size
  c0 : W.cell? ⟨V, 0, none⟩ = some (.int .i64 n)
  c1 : W.cell? ⟨V, 1, none⟩ = some (.slice A bs.length c)
  rd : BdsR W W.heap.size b o A bs
section
variable {W W' : World} {V b o c : Nat} {n : Int} {A : Option Addr} {bs : List Bd}
theorem VB.grown {row : Option Nat} (h : VB W V b o n A c bs) (hg : W.grownBy W' row) (hV : some V ≠ row) (hb : 0 < bs.length → some b ≠ row) : VB W' V b o n A c bs := by
  have hl : ∀ {j : Nat} {x : Bd}, bs[j]? = some x → some b ≠ row := fun {j x} hx => hb (by have := (List.getElem?_eq_some_iff.1 hx).1; omega)
  exact ⟨Nat.lt_of_lt_of_le h.ex hg.size, hg.cell h.c0 hV, hg.cell h.c1 hV, BdsR.more ⟨h.rd.addr, h.rd.lt, fun j x hx => hg.cell (h.rd.c0 j x hx) (hl hx), fun j x hx => hg.cell (h.rd.c1 j x hx) (hl hx), fun j x hx => hg.cell (h.rd.c2 j x hx) (hl hx)⟩ hg.size⟩
theorem VB.set {X i : Nat} (h : VB W V b o n A c bs) (hV : V ≠ X) (hb : 0 < bs.length → b ≠ X) (v : Value) : VB (W.setCell ⟨X, i, none⟩ v) V b o n A c bs :=
  h.grown (grown_set W ⟨X, i, none⟩ v) (fun e => hV (by injection e)) (fun hl e => hb hl (by injection e))
theorem VB.below (h : VB W V b o n A c bs) (hb : Below W.heap.size W W') : VB W' V b o n A c bs := h.grown (bel_grown hb) (by simp) (by simp)
end
end Go.Proofs.Ytmnajkhoacogjaa
