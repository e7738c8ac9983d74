/-
  What the laws of deals share: a deal of their own with the last promise put anew.
-/
import Derived.Test.YtdijfkpccbkdfaaD19
import Derived.Test.YtdijfkpccbkdfaaZ1
import Derived.Test.YtdijfkpccbkdfaaW8
namespace Go.Proofs.Ytdijfkpccbkdfaa
set_option linter.unusedVariables false
set_option linter.unusedSimpArgs false
open Go.RowKit Pp

/-- The law's deal, a promise in a box V6, and a row of promises of the law's own, that lies behind T. -/
structure LJ (w0 wS w : World) (D T b b2 : Nat) (n : Int) (A : Option Addr) (c : Nat) (bs : List Bd) (A2 : Option Addr) (c2 : Nat) (ps : List Pr) (V6 : Nat) (x6 : Pr) (v : Value) (m : Nat) (cs : List Value) : Prop where
  d : PD w0 w D b 0 n A c bs b2 0 A2 c2 ps
  cb : CB w V6 [.int .i64 x6.f, .int .i64 x6.t, .int .i64 x6.l, .int .i64 x6.h]
  DT : D < T
  VT : V6 < T
  hb : 0 < bs.length → b < T
  hb2 : 0 < ps.length → b2 < T
  ex : T ≤ w.heap.size
  wT : w0.heap.size ≤ T
  own : w.ownsRow T 40 4 v m cs
  bl : Below T wS w
def LS6 (D V6 : Nat) (n : Int) (A : Option Addr) (c : Nat) (bs : List Bd) (A2 : Option Addr) (c2 : Nat) (ps : List Pr) (x6 : Pr) (w : World) : Prop :=
  w.cell? ⟨D, 0, none⟩ = some (.int .i64 n) ∧ w.cell? ⟨D, 1, none⟩ = some (.slice A bs.length c) ∧ w.cell? ⟨D, 2, none⟩ = some (.slice A2 ps.length c2) ∧
  w.cell? ⟨V6, 0, none⟩ = some (.int .i64 x6.f) ∧ w.cell? ⟨V6, 1, none⟩ = some (.int .i64 x6.t) ∧ w.cell? ⟨V6, 2, none⟩ = some (.int .i64 x6.l) ∧ w.cell? ⟨V6, 3, none⟩ = some (.int .i64 x6.h)
/-- What is to be appended: a promise. -/
def BV (w : World) (v z : Value) (ds : List Value) : Prop := ∃ V, z = .slice (some ⟨V, 0, none⟩) 1 1 ∧ CB w V ds ∧ v.ownBlock ≠ some V
/-- The new deal's box. -/
def BX2 (w : World) (T : Nat) (v z : Value) : Prop := ∃ X, z = .pointer (some ⟨X, 0, none⟩) ∧ T ≤ X ∧ ZX w 0 X ∧ v.ownBlock ≠ some X
section
variable {w0 wS w w' : World} {D T b b2 V6 m m' : Nat} {n : Int} {A A2 : Option Addr} {c c2 : Nat} {bs : List Bd} {ps : List Pr} {x6 : Pr} {v v' z : Value} {cs cs' ds : List Value}
theorem LJ.below (h : LJ w0 wS w D T b b2 n A c bs A2 c2 ps V6 x6 v m cs) (hb : Below w.heap.size w w') : LJ w0 wS w' D T b b2 n A c bs A2 c2 ps V6 x6 v m cs :=
  ⟨h.d.below hb, h.cb.below hb, h.DT, h.VT, h.hb, h.hb2, Nat.le_trans h.ex hb.size, h.wT, own_below h.own hb, h.bl.trans (hb.mono h.ex)⟩
theorem LJ.alloc (h : LJ w0 wS w D T b b2 n A c bs A2 c2 ps V6 x6 v m cs) (o : Obj) : LJ w0 wS (w.alloc o) D T b b2 n A c bs A2 c2 ps V6 x6 v m cs := h.below (by go_grown)
theorem LJ.cells (h : LJ w0 wS w D T b b2 n A c bs A2 c2 ps V6 x6 v m cs) : LS6 D V6 n A c bs A2 c2 ps x6 w :=
  ⟨h.d.r.c0, h.d.r.c1, h.d.r.c2, h.cb.c 0 _ rfl, h.cb.c 1 _ rfl, h.cb.c 2 _ rfl, h.cb.c 3 _ rfl⟩
theorem LJ.empty (h : LJ w0 wS w D T b b2 n A c bs A2 c2 ps V6 x6 v m cs) {t : TypeId} (ht : t = 40) : LJ w0 wS (w.alloc (.cells #[] t)) D T b b2 n A c bs A2 c2 ps V6 x6 (.slice (some ⟨w.heap.size, 0, none⟩) 0 0) 0 [] := by
  subst ht
  have h1 := h.alloc (.cells #[] 40)
  exact ⟨h1.d, h1.cb, h1.DT, h1.VT, h1.hb, h1.hb2, h1.ex, h1.wT, own_empty (at_new rfl) h.ex, h1.bl⟩
theorem LJ.app (h : LJ w0 wS w D T b b2 n A c bs A2 c2 ps V6 x6 v m cs) (hg : w.grownBy w' v.ownBlock) (hown : w'.ownsRow T 40 4 v' m' cs') : LJ w0 wS w' D T b b2 n A c bs A2 c2 ps V6 x6 v' m' cs' := by
  have hq := own_hi h.own
  have k1 : ∀ q, q < T → some q ≠ v.ownBlock := fun q hlt e => by have := (hq _ e.symm).1; omega
  exact ⟨⟨h.d.bel.grown hg h.d.bel.size (fun q e => by have := (hq q e).1; have := h.wT; omega), h.d.lo, h.d.r.grown hg (k1 _ h.DT) (fun h0 => k1 _ (h.hb h0)) (fun h0 => k1 _ (h.hb2 h0))⟩, h.cb.grown hg (k1 _ h.VT), h.DT, h.VT, h.hb, h.hb2, Nat.le_trans h.ex hg.size, h.wT, hown, h.bl.grown hg h.ex (fun q e => (hq q e).1)⟩
theorem BV.below (h : BV w v z ds) (hb : Below w.heap.size w w') : BV w' v z ds := by
  obtain ⟨V, hz, hc, hv⟩ := h
  exact ⟨V, hz, hc.below hb, hv⟩
theorem BV.fresh (h : BV w v z ds) (o : Obj) (hv : v'.ownBlock = some w.heap.size) : BV (w.alloc o) v' z ds := by
  obtain ⟨V, hz, hc, _⟩ := h
  exact ⟨V, hz, hc.alloc o, by rw [hv]; have := hc.ex; intro e; injection e; omega⟩
theorem BV.app (h : BV w v z ds) (hg : w.grownBy w' v.ownBlock) (hat : v'.ownBlock = v.ownBlock ∨ v'.ownBlock = some w.heap.size) : BV w' v' z ds := by
  obtain ⟨V, hz, hc, hv⟩ := h
  refine ⟨V, hz, hc.grown hg (Ne.symm hv), ?_⟩
  rcases hat with e | e <;> rw [e]
  · exact hv
  · have := hc.ex; intro e; injection e; omega
theorem bv_new {t : TypeId} (h : LJ w0 wS w D T b b2 n A c bs A2 c2 ps V6 x6 v m cs) (ds : List Value) : BV (w.alloc (.cells ds.toArray t)) v (.slice (some ⟨w.heap.size, 0, none⟩) 1 1) ds :=
  ⟨_, rfl, cb_new w ds t, fun e => by have := (h.own.lt _ e).2; omega⟩
theorem BX2.below (h : BX2 w T v z) (hb : Below w.heap.size w w') : BX2 w' T v z := by
  obtain ⟨X, hz, hT, hX, hv⟩ := h
  exact ⟨X, hz, hT, hX.below hb, hv⟩
theorem BX2.fresh (h : BX2 w T v z) (o : Obj) (hv : v'.ownBlock = some w.heap.size) : BX2 (w.alloc o) T v' z := by
  obtain ⟨X, hz, hT, hX, _⟩ := h
  exact ⟨X, hz, hT, hX.below (by go_grown), by rw [hv]; have := hX.ex; intro e; injection e; omega⟩
theorem BX2.app (h : BX2 w T v z) (hg : w.grownBy w' v.ownBlock) (hat : v'.ownBlock = v.ownBlock ∨ v'.ownBlock = some w.heap.size) : BX2 w' T v' z := by
  obtain ⟨X, hz, hT, hX, hv⟩ := h
  refine ⟨X, hz, hT, hX.grown hg hv, ?_⟩
  rcases hat with e | e <;> rw [e]
  · exact hv
  · have := hX.ex; intro e; injection e; omega
theorem bx2_new {t : TypeId} (h : LJ w0 wS w D T b b2 n A c bs A2 c2 ps V6 x6 v m cs) : BX2 (w.alloc (.cells #[.int .i64 0, .slice none 0 0, .slice none 0 0] t)) T v (.pointer (some ⟨w.heap.size, 0, none⟩)) :=
  ⟨_, rfl, h.ex, zx_new (by have := h.DT; have := h.ex; omega), fun e => by have := (h.own.lt _ e).2; omega⟩
/-- The new deal is put into its box. -/
theorem LJ.put {X : Nat} {A5 : Option Addr} {c5 : Nat} {qs : List Pr} (h : LJ w0 wS w D T b b2 n A c bs A2 c2 ps V6 x6 (.slice A5 m c5) m (prCs qs)) (hq : qs.length = m) (hT : T ≤ X) (hX : ZX w 0 X) (hv : (Value.slice A5 m c5).ownBlock ≠ some X) :
    LJ w0 wS (((w.setCell ⟨X, 0, none⟩ (.int .i64 n)).setCell ⟨X, 1, none⟩ (.slice A bs.length c)).setCell ⟨X, 2, none⟩ (.slice A5 m c5)) D T b b2 n A c bs A2 c2 ps V6 x6 (.slice none 0 0) 0 [] ∧
    ∃ b5, PD w0 (((w.setCell ⟨X, 0, none⟩ (.int .i64 n)).setCell ⟨X, 1, none⟩ (.slice A bs.length c)).setCell ⟨X, 2, none⟩ (.slice A5 m c5)) X b 0 n A c bs b5 0 A5 c5 qs := by
  subst hq
  have hwT := h.wT
  have hw0 := h.d.bel.size
  have kX : ∀ q i, q < T → some q ≠ some (⟨X, i, none⟩ : Addr).block := fun q i hq e => by have e2 : q = X := Option.some.inj e; omega
  obtain ⟨r0, r1, r2⟩ := three_cells (a := .int .i64 n) (b := .slice A bs.length c) (d := .slice A5 qs.length c5) hX.x0 hX.x1 hX.x2
  have hd : PD w0 (((w.setCell ⟨X, 0, none⟩ (.int .i64 n)).setCell ⟨X, 1, none⟩ (.slice A bs.length c)).setCell ⟨X, 2, none⟩ (.slice A5 qs.length c5)) D b 0 n A c bs b2 0 A2 c2 ps := by
    have hD := h.DT
    have g : ∀ (wq : World) (i : Nat) (u : Value), PD w0 wq D b 0 n A c bs b2 0 A2 c2 ps → PD w0 (wq.setCell ⟨X, i, none⟩ u) D b 0 n A c bs b2 0 A2 c2 ps := fun wq i u hq =>
      ⟨hq.bel.setCell (p := ⟨X, i, none⟩) (by show w0.heap.size ≤ X; omega) _, hq.lo, hq.r.grown (grown_set wq ⟨X, i, none⟩ u) (kX _ _ hD) (fun h0 => kX _ _ (h.hb h0)) (fun h0 => kX _ _ (h.hb2 h0))⟩
    exact g _ _ _ (g _ _ _ (g _ _ _ h.d))
  have hcb : CB (((w.setCell ⟨X, 0, none⟩ (.int .i64 n)).setCell ⟨X, 1, none⟩ (.slice A bs.length c)).setCell ⟨X, 2, none⟩ (.slice A5 qs.length c5)) V6 [.int .i64 x6.f, .int .i64 x6.t, .int .i64 x6.l, .int .i64 x6.h] := by
    have hV := h.VT
    exact ((h.cb.grown (grown_set _ ⟨X, 0, none⟩ _) (kX _ _ hV)).grown (grown_set _ ⟨X, 1, none⟩ _) (kX _ _ hV)).grown (grown_set _ ⟨X, 2, none⟩ _) (kX _ _ hV)
  have ho := own_set (own_set (own_set h.own (p := ⟨X, 0, none⟩) hv (.int .i64 n)) (p := ⟨X, 1, none⟩) hv (.slice A bs.length c)) (p := ⟨X, 2, none⟩) hv (.slice A5 qs.length c5)
  obtain ⟨b5, h5⟩ := own_csR ho
  refine ⟨⟨hd, hcb, h.DT, h.VT, h.hb, h.hb2, by simpa using h.ex, hwT, ⟨rfl, .inl ⟨rfl, rfl⟩⟩, ((h.bl.setCell (p := ⟨X, 0, none⟩) hT _).setCell (p := ⟨X, 1, none⟩) hT _).setCell (p := ⟨X, 2, none⟩) hT _⟩, b5, hd.bel, by omega, ⟨by simpa using hX.ex, r0, r1, r2, hd.r.rd, h5⟩⟩
end
/-- .. and what is to be appended. -/
structure LK (w0 wS w : World) (D T b b2 : Nat) (n : Int) (A : Option Addr) (c : Nat) (bs : List Bd) (A2 : Option Addr) (c2 : Nat) (ps : List Pr) (V6 : Nat) (x6 : Pr) (v : Value) (m : Nat) (cs : List Value) (V : Nat) (ds : List Value) : Prop where
  j : LJ w0 wS w D T b b2 n A c bs A2 c2 ps V6 x6 v m cs
  cb : CB w V ds
  nv : v.ownBlock ≠ some V
section
variable {w0 wS w w' : World} {D T b b2 V6 V m : Nat} {n : Int} {A A2 : Option Addr} {c c2 : Nat} {bs : List Bd} {ps : List Pr} {x6 : Pr} {v : Value} {cs ds : List Value}
theorem LK.alloc (h : LK w0 wS w D T b b2 n A c bs A2 c2 ps V6 x6 v m cs V ds) (o : Obj) : LK w0 wS (w.alloc o) D T b b2 n A c bs A2 c2 ps V6 x6 v m cs V ds := ⟨h.j.alloc o, h.cb.alloc o, h.nv⟩
theorem LK.cells (h : LK w0 wS w D T b b2 n A c bs A2 c2 ps V6 x6 v m cs V ds) : LS6 D V6 n A c bs A2 c2 ps x6 w := h.j.cells
theorem LJ.bx {t : TypeId} (h : LJ w0 wS w D T b b2 n A c bs A2 c2 ps V6 x6 v m cs) : BX2 (w.alloc (.cells #[.int .i64 0, .slice none 0 0, .slice none 0 0] t)) T v (.pointer (some ⟨w.heap.size, 0, none⟩)) := bx2_new h
theorem LK.bx {t : TypeId} (h : LK w0 wS w D T b b2 n A c bs A2 c2 ps V6 x6 v m cs V ds) : BX2 (w.alloc (.cells #[.int .i64 0, .slice none 0 0, .slice none 0 0] t)) T v (.pointer (some ⟨w.heap.size, 0, none⟩)) := bx2_new h.j
end
theorem prCs_take (bs : List Pr) (m : Nat) : prCs (bs.take m) = (prCs bs).take (m * 4) := by
  induction bs generalizing m with
  | nil => simp [prCs]
  | cons y t ih =>
    cases m with
    | zero => simp [prCs]
    | succ m =>
      have e : (m + 1) * 4 = (m * 4) + 1 + 1 + 1 + 1 := by omega
      have h := ih m
      rw [e]
      simp only [List.take_succ_cons, prCs]
      rw [h]
theorem csr_news {w : World} {B b o m : Nat} {A : Option Addr} {ps : List Pr} (h : CsR w B b o A ps.length (prCs ps)) (hm : m ≤ ps.length) : NewsAt w A m (prCs (ps.take m)) := fun h0 => by
  refine ⟨_, h.addr (by omega), fun j u hu => ?_⟩
  rw [add_zero_off]
  refine h.cell j u ?_
  rw [prCs_take, List.getElem?_take] at hu
  split at hu
  · exact hu
  · cases hu
/-- The last promise's lengths are others. -/
theorem dealOk_last {p : Pl} {qs : List Pr} {x : Pr} {l h : Int} (hd : dealOk p (qs ++ [x]) = true) (h0 : 0 ≤ l) (h1 : l ≤ h) (h2 : h ≤ 12) : dealOk p (qs ++ [⟨x.f, x.t, l, h⟩]) = true := by
  obtain ⟨a1, a2, a3, a4⟩ := dealOk_iff.1 hd
  have hlen : (qs ++ [(⟨x.f, x.t, l, h⟩ : Pr)]).length = (qs ++ [x]).length := by simp
  have hg : ∀ (i : Nat) (y : Pr), (qs ++ [(⟨x.f, x.t, l, h⟩ : Pr)])[i]? = some y → ∃ y0, (qs ++ [x])[i]? = some y0 ∧ y.f = y0.f ∧ y.t = y0.t ∧ (y0 = y ∨ (y.l = l ∧ y.h = h)) := by
    intro i y hy
    rw [List.getElem?_append] at hy ⊢
    split at hy
    · rename_i hi; rw [if_pos hi]; exact ⟨y, hy, rfl, rfl, .inl rfl⟩
    · rename_i hi
      rw [if_neg hi]
      cases e : i - qs.length with
      | zero => rw [e] at hy; simp at hy; subst hy; exact ⟨x, rfl, rfl, rfl, .inr ⟨rfl, rfl⟩⟩
      | succ j => rw [e] at hy; simp at hy
  refine dealOk_iff.2 ⟨a1, a2, by rw [hlen]; exact a3, fun i y hi hy => ?_⟩
  obtain ⟨y0, hy0, e1, e2, e3⟩ := hg i y hy
  obtain ⟨b1, b2⟩ := a4 i y0 (by rw [← hlen]; exact hi) hy0
  refine ⟨?_, fun k z hk hz hne => ?_⟩
  · rcases e3 with rfl | ⟨e4, e5⟩
    · exact b1
    · obtain ⟨c1, c2, c3, _⟩ := b1
      exact ⟨by rw [e1]; exact c1, by rw [e2]; exact c2, by rw [e1, e2]; exact c3, by rw [e4]; exact h0, by rw [e4, e5]; exact h1, by rw [e5]; exact h2⟩
  · obtain ⟨z0, hz0, f1, f2, _⟩ := hg k z hz
    have := b2 k z0 (by rw [← hlen]; exact hk) hz0 hne
    rw [e2, f1, f2]; exact this
end Go.Proofs.Ytdijfkpccbkdfaa
