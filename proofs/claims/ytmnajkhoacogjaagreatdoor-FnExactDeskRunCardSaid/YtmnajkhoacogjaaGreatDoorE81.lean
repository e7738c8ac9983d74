/-
 Desks that are made, marked and held.
-/
import Derived.Test.YtmnajkhoacogjaaGreatDoorE80
namespace Go.Proofs.YtmnajkhoacogjaaGreatDoor
set_option linter.unusedVariables false
set_option linter.unusedSimpArgs false
open Go Go.RowKit Pp

theorem boxT_inj {w : World} {X : Nat} {t t' : TypeId} (h : BoxT w X t) (h' : BoxT w X t') : t = t' := by
 obtain ⟨c, h⟩ := h
 obtain ⟨c', h'⟩ := h'
 rw [h] at h'
 injection h' with h'
 injection h'
theorem boxT_lt {w : World} {X : Nat} {t : TypeId} (h : BoxT w X t) : X < w.heap.size := by
 obtain ⟨c, h⟩ := h
 exact (Array.getElem?_eq_some_iff.1 h).1
theorem BoxT.same {w w' : World} {X : Nat} {t : TypeId} (h : BoxT w X t) (e : w'.heap[X]? = w.heap[X]?) : BoxT w' X t := by
 obtain ⟨c, h⟩ := h
 exact ⟨c, e.trans h⟩
theorem own_boxT {w : World} {base : Nat} {e : TypeId} {size : Nat} {v : Value} {n : Nat} {xs : List Value} (h : w.ownsRow base e size v n xs) {k : Nat} (hk : v.ownBlock = some k) : BoxT w k e := by
 rcases h.2 with ⟨rfl, _⟩ | ⟨g, cap, cur, rfl, _, hg, _⟩
 ·simp [Value.ownBlock] at hk
 ·have e1 : g = k := by simpa [Value.ownBlock] using hk
  subst e1
  exact ⟨cur, hg⟩
/-- Only blocks from lo up to hi have turned, and only rows of plans, of bounds and of deeds. -/
structure GI (lo hi : Nat) (w w' : World) : Prop where
 os : w'.os = w.os
 tape : w'.tape = w.tape
 output : w'.output = w.output
 size : w.heap.size ≤ w'.heap.size
 block : ∀ k, k < w.heap.size → ¬ (lo ≤ k ∧ k < hi) → w'.heap[k]? = w.heap[k]?
 box : ∀ (X : Nat) (t : TypeId), t ≠ 34 → t ≠ 97 → t ≠ 41 → BoxT w X t → w'.heap[X]? = w.heap[X]?
theorem GI.refl (lo hi : Nat) (w : World) : GI lo hi w w := ⟨rfl, rfl, rfl, Nat.le_refl _, fun _ _ _ => rfl, fun _ _ _ _ _ _ => rfl⟩
theorem gi_grown {lo hi : Nat} {w w' : World} {row : Option Nat} (h : w.grownBy w' row) (hr : ∀ k, row = some k → lo ≤ k ∧ k < hi) (ht : ∀ k, row = some k → BoxT w k 34 ∨ BoxT w k 97 ∨ BoxT w k 41) : GI lo hi w w' :=
 ⟨h.os, h.tape, h.output, h.size, fun k hk hn => h.block k hk (fun e => hn (hr k e.symm)), fun X t h1 h2 h3 hX => h.block X (boxT_lt hX) (fun e => by
  rcases ht X e.symm with hb | hb | hb
  ·exact h1 (boxT_inj hX hb)
  ·exact h2 (boxT_inj hX hb)
  ·exact h3 (boxT_inj hX hb))⟩
theorem GI.trans {lo hi : Nat} {w w1 w2 : World} (h : GI lo hi w w1) (h2 : GI lo hi w1 w2) : GI lo hi w w2 :=
 ⟨h2.os.trans h.os, h2.tape.trans h.tape, h2.output.trans h.output, Nat.le_trans h.size h2.size, fun k hk hn => (h2.block k (Nat.lt_of_lt_of_le hk h.size) hn).trans (h.block k hk hn),
  fun X t h3 h4 h5 hX => (h2.box X t h3 h4 h5 (hX.same (h.box X t h3 h4 h5 hX))).trans (h.box X t h3 h4 h5 hX)⟩
theorem GI.of_below {lo hi : Nat} {w w' : World} (h : Below w.heap.size w w') : GI lo hi w w' := ⟨h.os, h.tape, h.output, h.size, fun k hk _ => h.block k hk, fun X _ _ _ _ hX => h.block X (boxT_lt hX)⟩
theorem GI.low {lo hi B : Nat} {W W' : World} (h : GI lo hi W W') (hB : B ≤ lo) (hs : B ≤ W.heap.size) : Below B W W' :=
 ⟨h.os, h.tape, h.output, h.size, fun k hk => h.block k (by omega) (by omega)⟩
theorem GI.bel {lo hi B : Nat} {w W W' : World} (hW : Below B w W) (h : GI lo hi W W') (hB : B ≤ lo) (hs : B ≤ W.heap.size) : Below B w W' := hW.trans (h.low hB hs)
theorem rowIs_grown {w w' : World} {g n : Nat} {t : TypeId} {f : Nat → Value} {row : Option Nat} (h : w.rowIs g t n f) (hg : w.grownBy w' row) (hne : some g ≠ row) : w'.rowIs g t n f := h.of_block (hg.block g h.lt hne)
theorem row_box {w : World} {g n : Nat} {t : TypeId} {f : Nat → Value} (h : w.rowIs g t n f) : BoxT w g t := by
 obtain ⟨c, h, -⟩ := h
 exact ⟨c, h⟩
namespace Pp
def cntP (ps : List Pl) : Int := (ps.length : Int) + 3 * (sumP ps : Int)
theorem cntP_take {ps : List Pl} {k : Nat} {x : Pl} (h : ps[k]? = some x) : cntP (ps.take (k + 1)) = cntP (ps.take k) + 1 + 3 * (x.bs.length : Int) := by
 have h1 := sumP_step h
 have hk := (List.getElem?_eq_some_iff.1 h).1
 unfold cntP
 rw [h1, List.length_take, List.length_take, Nat.min_eq_left (by omega), Nat.min_eq_left (by omega)]
 omega
theorem cntP_le (ps : List Pl) (k : Nat) (hn : ps.length ≤ 2000000) (hs : sumP ps ≤ 2000000) : 0 ≤ cntP (ps.take k) ∧ cntP (ps.take k) ≤ 8000000 := by
 have := sumP_le ps k
 unfold cntP
 rw [List.length_take]
 omega
end Pp
/-- Plans that are marked from k on. -/
def MarkedP (k0 : Int) (ps qs : List Pl) : Prop := qs.length = ps.length ∧ ∀ (j : Nat) (p : Pl), ps[j]? = some p → qs[j]? = some ⟨k0 + cntP (ps.take j), marks (k0 + cntP (ps.take j) + 1) p.bs.length⟩
/-- A row of plans by its cells. -/
def PlF (lo : Nat) (w : World) (qs : List Pl) (F : Nat → Value) : Prop := ∀ (j : Nat) (q : Pl), qs[j]? = some q → F (j * 2) = .int .i64 q.n ∧ ∃ A c, F (j * 2 + 1) = .slice A q.bs.length c ∧ OwnB lo w (.slice A q.bs.length c) q.bs
/-- Its rows are different blocks, and others than the block of v. -/
def DifF (hi n : Nat) (v : Value) (F : Nat → Value) : Prop := (∀ i j k, i ≠ j → i < n → j < n → (F (i * 2 + 1)).ownBlock = some k → (F (j * 2 + 1)).ownBlock ≠ some k) ∧ (∀ j k, j < n → v.ownBlock = some k → (F (j * 2 + 1)).ownBlock ≠ some k) ∧ ∀ j k, j < n → (F (j * 2 + 1)).ownBlock = some k → k < hi
theorem dif_of {M hi n : Nat} {v : Value} {cs : List Value} {f : Nat → Value} (h : DifC M v cs) (hM : M ≤ hi) (hf : ∀ j, j < n * 2 → cs[j]? = some (f j)) : DifF hi n v f :=
 ⟨fun i j k hij hi hj e => h.two i j _ _ k hij (hf _ (by omega)) (hf _ (by omega)) e, fun j k hj e => h.now j _ k (hf _ (by omega)) e, fun j k hj e => Nat.lt_of_lt_of_le (h.lt j _ k (hf _ (by omega)) e) hM⟩

set_option maxHeartbeats 4000000 in
set_option maxRecDepth 100000 in
theorem markPlanS_q (k0 : Int) (lo hi M : Nat) (nv : Value) (nb : List Bd) (A : Option Addr) (c : Nat) (ps : List Pl) (w : World) (hk : 0 ≤ k0 ∧ k0 ≤ 1000000000) (hn : ps.length ≤ 2000000) (hs : sumP ps ≤ 2000000) (ops : OwnPs lo w (.slice A ps.length c) ps) (dif : DifW lo M w nv (.slice A ps.length c) ps.length) (hM : M ≤ hi) (hout : ∀ k, (Value.slice A ps.length c).ownBlock = some k → k < hi) (hnow : OwnB lo w nv nb) (hw : lo ≤ w.heap.size) :
  Calls Tryz.prog 48 #[.slice A ps.length c, .int .i64 k0] w fun e w' => e = .returned (.int .i64 (k0 + cntP ps)) ∧ GI lo hi w w' ∧ OwnB lo w' nv nb ∧ ∃ qs, MarkedP k0 ps qs ∧ OwnPs lo w' (.slice A ps.length c) qs := by
 obtain ⟨hk0, hk1⟩ := hk
 obtain ⟨cs, hrow, hplc⟩ := ops
 have hdc := dif.toC hrow
 rcases Nat.eq_zero_or_pos ps.length with h0 | h0
 ·have e : ps = [] := List.eq_nil_of_length_eq_zero h0
  subst e
  go_enter Tryz.func48, Tryz.ntmps48
  go_wp2_with fail
  go_loopg [1, 5] 0 (fun gh s1 s5 wr => wr = w ∧ s1 = .int .i64 k0 ∧ s5 = .int .i64 0)
  case atStart => exact ⟨rfl, rfl, rfl⟩
  case round =>
   obtain ⟨rfl, rfl, rfl⟩ := hrel
   go_wp2_with fail
   go_ret
   exact ⟨by simp [cntP, sumP], GI.refl _ _ _, hnow, [], ⟨rfl, by simp⟩, cs, hrow, hplc⟩
 ·obtain ⟨A1, g, c1, hv, h1, h2, _⟩ := own_form hrow
  injection hv with e1 _ e3
  subst e1; subst e3
  obtain rfl := h1 h0
  obtain ⟨f0, hf, hx, hb, hnc, hcm⟩ := own_row hrow
  have hgh : g < hi := hout g rfl
  have hdf := dif_of hdc hM hx
  have hpf : PlF lo w ps f0 := fun j q hq => by
   have hj := (List.getElem?_eq_some_iff.1 hq).1
   obtain ⟨k0, A', c', k1, k2⟩ := hplc.2 j q hq
   rw [hx _ (by omega)] at k0 k1
   injection k0 with k0
   injection k1 with k1
   exact ⟨k0, A', c', k1, k2⟩
  obtain ⟨n, hn'⟩ : ∃ n, ps.length = n := ⟨_, rfl⟩
  rw [hn'] at hn h0 hnc hdf ⊢
  have Hdf := hide hdf
  have Hlen := hide hn'
  have Hcap := hide (And.intro hnc hcm)
  clear hrow hplc hdc dif h1 h2 hx hout hn' hdf hM
  go_enter Tryz.func48, Tryz.ntmps48
  go_wp2_with fail
  go_loopg [1, 5] n (fun gh s1 s5 wr => ∃ (i : Nat) (v : Int) (F : Nat → Value) (qs : List Pl), i ≤ n ∧ gh = n - i ∧ s1 = .int .i64 v ∧ s5 = .int .i64 i ∧ Hid (v = k0 + cntP (ps.take i)) ∧ GI lo hi w wr ∧ wr.rowIs g 34 (c * 2) F ∧ Hid (PlF lo wr qs F) ∧ Hid (∀ j, F (j * 2 + 1) = f0 (j * 2 + 1)) ∧ OwnB lo wr nv nb ∧
   Hid (qs.length = n ∧ (∀ (j : Nat) (p : Pl), i ≤ j → ps[j]? = some p → qs[j]? = some p) ∧ ∀ (j : Nat) (p : Pl), j < i → ps[j]? = some p → qs[j]? = some ⟨k0 + cntP (ps.take j), marks (k0 + cntP (ps.take j) + 1) p.bs.length⟩))
  case atStart => exact ⟨0, k0, f0, ps, Nat.zero_le _, rfl, rfl, rfl, by simp [Hid, cntP, sumP], GI.refl _ _ _, hf, hpf, fun _ => rfl, hnow, Hlen.out, fun j p _ h => h, fun j p h _ => absurd h (Nat.not_lt_zero _)⟩
  case round =>
   clear hf hpf hnow
   obtain ⟨i, v, F, qs, hi', rfl, rfl, rfl, Hv, hG, hrow, HF, Hodd, hnow, Hqs⟩ := hrel
   have hv0 : 0 ≤ v ∧ v ≤ 1010000000 := by have := Hv.out; have := cntP_le ps i (by rw [Hlen.out]; exact hn) hs; omega
   obtain ⟨hv1, hv2⟩ := hv0
   by_cases hlt : i < n
   ·have hlt' : (i : Int) < (n : Int) := by omega
    have hci := Hcap.out.1
    obtain ⟨x, hx⟩ : ∃ x, ps[i]? = some x := ⟨_, List.getElem?_eq_getElem (by rw [Hlen.out]; exact hlt)⟩
    have hqx := Hqs.out.2.1 i x (Nat.le_refl _) hx
    obtain ⟨f1, A', c', f2, hox⟩ := HF.out i x hqx
    have hm : x.bs.length ≤ 2000000 := Nat.le_trans (sumP_mem (List.mem_of_getElem? hx)) hs
    have t0 := hrow.cell (i := i * 2) (by omega)
    have t1 := hrow.cell (i := i * 2 + 1) (by omega)
    have tf0 := hrow.frozen (i * 2)
    rw [f1] at t0
    rw [f2] at t1
    have hbox := row_box hrow
    have hgl := hrow.lt
    have hne : (Value.slice A' x.bs.length c').ownBlock ≠ some g := own_box hox hbox (by decide)
    have hgow : wr.grownBy (wr.setCell ⟨g, i * 2, none⟩ (.int .i64 v)) (some g) := grown_set wr ⟨g, i * 2, none⟩ _
    have hox1 : OwnB lo (wr.setCell ⟨g, i * 2, none⟩ (.int .i64 v)) (.slice A' x.bs.length c') x.bs := own_set hox hne _
    have hrow1 := hrow.set (i * 2) (.int .i64 v)
    have hnow1 : OwnB lo (wr.setCell ⟨g, i * 2, none⟩ (.int .i64 v)) nv nb := own_set hnow (own_box hnow hbox (by decide)) _
    have hG1 : GI lo hi w (wr.setCell ⟨g, i * 2, none⟩ (.int .i64 v)) := hG.trans (gi_grown hgow (fun k e => by injection e with e; omega) (fun k e => by injection e with e; subst e; exact .inl hbox))
    have hw1 : lo ≤ (wr.setCell ⟨g, i * 2, none⟩ (.int .i64 v)).heap.size := Nat.le_trans hw hG1.size
    have HF1 : Hid (∀ (j : Nat) (q : Pl), j ≠ i → qs[j]? = some q → F (j * 2) = .int .i64 q.n ∧ ∃ A c, F (j * 2 + 1) = .slice A q.bs.length c ∧ OwnB lo (wr.setCell ⟨g, i * 2, none⟩ (.int .i64 v)) (.slice A q.bs.length c) q.bs) := fun j q _ hq => by
     obtain ⟨k1, A2, c2, k2, k3⟩ := HF.out j q hq
     exact ⟨k1, A2, c2, k2, own_set k3 (own_box k3 hbox (by decide)) _⟩
    have q1 : (wr.setCell ⟨g, i * 2, none⟩ (.int .i64 v)).cell? ⟨g, i * 2 + 1, none⟩ = some (.slice A' x.bs.length c') := by
     rw [World.cell?_setCell_other _ _ _ _ (by simp)]; exact t1
    go_upto_region 5 with fail
    generalize wr.setCell ⟨g, i * 2, none⟩ (.int .i64 v) = W1 at hox1 hrow1 hnow1 hG1 hw1 HF1 q1 ⊢
    clear hrow hnow hG HF t0 t1 tf0 hgow hox hbox hgl
    have Hx := hide hx
    have Hf2 := hide f2
    clear hx hqx f1 f2
    go_wp2_with (go_at_call 84; go_fit (markBoundS_c (v + 1) lo A' c' x.bs W1 ⟨by omega, by omega⟩ hm hox1 hw1); rintro e w2 ⟨rfl, ho2, hg2⟩)
    have hrlo : ∀ k, (Value.slice A' x.bs.length c').ownBlock = some k → lo ≤ k ∧ k < hi := fun k hk => ⟨(hox1.lt k hk).1, Hdf.out.2.2 i k hlt (by rw [← Hodd.out, Hf2.out]; exact hk)⟩
    have hrow2 := rowIs_grown hrow1 hg2 (fun e => hne e.symm)
    have hnow2 : OwnB lo w2 nv nb := World.ownsRow.kept hnow1 hg2 (by
     cases hk : nv.ownBlock with
     | none => exact .inl rfl
     | some k => exact .inr (fun e => Hdf.out.2.1 i k hlt hk (by rw [← Hodd.out, Hf2.out]; exact e.symm)))
    have hG2 : GI lo hi w w2 := hG1.trans (gi_grown hg2 hrlo (fun k hk => .inr (.inl (own_boxT hox1 hk))))
    have Hn2 : Hid (v + 1 + 3 * (x.bs.length : Int) = k0 + cntP (ps.take (i + 1))) := by
     have := cntP_take Hx.out; have := Hv.out; unfold Hid; omega
    have HF2 : Hid (PlF lo w2 (qs.set i ⟨v, marks (v + 1) x.bs.length⟩) (fun j => if j = i * 2 then .int .i64 v else F j)) := fun j q hq => by
     by_cases hj : j = i
     ·subst hj
      rw [List.getElem?_set_self (by have := Hqs.out.1; omega)] at hq
      injection hq with hq
      subst hq
      refine ⟨if_pos rfl, A', c', ?_, ?_⟩
      ·refine (if_neg (by omega)).trans ?_
       rw [Hf2.out]; dsimp only; rw [marks_length]
      ·dsimp only; rw [marks_length]; exact ho2
     ·rw [List.getElem?_set_ne (fun e => hj e.symm)] at hq
      obtain ⟨k1, A2, c2, k2, k3⟩ := HF1.out j q hj hq
      have hjn : j < n := by have := (List.getElem?_eq_some_iff.1 hq).1; have := Hqs.out.1; omega
      refine ⟨(if_neg (by omega)).trans k1, A2, c2, (if_neg (by omega)).trans k2, World.ownsRow.kept k3 hg2 ?_⟩
      cases hk : (Value.slice A2 q.bs.length c2).ownBlock with
      | none => exact .inl rfl
      | some k => exact .inr (fun e => Hdf.out.1 i j k (fun h => hj h.symm) hlt hjn (by rw [← Hodd.out, Hf2.out]; exact e.symm) (by rw [← Hodd.out, k2]; exact hk))
    have Hodd2 : Hid (∀ j, (fun j => if j = i * 2 then Value.int .i64 v else F j) (j * 2 + 1) = f0 (j * 2 + 1)) := fun j => by
     dsimp only
     rw [if_neg (by omega)]; exact Hodd.out j
    have Hqs2 : Hid ((qs.set i ⟨v, marks (v + 1) x.bs.length⟩).length = n ∧ (∀ (j : Nat) (p : Pl), i + 1 ≤ j → ps[j]? = some p → (qs.set i ⟨v, marks (v + 1) x.bs.length⟩)[j]? = some p) ∧ ∀ (j : Nat) (p : Pl), j < i + 1 → ps[j]? = some p → (qs.set i ⟨v, marks (v + 1) x.bs.length⟩)[j]? = some ⟨k0 + cntP (ps.take j), marks (k0 + cntP (ps.take j) + 1) p.bs.length⟩) := by
     refine ⟨by rw [List.length_set]; exact Hqs.out.1, fun j p hj hp => ?_, fun j p hj hp => ?_⟩
     ·rw [List.getElem?_set_ne (by omega)]; exact Hqs.out.2.1 j p (by omega) hp
     ·by_cases e : j = i
      ·subst e
       rw [Hx.out] at hp
       injection hp with hp
       subst hp
       rw [List.getElem?_set_self (by have := Hqs.out.1; omega), ← Hv.out]
      ·rw [List.getElem?_set_ne (fun h => e h.symm)]; exact Hqs.out.2.2 j p (by omega) hp
    go_roundg (n - (i + 1))
    case measure => go_light; omega
    case rel => go_light; exact ⟨i + 1, _, _, _, by omega, rfl, rfl, by go_num, Hn2, hG2, hrow2, HF2, Hodd2, hnow2, Hqs2⟩
   ·obtain rfl : i = n := by omega
    go_wp2_with fail
    go_ret
    have hps : ps.take i = ps := List.take_of_length_le (by rw [Hlen.out]; exact Nat.le_refl _)
    have hql := Hqs.out.1
    refine ⟨by rw [Hv.out, hps]; rfl, hG, hnow, qs, ⟨hql.trans Hlen.out.symm, fun j p hp => Hqs.out.2.2 j p (by have := (List.getElem?_eq_some_iff.1 hp).1; have := Hlen.out; omega) hp⟩, (List.range (i * 2)).map F, ?_, by rw [List.length_map, List.length_range, hql], fun j q hq => ?_⟩
    ·rw [hql]
     exact row_own hrow (fun j hj => by rw [List.getElem?_map, List.getElem?_range hj]; rfl) (by simp) hb Hcap.out.1 Hcap.out.2
    ·have hj := (List.getElem?_eq_some_iff.1 hq).1
     rw [hql] at hj
     obtain ⟨k1, A2, c2, k2, k3⟩ := HF.out j q hq
     exact ⟨by rw [List.getElem?_map, List.getElem?_range (by omega)]; exact congrArg some k1, A2, c2, by rw [List.getElem?_map, List.getElem?_range (by omega)]; exact congrArg some k2, k3⟩

set_option maxHeartbeats 4000000 in
set_option maxRecDepth 100000 in
theorem heldPlanS_c (k0 : Int) (A : Option Addr) (b o c B : Nat) (ps qs : List Pl) (w : World) (hk : 0 ≤ k0 ∧ k0 ≤ 1000000000) (hn : ps.length ≤ 2000000) (hs : sumP ps ≤ 2000000) (hq : MarkedP k0 ps qs) (hR : PlsR w B b o A qs) :
  Calls Tryz.prog 50 #[.slice A ps.length c, .int .i64 k0] w fun e w' => e = .returned (.int .i64 (k0 + cntP ps)) ∧ w = w' := by
 obtain ⟨hk0, hk1⟩ := hk
 have Hq := hide hq
 have Hlen := hide hq.1
 clear hq
 go_enter Tryz.func50, Tryz.ntmps50
 go_wp2_with fail
 go_loopg [1, 5] ps.length (fun gh s1 s5 wr => wr = w ∧ ∃ i : Nat, ∃ v : Int, i ≤ ps.length ∧ gh = ps.length - i ∧ s1 = .int .i64 v ∧ s5 = .int .i64 i ∧ Hid (v = k0 + cntP (ps.take i)))
 case atStart => exact ⟨rfl, 0, k0, Nat.zero_le _, rfl, rfl, rfl, by simp [Hid, cntP, sumP]⟩
 case round =>
  obtain ⟨rfl, i, v, hi, rfl, rfl, rfl, Hv⟩ := hrel
  have hv0 : 0 ≤ v ∧ v ≤ 1010000000 := by have := Hv.out; have := cntP_le ps i hn hs; omega
  obtain ⟨hv1, hv2⟩ := hv0
  by_cases hlt : i < ps.length
  ·have hlt' : (i : Int) < (ps.length : Int) := by omega
   obtain rfl := hR.addr (by rw [Hlen.out]; omega)
   have hx := List.getElem?_eq_getElem hlt
   have hm : (ps[i]).bs.length ≤ 2000000 := Nat.le_trans (sumP_mem (List.mem_of_getElem? hx)) hs
   have hct := cntP_take hx
   obtain ⟨A', b', o', c', d0, d1, hrd⟩ := hR.row i _ (Hq.out.2 i _ hx)
   rw [← Hv.out] at d0 d1 hrd
   dsimp only at d0 d1 hrd
   rw [marks_length] at d1
   generalize ps[i] = x at hm hct d1 hrd
   have hnn : ¬ v + 1 + 3 * (x.bs.length : Int) < 0 := by omega
   have Hn2 : Hid (v + 1 + 3 * (x.bs.length : Int) = k0 + cntP (ps.take (i + 1))) := by have := Hv.out; unfold Hid; omega
   clear hx hct
   go_wp2_with (go_at_call 85; go_fit (heldBoundS_c (v + 1) A' b' o' c' x.bs.length _ _ ⟨by omega, by omega⟩ hm hrd); rintro e w2 ⟨rfl, rfl⟩)
   go_roundg (ps.length - (i + 1))
   case measure => go_light; omega
   case rel => go_light; exact ⟨rfl, i + 1, _, by omega, rfl, rfl, by go_num, Hn2⟩
  ·obtain rfl : i = ps.length := by omega
   go_wp2_with fail
   go_ret
   exact ⟨by rw [Hv.out, List.take_length]; rfl, rfl⟩

set_option maxHeartbeats 2000000 in
set_option maxRecDepth 100000 in
theorem heldDesk_c (n k0 : Int) (A A2 : Option Addr) (b o c b2 o2 c2 m : Nat) (ps qs : List Pl) (w : World) (hk : 0 ≤ k0 ∧ k0 ≤ 1000000) (hm : m ≤ 2000000) (hn : ps.length ≤ 2000000) (hs : sumP ps ≤ 2000000) (hq : MarkedP (k0 + 3 * m) ps qs) (hR : BdsR w w.heap.size b o A (marks k0 m)) (hP : PlsR w w.heap.size b2 o2 A2 qs) :
  Calls Tryz.prog 15 #[.agg #[.int .i64 n, .slice A m c, .slice A2 ps.length c2], .int .i64 k0] w fun e w' => e = .returned (.int .i64 (k0 + 3 * m + cntP ps)) ∧ Below w.heap.size w w' := by
 have hD := dkb_new (t := 37) (n := n) (c := c) (c2 := c2) (Below.refl w.heap.size w) hR hP
 rw [marks_length, hq.1] at hD
 have hml := marks_length k0 m
 have Hml := hide hml
 have Hql := hide hq.1
 have h0 := cntP_le ps ps.length hn hs
 rw [List.take_length] at h0
 obtain ⟨h01, h02⟩ := h0
 have hn1 : ¬ k0 + 3 * (m : Int) < 0 := by omega
 have hn2 : ¬ k0 + 3 * (m : Int) + cntP ps < 0 := by omega
 clear hR hP hml
 go_enter Tryz.func15, Tryz.ntmps15
 go_upto_region 1 with fail
 generalize w.alloc (.cells #[.int .i64 n, .slice A m c, .slice A2 ps.length c2] 37) = W at hD ⊢
 have p0 := hD.c0
 have p1 := hD.c1
 have p2 := hD.c2
 rw [Hml.out] at p1
 rw [Hql.out] at p2
 go_wp2_with (first
  | (go_at_call 49; go_fit (heldPlan_c n k0 A b o c m _ _ ⟨by omega, by omega⟩ hm (Nat.le_refl _) hD.rd); rintro e w2 ⟨rfl, hb⟩; replace hD := hD.below hb; clear p0 p1 p2; have p2 := hD.c2; rw [Hql.out] at p2)
  | (go_at_call 50; go_fit (heldPlanS_c (k0 + 3 * m) A2 b2 o2 c2 _ ps qs _ ⟨by omega, by omega⟩ hn hs hq hD.rp); rintro e w3 ⟨rfl, rfl⟩))
 go_ret
 exact ⟨rfl, hD.bel⟩

set_option maxHeartbeats 2000000 in
set_option maxRecDepth 100000 in
theorem markDesk_q (n k0 : Int) (lo hi M : Nat) (A A2 : Option Addr) (c c2 : Nat) (bs : List Bd) (ps : List Pl) (w : World) (hk : 0 ≤ k0 ∧ k0 ≤ 1000000) (hm : bs.length ≤ 2000000) (hn : ps.length ≤ 2000000) (hs : sumP ps ≤ 2000000) (own : OwnB lo w (.slice A bs.length c) bs) (ops : OwnPs lo w (.slice A2 ps.length c2) ps) (dif : DifW lo M w (.slice A bs.length c) (.slice A2 ps.length c2) ps.length) (hM : M ≤ hi) (hout : ∀ k, (Value.slice A2 ps.length c2).ownBlock = some k → k < hi) (hnow : ∀ k, (Value.slice A bs.length c).ownBlock = some k → k < hi) (hw : lo ≤ w.heap.size) :
  Calls Tryz.prog 14 #[.agg #[.int .i64 n, .slice A bs.length c, .slice A2 ps.length c2], .int .i64 k0] w fun e w' => e = .returned (.int .i64 (k0 + 3 * bs.length + cntP ps)) ∧ GI lo hi w w' ∧ OwnB lo w' (.slice A bs.length c) (marks k0 bs.length) ∧ ∃ qs, MarkedP (k0 + 3 * bs.length) ps qs ∧ OwnPs lo w' (.slice A2 ps.length c2) qs := by
 obtain ⟨b0, hr0⟩ := own.readsA
 obtain ⟨b2, hr2⟩ := ops.reads
 have hal : Below w.heap.size w (w.alloc (.cells #[.int .i64 n, .slice A bs.length c, .slice A2 ps.length c2] 37)) := by go_grown
 have hwl : w.heap.size < (w.alloc (.cells #[.int .i64 n, .slice A bs.length c, .slice A2 ps.length c2] 37)).heap.size := by simp
 have p0 : (w.alloc (.cells #[.int .i64 n, .slice A bs.length c, .slice A2 ps.length c2] 37)).cell? ⟨w.heap.size, 0, none⟩ = some (.int .i64 n) := by simp [go_sem]
 have p1 : (w.alloc (.cells #[.int .i64 n, .slice A bs.length c, .slice A2 ps.length c2] 37)).cell? ⟨w.heap.size, 1, none⟩ = some (.slice A bs.length c) := by simp [go_sem]
 have p2 : (w.alloc (.cells #[.int .i64 n, .slice A bs.length c, .slice A2 ps.length c2] 37)).cell? ⟨w.heap.size, 2, none⟩ = some (.slice A2 ps.length c2) := by simp [go_sem]
 have hup : ∀ k, (Value.slice A bs.length c).ownBlock = some k → k < w.heap.size := fun k hk => (own.lt k hk).2
 have own1 := own_below own hal
 have ops1 := ops.below hal
 have dif1 := dif.below hal
 clear own ops dif hr0 hr2
 go_enter Tryz.func14, Tryz.ntmps14
 go_upto_region 1 with fail
 generalize w.alloc (.cells #[.int .i64 n, .slice A bs.length c, .slice A2 ps.length c2] 37) = W at hal hwl p0 p1 p2 own1 ops1 dif1 ⊢
 have hlW : lo ≤ W.heap.size := by omega
 go_upto_region 2 with (go_at_call 47; go_fit (markPlan_c n k0 lo A c bs W ⟨by omega, by omega⟩ hm own1 hlW); rintro e w2 ⟨rfl, own2, hg2⟩)
 have hX : some w.heap.size ≠ (Value.slice A bs.length c).ownBlock := fun e => by have := hup _ e.symm; omega
 have q2 := (hg2.cell_far ⟨w.heap.size, 2, none⟩ hwl hX).trans p2
 have hG2 : GI lo hi w w2 := (GI.of_below hal).trans (gi_grown hg2 (fun k hk => ⟨(own1.lt k hk).1, hnow k hk⟩) (fun k hk => .inr (.inl (own_boxT own1 hk))))
 obtain ⟨ops2, dif2⟩ : OwnPs lo w2 (.slice A2 ps.length c2) ps ∧ DifW lo M w2 (.slice A bs.length c) (.slice A2 ps.length c2) ps.length := by
  obtain ⟨cs, hrow, hplc⟩ := ops1
  have hdc := dif1.toC hrow
  have hrow2 : w2.ownsRow lo 34 2 (.slice A2 ps.length c2) ps.length cs := World.ownsRow.kept hrow hg2 (by
   cases hk : (Value.slice A2 ps.length c2).ownBlock with
   | none => exact .inl rfl
   | some k => exact .inr (fun e => own_neT (show W.ownsRow _ _ _ _ _ _ from own1) hrow (by decide) e.symm hk))
  refine ⟨⟨cs, hrow2, hplc.1, fun j p hp => ?_⟩, DifW.of_own hrow2 hdc⟩
  obtain ⟨k0, A', c', k1, k2⟩ := hplc.2 j p hp
  refine ⟨k0, A', c', k1, World.ownsRow.kept k2 hg2 ?_⟩
  cases hk : (Value.slice A' p.bs.length c').ownBlock with
  | none => exact .inl rfl
  | some k => exact .inr (fun e => hdc.now j _ k k1 e.symm hk)
 have hl2 : lo ≤ w2.heap.size := Nat.le_trans hw hG2.size
 rw [show Value.slice A bs.length c = Value.slice A (marks k0 bs.length).length c by rw [marks_length]] at dif2 own2
 clear p0 p1 p2 own1 ops1 dif1 hg2
 have Hml := hide (marks_length k0 bs.length)
 go_wp2_with (go_at_call 48; go_fit (markPlanS_q (k0 + 3 * bs.length) lo hi M _ (marks k0 bs.length) A2 c2 ps w2 ⟨by omega, by omega⟩ hn hs ops2 dif2 hM hout own2 hl2); rintro e w3 ⟨rfl, hG3, own3, hqs3⟩)
 go_ret
 rw [Hml.out] at own3
 exact ⟨rfl, hG2.trans hG3, own3, hqs3⟩
end Go.Proofs.YtmnajkhoacogjaaGreatDoor
