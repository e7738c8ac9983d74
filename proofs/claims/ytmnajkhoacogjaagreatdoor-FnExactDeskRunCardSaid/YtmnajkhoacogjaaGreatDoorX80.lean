/-
 The law of ExactDeskDo: its walk.
-/
import Derived.Test.YtmnajkhoacogjaaGreatDoorE82
import Derived.Test.YtmnajkhoacogjaaGreatDoorS9h
import Derived.Test.YtmnajkhoacogjaaGreatDoorL9c
namespace Go.Proofs.YtmnajkhoacogjaaGreatDoor
set_option linter.unusedVariables false
set_option linter.unusedSimpArgs false
open Go Go.RowKit Pp

namespace Pp
theorem sumP_bound : ∀ {ps : List Pl}, (∀ p ∈ ps, p.bs.length ≤ 16) → sumP ps ≤ 16 * ps.length
 | [], _ => by simp [sumP]
 | p :: l, h => by
   have h1 := sumP_bound (ps := l) (fun q hq => h q (List.mem_cons_of_mem _ hq))
   have h2 := h p (List.mem_cons_self ..)
   simp only [sumP, List.length_cons]; omega
theorem do_sz {rt : List UInt8 → Option (List Mk)} {d : Dk} {a : Dd} : (deskDo rt d a).1.now.bs.length ≤ 16 ∧ (deskDo rt d a).1.past.length ≤ 8 ∧ ∀ p ∈ (deskDo rt d a).1.past, p.bs.length ≤ 16 := by
 cases hd : deskOk d
 ·rw [do_bad hd]; simp
 ·obtain ⟨h1, h2, h3⟩ := deskOk_iff.1 (deskDo_ok rt a hd)
  exact ⟨(planOk_iff.1 h2).2.1, h3, fun p hp => (planOk_iff.1 (h1 p hp)).2.1⟩
end Pp
/-- A box of a desk. -/
structure BXd (W : World) (X : Nat) (t : TypeId) (v0 v1 v2 : Value) : Prop where
 c0 : W.cell? ⟨X, 0, none⟩ = some v0
 c1 : W.cell? ⟨X, 1, none⟩ = some v1
 c2 : W.cell? ⟨X, 2, none⟩ = some v2
 bx : BoxT W X t
theorem BXd.same {W W' : World} {X : Nat} {t : TypeId} {v0 v1 v2 : Value} (h : BXd W X t v0 v1 v2) (e : W'.heap[X]? = W.heap[X]?) : BXd W' X t v0 v1 v2 :=
 ⟨(World.cell?_of_block (a := ⟨X, 0, none⟩) e).trans h.c0, (World.cell?_of_block (a := ⟨X, 1, none⟩) e).trans h.c1, (World.cell?_of_block (a := ⟨X, 2, none⟩) e).trans h.c2, h.bx.same e⟩
theorem BXd.below {W W' : World} {X : Nat} {t : TypeId} {v0 v1 v2 : Value} (h : BXd W X t v0 v1 v2) (hb : Below W.heap.size W W') : BXd W' X t v0 v1 v2 := h.same (hb.block X (boxT_lt h.bx))
theorem BXd.gi {lo hi : Nat} {W W' : World} {X : Nat} {t : TypeId} {v0 v1 v2 : Value} (h : BXd W X t v0 v1 v2) (h1 : t ≠ 34) (h2 : t ≠ 97) (h3 : t ≠ 41) (hg : GI lo hi W W') : BXd W' X t v0 v1 v2 := h.same (hg.box X t h1 h2 h3 h.bx)
theorem bxd_new {W : World} {t : TypeId} {v0 v1 v2 : Value} : BXd (W.alloc (.cells #[v0, v1, v2] t)) W.heap.size t v0 v1 v2 := ⟨by simp [go_sem], by simp [go_sem], by simp [go_sem], ⟨_, at_new rfl⟩⟩
/-- A box of a deed. -/
structure BE (W : World) (X : Nat) (k a1 a2 a3 : Int) (s : ByteArray) : Prop where
 c0 : W.cell? ⟨X, 0, none⟩ = some (.int .i64 k)
 c1 : W.cell? ⟨X, 1, none⟩ = some (.int .i64 a1)
 c2 : W.cell? ⟨X, 2, none⟩ = some (.int .i64 a2)
 c3 : W.cell? ⟨X, 3, none⟩ = some (.int .i64 a3)
 c4 : W.cell? ⟨X, 4, none⟩ = some (.string s)
 bx : BoxT W X 29
theorem BE.same {W W' : World} {X : Nat} {k a1 a2 a3 : Int} {s : ByteArray} (h : BE W X k a1 a2 a3 s) (e : W'.heap[X]? = W.heap[X]?) : BE W' X k a1 a2 a3 s :=
 ⟨(World.cell?_of_block (a := ⟨X, 0, none⟩) e).trans h.c0, (World.cell?_of_block (a := ⟨X, 1, none⟩) e).trans h.c1, (World.cell?_of_block (a := ⟨X, 2, none⟩) e).trans h.c2, (World.cell?_of_block (a := ⟨X, 3, none⟩) e).trans h.c3, (World.cell?_of_block (a := ⟨X, 4, none⟩) e).trans h.c4, h.bx.same e⟩
/-- The arguments, and what came in with them. -/
structure EL (w W : World) (n : Int) (A : Option Addr) (b o c : Nat) (bs : List Bd) (A2 : Option Addr) (b2 o2 c2 : Nat) (ps : List Pl) (k a1 a2 a3 : Int) (s : ByteArray) : Prop where
 bel : Below w.heap.size w W
 d : BXd W w.heap.size 27 (.int .i64 n) (.slice A bs.length c) (.slice A2 ps.length c2)
 e : BE W (w.heap.size + 1) k a1 a2 a3 s
 rd : BdsR W w.heap.size b o A bs
 rp : PlsR W w.heap.size b2 o2 A2 ps
section
variable {lo hi : Nat} {w W W' : World} {n : Int} {A : Option Addr} {b o c : Nat} {bs : List Bd} {A2 : Option Addr} {b2 o2 c2 : Nat} {ps : List Pl} {k a1 a2 a3 : Int} {s : ByteArray}
theorem EL.below (h : EL w W n A b o c bs A2 b2 o2 c2 ps k a1 a2 a3 s) (hb : Below W.heap.size W W') : EL w W' n A b o c bs A2 b2 o2 c2 ps k a1 a2 a3 s :=
 ⟨bthen h.bel hb, h.d.below hb, h.e.same (hb.block _ (boxT_lt h.e.bx)), h.rd.below (hb.mono h.bel.size), h.rp.below (hb.mono h.bel.size)⟩
theorem EL.gi (h : EL w W n A b o c bs A2 b2 o2 c2 ps k a1 a2 a3 s) (hg : GI lo hi W W') (hlo : w.heap.size ≤ lo) : EL w W' n A b o c bs A2 b2 o2 c2 ps k a1 a2 a3 s :=
 ⟨GI.bel h.bel hg hlo h.bel.size, h.d.gi (by decide) (by decide) (by decide) hg, h.e.same (hg.box _ _ (by decide) (by decide) (by decide) h.e.bx), h.rd.below (hg.low hlo h.bel.size), h.rp.below (hg.low hlo h.bel.size)⟩
end
/-- A result in a box: its rows lie below B. -/
structure ER (W : World) (B X : Nat) (n : Int) (A : Option Addr) (b o c : Nat) (bs : List Bd) (A2 : Option Addr) (b2 o2 c2 : Nat) (ps : List Pl) : Prop where
 hB : B ≤ W.heap.size
 d : BXd W X 37 (.int .i64 n) (.slice A bs.length c) (.slice A2 ps.length c2)
 rd : BdsR W B b o A bs
 rp : PlsR W B b2 o2 A2 ps
section
variable {lo hi B X : Nat} {W W' : World} {n : Int} {A : Option Addr} {b o c : Nat} {bs : List Bd} {A2 : Option Addr} {b2 o2 c2 : Nat} {ps : List Pl}
theorem ER.below (h : ER W B X n A b o c bs A2 b2 o2 c2 ps) (hb : Below W.heap.size W W') : ER W' B X n A b o c bs A2 b2 o2 c2 ps :=
 ⟨Nat.le_trans h.hB hb.size, h.d.below hb, h.rd.below (hb.mono h.hB), h.rp.below (hb.mono h.hB)⟩
theorem ER.gi (h : ER W B X n A b o c bs A2 b2 o2 c2 ps) (hg : GI lo hi W W') (hlo : B ≤ lo) : ER W' B X n A b o c bs A2 b2 o2 c2 ps :=
 ⟨Nat.le_trans h.hB hg.size, h.d.gi (by decide) (by decide) (by decide) hg, h.rd.below (hg.low hlo h.hB), h.rp.below (hg.low hlo h.hB)⟩
end
theorem own_gi {lo hi base size n : Nat} {W W' : World} {e : TypeId} {v : Value} {xs : List Value} (h : W.ownsRow base e size v n xs) (hg : GI lo hi W W') (hle : hi ≤ base) : W'.ownsRow base e size v n xs := by
 rcases h.2 with h2 | ⟨g, cap, cur, rfl, hb, hh, r⟩
 ·exact ⟨h.1, .inl h2⟩
 ·refine ⟨h.1, .inr ⟨g, cap, cur, rfl, hb, ?_, r⟩⟩
  rw [hg.block g (Array.getElem?_eq_some_iff.1 hh).1 (by omega)]; exact hh
section
variable {lo hi lo' hi' : Nat} {W W' : World} {A : Option Addr} {c : Nat} {bs : List Bd} {A2 : Option Addr} {c2 : Nat} {ps : List Pl}
theorem TK.below (h : TK lo hi W A c bs A2 c2 ps) (hb : Below W.heap.size W W') : TK lo hi W' A c bs A2 c2 ps := ⟨own_below h.own hb, h.ops.below hb, h.dif.below hb, h.hb, h.hp⟩
theorem TK.gi (h : TK lo hi W A c bs A2 c2 ps) (hg : GI lo' hi' W W') (hle : hi' ≤ lo) : TK lo hi W' A c bs A2 c2 ps := by
 obtain ⟨cs, hrow, hplc⟩ := h.ops
 have hdc := h.dif.toC hrow
 have hrow2 := own_gi hrow hg hle
 exact ⟨own_gi h.own hg hle, ⟨cs, hrow2, hplc.1, fun j p hp => by
  obtain ⟨k0, A', c', k1, k2⟩ := hplc.2 j p hp
  exact ⟨k0, A', c', k1, own_gi k2 hg hle⟩⟩, DifW.of_own hrow2 hdc, h.hb, h.hp⟩
theorem tk_of {M : Nat} (own : OwnB lo W (.slice A bs.length c) bs) (ops : OwnPs lo W (.slice A2 ps.length c2) ps) (dif : DifW lo M W (.slice A bs.length c) (.slice A2 ps.length c2) ps.length) : TK lo W.heap.size W A c bs A2 c2 ps := by
 obtain ⟨cs, hrow, hplc⟩ := ops
 have hdc := dif.toC hrow
 refine ⟨own, ⟨cs, hrow, hplc⟩, DifW.of_own hrow ⟨hdc.two, hdc.now, fun j y k hy e => ?_⟩, fun k hk => (own.lt k hk).2, fun k hk => (hrow.lt k hk).2⟩
 have hj := (List.getElem?_eq_some_iff.1 hy).1
 have hl := hplc.1
 have hx := List.getElem?_eq_getElem (show j < ps.length by omega)
 obtain ⟨k0, A', c', k1, k2⟩ := hplc.2 j _ hx
 rw [k1] at hy
 injection hy with hy
 subst hy
 exact (k2.lt k e).2
end
/-- A floating box of a desk. -/
def CL (L : Nat) (z : Value) (wx : World) : Prop := ∃ V, z = .pointer (some ⟨V, 0, none⟩) ∧ L ≤ V ∧ V < wx.heap.size ∧ wx.cell? ⟨V, 0, none⟩ = some (.int .i64 0) ∧ wx.cell? ⟨V, 1, none⟩ = some (.slice none 0 0) ∧ wx.cell? ⟨V, 2, none⟩ = some (.slice none 0 0) ∧ (∀ i, wx.frozen? ⟨V, i, none⟩ = false) ∧ BoxT wx V 37
theorem CL.below {L : Nat} {z : Value} {wx w' : World} (h : CL L z wx) (hb : Below wx.heap.size wx w') : CL L z w' := by
 obtain ⟨V, h1, h2, h3, c0, c1, c2, cf, hbx⟩ := h
 exact ⟨V, h1, h2, Nat.lt_of_lt_of_le h3 hb.size, ((bcell hb).1 _ _ h3).trans c0, ((bcell hb).1 _ _ h3).trans c1, ((bcell hb).1 _ _ h3).trans c2, fun i => ((bcell hb).2 _ _ h3).trans (cf i), hbx.below h3 hb⟩
theorem cl_new {L : Nat} {wx : World} (hL : L ≤ wx.heap.size) : CL L (.pointer (some ⟨wx.heap.size, 0, none⟩)) (wx.alloc (.cells #[.int .i64 0, .slice none 0 0, .slice none 0 0] 37)) :=
 ⟨wx.heap.size, rfl, hL, by simp, by simp [go_sem], by simp [go_sem], by simp [go_sem], fun i => by simp [go_sem], ⟨_, at_new rfl⟩⟩

theorem DifW.setBox {lo M n X : Nat} {w : World} {v a : Value} {ps : List Pl} (h : DifW lo M w v a n) (ho : OwnPs lo w a ps) (hX : BoxT w X 37) (i : Nat) (x : Value) : DifW lo M (w.setCell ⟨X, i, none⟩ x) v a n := by
 obtain ⟨cs, hrow, -⟩ := ho
 exact h.set (own_box hrow hX (by decide)) i x
/-- Plans before of one's own, no two rows of which are one block. -/
structure OD (lo M : Nat) (w : World) (v : Value) (A2 : Option Addr) (c2 : Nat) (ps : List Pl) : Prop where
 ops : OwnPs lo w (.slice A2 ps.length c2) ps
 dif : DifW lo M w v (.slice A2 ps.length c2) ps.length
theorem OD.below {lo M c2 : Nat} {w w' : World} {v : Value} {A2 : Option Addr} {ps : List Pl} (h : OD lo M w v A2 c2 ps) (hb : Below w.heap.size w w') : OD lo M w' v A2 c2 ps := ⟨h.ops.below hb, h.dif.below hb⟩
theorem OD.less {lo lo' M c2 : Nat} {w : World} {v : Value} {A2 : Option Addr} {ps : List Pl} (h : OD lo M w v A2 c2 ps) (hl : lo' ≤ lo) : OD lo' M w v A2 c2 ps := ⟨h.ops.less hl, h.dif.less hl⟩
theorem OD.setBox {lo M c2 X : Nat} {w : World} {v : Value} {A2 : Option Addr} {ps : List Pl} (h : OD lo M w v A2 c2 ps) (hX : BoxT w X 37) (i : Nat) (x : Value) : OD lo M (w.setCell ⟨X, i, none⟩ x) v A2 c2 ps := ⟨h.ops.setBox hX i x, h.dif.setBox h.ops hX i x⟩

set_option maxHeartbeats 8000000 in
set_option maxRecDepth 100000 in
theorem exactDeskDo_c (n : Int) (A : Option Addr) (b o c : Nat) (bs : List Bd) (A2 : Option Addr) (b2 o2 c2 : Nat) (ps : List Pl) (k a1 a2 a3 : Int) (ls : List UInt8) (w : World) (hv : VR w) (hbl : bs.length ≤ 9223372036854775807) (hpl : ps.length ≤ 9223372036854775807) (hpl3 : ∀ p ∈ ps, p.bs.length ≤ 9223372036854775807) (hll : ls.length ≤ 9223372036854775807) (hR : BdsR w w.heap.size b o A bs) (hP : PlsR w w.heap.size b2 o2 A2 ps) :
  Calls Tryz.prog 3 #[.agg #[.int .i64 n, .slice A bs.length c, .slice A2 ps.length c2], .agg #[.int .i64 k, .int .i64 a1, .int .i64 a2, .int .i64 a3, .string (byts ls)]] w fun e w' => e = .returned (.bool true) ∧ Below w.heap.size w w' := by
 have hal : Below w.heap.size w ((w.alloc (.cells #[.int .i64 n, .slice A bs.length c, .slice A2 ps.length c2] 27)).alloc (.cells #[.int .i64 k, .int .i64 a1, .int .i64 a2, .int .i64 a3, .string (byts ls)] 29)) := by go_grown
 have hE : EL w ((w.alloc (.cells #[.int .i64 n, .slice A bs.length c, .slice A2 ps.length c2] 27)).alloc (.cells #[.int .i64 k, .int .i64 a1, .int .i64 a2, .int .i64 a3, .string (byts ls)] 29)) n A b o c bs A2 b2 o2 c2 ps k a1 a2 a3 (byts ls) := by
  refine ⟨hal, (bxd_new (W := w)).below (by go_grown), ⟨?_, ?_, ?_, ?_, ?_, ?_⟩, hR.below hal, hP.below hal⟩
  ·simp [go_sem]
  ·simp [go_sem]
  ·simp [go_sem]
  ·simp [go_sem]
  ·simp [go_sem]
  ·exact ⟨_, at_new (by simp)⟩
 clear hal hR hP
 obtain ⟨R, hRq⟩ : ∃ R : Int, (if (1048576 : Int) - (bs.length : Int) < 0 then -1 else szP (1048576 - bs.length) ps) = R := ⟨_, rfl⟩
 have hcs := szDesk_cases bs ps R hRq
 have HR := hide hRq
 clear hRq
 have Hp3 := hide hpl3
 clear hpl3
 rcases hcs with rfl | ⟨hR0, hR1, hb0, hp0, hs0⟩
 ·go_enter Tryz.func3, Tryz.ntmps3
  go_upto_region 1 with fail
  generalize (w.alloc (.cells #[.int .i64 n, .slice A bs.length c, .slice A2 ps.length c2] 27)).alloc (.cells #[.int .i64 k, .int .i64 a1, .int .i64 a2, .int .i64 a3, .string (byts ls)] 29) = W at hE ⊢
  have d0 := hE.d.c0
  have d1 := hE.d.c1
  have d2 := hE.d.c2
  go_wp2_with (go_at_call 7; go_fit (szDesk_c 1048576 n A A2 b o c b2 o2 c2 _ bs ps _ (by omega) hbl hpl Hp3.out hE.bel.size hE.rd hE.rp); rintro e w2 ⟨rfl, hb⟩; rw [HR.out])
  go_ret
  exact ⟨rfl, bthen hE.bel hb⟩
 ·have hRn : ¬ R < 0 := by omega
  by_cases hlw : R - (ls.length : Int) < 0
  ·have H : Hid ((if R - (ls.length : Int) < 0 then (-1 : Int) else R - (ls.length : Int)) = -1) := if_pos hlw
   clear hlw
   go_enter Tryz.func3, Tryz.ntmps3
   go_upto_region 1 with fail
   generalize (w.alloc (.cells #[.int .i64 n, .slice A bs.length c, .slice A2 ps.length c2] 27)).alloc (.cells #[.int .i64 k, .int .i64 a1, .int .i64 a2, .int .i64 a3, .string (byts ls)] 29) = W at hE ⊢
   have d0 := hE.d.c0
   have d1 := hE.d.c1
   have d2 := hE.d.c2
   go_upto_region 5 with (go_at_call 7; go_fit (szDesk_c 1048576 n A A2 b o c b2 o2 c2 _ bs ps _ (by omega) hbl hpl Hp3.out hE.bel.size hE.rd hE.rp); rintro e w2 ⟨rfl, hb⟩; rw [HR.out]; replace hE := hE.below hb)
   clear d0 d1 d2 hb
   have e0 := hE.e.c0
   have e1 := hE.e.c1
   have e2 := hE.e.c2
   have e3 := hE.e.c3
   have e4 := hE.e.c4
   go_wp2_with (go_at_call 8; go_fit (szDeed_c R k a1 a2 a3 (byts ls) ls (byts_list _) _ ⟨hR0, hR1⟩ hll); rintro e w3 ⟨rfl, hb⟩; rw [H.out])
   go_ret
   exact ⟨rfl, bthen hE.bel hb⟩
  ·obtain ⟨r1, hr1⟩ : ∃ r1, R - (ls.length : Int) = r1 := ⟨_, rfl⟩
   have H : Hid ((if R - (ls.length : Int) < 0 then (-1 : Int) else R - (ls.length : Int)) = r1) := by rw [if_neg hlw]; exact hr1
   have hr1n : ¬ r1 < 0 := by omega
   have hb1 : bs.length ≤ 2000000 := by omega
   have hp1 : ps.length ≤ 2000000 := by omega
   have hs1 : sumP ps ≤ 2000000 := by omega
   have hp2 : ∀ p ∈ ps, p.bs.length ≤ 2000000 := fun p hp => by have := sumP_mem hp; omega
   have Hp2 := hide hp2
   clear hp2 hlw hr1
   obtain ⟨rt, hrt⟩ := isRead_ex
   obtain ⟨⟨⟨⟨n', bs'⟩, ps'⟩, r⟩, hDD⟩ : ∃ D, deskDo rt ⟨⟨n, bs⟩, ps⟩ ⟨k, a1, a2, a3, ls⟩ = D := ⟨_, rfl⟩
   have hsz := do_sz (rt := rt) (d := ⟨⟨n, bs⟩, ps⟩) (a := ⟨k, a1, a2, a3, ls⟩)
   rw [hDD] at hsz
   obtain ⟨z1, z2, z3⟩ := hsz
   dsimp only at z1 z2 z3
   have z4 := sumP_bound z3
   have hb'1 : bs'.length ≤ 2000000 := by omega
   have hp'1 : ps'.length ≤ 2000000 := by omega
   have hs'1 : sumP ps' ≤ 2000000 := by omega
   have Hp'2 := hide (show ∀ p ∈ ps', p.bs.length ≤ 2000000 from fun p hp => by have := z3 p hp; omega)
   have hspec := fun (wq : World) (A1 A3 : Option Addr) (g1 c1 g2 c3 : Nat) (hcap : bs.length ≤ c1) (hc63 : c1 ≤ 9223372036854775807) (hR : BdsR wq wq.heap.size g1 0 A1 bs) (hP : PlsR wq wq.heap.size g2 0 A3 ps) => sDeskDo_q rt hrt n bs ps k a1 a2 a3 (byts ls) ls (byts_list _) A1 A3 g1 0 c1 g2 0 c3 _ wq hb1 hp1 Hp2.out hcap hc63 (Nat.le_refl _) hR hP
   have himpl := fun (wq : World) (hv : VR wq) (A1 A3 : Option Addr) (g1 c1 g2 c3 : Nat) (hR : BdsR wq wq.heap.size g1 0 A1 bs) (hP : PlsR wq wq.heap.size g2 0 A3 ps) => deskDo_w rt hrt n bs ps k a1 a2 a3 (byts ls) ls (byts_list _) A1 A3 g1 0 c1 g2 0 c3 _ wq hv hb1 hp1 Hp2.out (Nat.le_refl _) hR hP
   simp only [hDD] at hspec himpl
   have Hspec := hide hspec
   have Himpl := hide himpl
   clear hspec himpl hDD z1 z2 z3 z4 hR0 hb0 hp0 hs0
   have hne : (r != r) = false := by simp
   go_enter Tryz.func3, Tryz.ntmps3
   go_upto_region 1 with fail
   generalize (w.alloc (.cells #[.int .i64 n, .slice A bs.length c, .slice A2 ps.length c2] 27)).alloc (.cells #[.int .i64 k, .int .i64 a1, .int .i64 a2, .int .i64 a3, .string (byts ls)] 29) = W at hE ⊢
   have d0 := hE.d.c0
   have d1 := hE.d.c1
   have d2 := hE.d.c2
   go_upto_region 5 with (go_at_call 7; go_fit (szDesk_c 1048576 n A A2 b o c b2 o2 c2 _ bs ps _ (by omega) hbl hpl Hp3.out hE.bel.size hE.rd hE.rp); rintro e w2 ⟨rfl, hb⟩; rw [HR.out]; replace hE := hE.below hb)
   clear d0 d1 d2 hb
   have e0 := hE.e.c0
   have e1 := hE.e.c1
   have e2 := hE.e.c2
   have e3 := hE.e.c3
   have e4 := hE.e.c4
   go_upto_region 8 with (go_at_call 8; go_fit (szDeed_c R k a1 a2 a3 (byts ls) ls (byts_list _) _ ⟨by omega, hR1⟩ hll); rintro e W ⟨rfl, hb⟩; rw [H.out]; replace hE := hE.below hb)
   clear e0 e1 e2 e3 e4 hb H HR Hp3
   replace hE := hE.below (show Below W.heap.size W W.drew by go_grown)
   refine wp_regionE (fun w' => ((w'.cell? ⟨w.heap.size, 0, none⟩ = some (.int .i64 n) ∧ w'.cell? ⟨w.heap.size, 1, none⟩ = some (.slice A bs.length c) ∧ w'.cell? ⟨w.heap.size, 2, none⟩ = some (.slice A2 ps.length c2)) ∧ w'.cell? ⟨w.heap.size + 1, 0, none⟩ = some (.int .i64 k) ∧ w'.cell? ⟨w.heap.size + 1, 1, none⟩ = some (.int .i64 a1) ∧ w'.cell? ⟨w.heap.size + 1, 2, none⟩ = some (.int .i64 a2) ∧ w'.cell? ⟨w.heap.size + 1, 3, none⟩ = some (.int .i64 a3) ∧ w'.cell? ⟨w.heap.size + 1, 4, none⟩ = some (.string (byts ls)))) 10 (by kernel_rfl) ?_
   change wpE _ _ _ _ _ _ 11 #[false, false, false, false, false, false, false, false, false, false, false] _ _
   generalize W.drew = wd at hE  ⊢
   obtain ⟨L, hLd⟩ : ∃ L, wd.heap.size = L := ⟨_, rfl⟩
   have HLd := hide hLd
   have hJ : Below L wd wd := Below.refl _ _
   have hwL : w.heap.size ≤ L := by rw [← hLd]; exact hE.bel.size

   have HE : Hid (∀ wx, Below L wd wx → EL w wx n A b o c bs A2 b2 o2 c2 ps k a1 a2 a3 (byts ls)) := by rw [← hLd]; exact fun wx h => hE.below h
   clear hLd
   have HP : Hid (∀ wx, Below L wd wx → ((wx.cell? ⟨w.heap.size, 0, none⟩ = some (.int .i64 n) ∧ wx.cell? ⟨w.heap.size, 1, none⟩ = some (.slice A bs.length c) ∧ wx.cell? ⟨w.heap.size, 2, none⟩ = some (.slice A2 ps.length c2)) ∧ wx.cell? ⟨w.heap.size + 1, 0, none⟩ = some (.int .i64 k) ∧ wx.cell? ⟨w.heap.size + 1, 1, none⟩ = some (.int .i64 a1) ∧ wx.cell? ⟨w.heap.size + 1, 2, none⟩ = some (.int .i64 a2) ∧ wx.cell? ⟨w.heap.size + 1, 3, none⟩ = some (.int .i64 a3) ∧ wx.cell? ⟨w.heap.size + 1, 4, none⟩ = some (.string (byts ls)))) := fun wx h => by have h := HE.out wx h; exact ⟨⟨h.d.c0, h.d.c1, h.d.c2⟩, h.e.c0, h.e.c1, h.e.c2, h.e.c3, h.e.c4⟩
   have hS0 := HP.out _ hJ
   refine wpE_tk (v := ?_) 0 [1, 4, 9, 10] (hy := ?_) (hS := hS0) (h := ?_)
   rotate_left
   ·intro w' hSw
    simp only [xg0, xg1, xg2]
    go_simp
    all_goals with_reducible rfl
   simp only [xg0, xg1, xg2, Act.put, xs0, xs1, xs2]
   refine wpE_tk (v := ?_) 2 [3, 4, 9, 10] (hy := ?_) (hS := hS0) (h := ?_)
   rotate_left
   ·intro w' hSw
    simp only [xg0, xg1, xg2]
    go_simp
    all_goals with_reducible rfl
   simp only [xg0, xg1, xg2, Act.put, xs0, xs1, xs2]
   refine wpF_start 8 6 (fun wx => Below L wd wx) (fun z wx => CL L z wx) (of_decide_eq_true (by kernel_rfl)) rfl hJ (fun fl z hB => ?_)
   simp only [Act.put, xs0, xs1, xs2]
   apply wpF_step (f := 8) (fl := fl) (z := z) (J := fun wx => Below L wd wx) (B := fun z wx => CL L z wx) 1
   case hi => exact of_decide_eq_true (by kernel_rfl)
   case hg => kernel_rfl
   case hr0 => kernel_rfl
   case hr1 => kernel_rfl
   case hL => kernel_rfl
   case hJ => exact hJ
   case hB => exact hB
   case hF =>
    refine floats_of (of_decide_eq_true (by kernel_rfl)) (by kernel_rfl) (by kernel_rfl) HP.out ?_
    (try clear hS0)
    clear hJ hB
    intro z wx hJ K hK
    simp only [xg0, xg1, xg2]
    go_simp
    exact hK.out _ _ (hJ.trans (show Below L wx _ from (show Below wx.heap.size wx _ by go_grown).mono (by have := hJ.size; have := HLd.out; omega))) (cl_new (by have := hJ.size; have := HLd.out; omega))
   (try clear hS0)
   clear hJ hB
   intro fl z wx hJ hB K hK
   simp only [xg0, xg1, xg2]
   go_simp
   go_at_call 10
   refine (toDesk_q n bs ps A A2 b o c b2 o2 c2 _ _ hb1 hp1 Hp2.out (HE.out _ hJ).bel.size (HE.out _ hJ).rd (HE.out _ hJ).rp).mono ?_
   rintro e w4 ⟨A1, c1, A3, c3, rfl, hT, hb4⟩
   have hsz := hJ.size
   rw [HLd.out] at hsz
   replace hB := fun h => (hB h).below hb4
   replace hJ : Below L wd w4 := hJ.trans (hb4.mono hsz)
   have hJ' : Below L wd w4 ∧ OwnB L w4 (.slice A1 bs.length c1) bs ∧ OwnPs L w4 (.slice A3 ps.length c3) ps := ⟨hJ, own_less hT.own hsz, hT.ops.less hsz⟩
   refine hK.out _ _ (.inr (HP.out _ hJ)) ?_
   clear hK K hb4 hsz hJ hT
   have hJ := hJ'
   clear hJ'
   simp only [Act.put, xs0, xs1, xs2]
   apply wpF_step (f := 8) (fl := fl) (z := z) (J := fun wx => (Below L wd wx ∧ OwnB L wx (.slice A1 bs.length c1) bs ∧ OwnPs L wx (.slice A3 ps.length c3) ps)) (B := fun z wx => CL L z wx) 3
   case hi => exact of_decide_eq_true (by kernel_rfl)
   case hg => kernel_rfl
   case hr0 => kernel_rfl
   case hr1 => kernel_rfl
   case hL => kernel_rfl
   case hJ => exact hJ
   case hB => exact hB
   case hF =>
    refine floats_of (of_decide_eq_true (by kernel_rfl)) (by kernel_rfl) (by kernel_rfl) (fun wx h => HP.out wx h.1) ?_
    (try clear hS0)
    clear hJ hB
    intro z wx hJ K hK
    simp only [xg0, xg1, xg2]
    go_simp
    exact hK.out _ _ ⟨hJ.1.trans (show Below L wx _ from (show Below wx.heap.size wx _ by go_grown).mono (by have := hJ.1.size; have := HLd.out; omega)), own_below hJ.2.1 (by go_grown), hJ.2.2.below (by go_grown)⟩ (cl_new (by have := hJ.1.size; have := HLd.out; omega))
   (try clear hS0)
   clear hJ hB
   intro fl z wx hJ hB K hK
   simp only [xg0, xg1, xg2]
   go_simp
   go_at_call 11
   refine (toDeed_c k a1 a2 a3 (byts ls) _).mono ?_
   rintro e w5 ⟨rfl, hb5⟩
   have hsz := hJ.1.size
   rw [HLd.out] at hsz
   replace hB := fun h => (hB h).below hb5
   replace hJ : Below L wd w5 ∧ OwnB L w5 (.slice A1 bs.length c1) bs ∧ OwnPs L w5 (.slice A3 ps.length c3) ps := ⟨hJ.1.trans (hb5.mono hsz), own_below hJ.2.1 hb5, hJ.2.2.below hb5⟩
   refine hK.out _ _ (.inr (HP.out _ hJ.1)) ?_
   clear hK K hb5 hsz
   simp only [Act.put, xs0, xs1, xs2]
   apply wpF_step (f := 8) (fl := fl) (z := z) (J := fun wx => (Below L wd wx ∧ OwnB L wx (.slice A1 bs.length c1) bs ∧ OwnPs L wx (.slice A3 ps.length c3) ps)) (B := fun z wx => CL L z wx) 4
   case hi => exact of_decide_eq_true (by kernel_rfl)
   case hg => kernel_rfl
   case hr0 => kernel_rfl
   case hr1 => kernel_rfl
   case hL => kernel_rfl
   case hJ => exact hJ
   case hB => exact hB
   case hF =>
    refine floats_of (of_decide_eq_true (by kernel_rfl)) (by kernel_rfl) (by kernel_rfl) (fun wx h => HP.out wx h.1) ?_
    (try clear hS0)
    clear hJ hB
    intro z wx hJ K hK
    simp only [xg0, xg1, xg2]
    go_simp
    exact hK.out _ _ ⟨hJ.1.trans (show Below L wx _ from (show Below wx.heap.size wx _ by go_grown).mono (by have := hJ.1.size; have := HLd.out; omega)), own_below hJ.2.1 (by go_grown), hJ.2.2.below (by go_grown)⟩ (cl_new (by have := hJ.1.size; have := HLd.out; omega))
   (try clear hS0)
   clear hJ hB
   intro fl z wx hJ hB K hK
   simp only [xg0, xg1, xg2]
   go_simp
   go_at_call 9
   obtain ⟨g1, hr1⟩ := OwnB.readsA hJ.2.1
   obtain ⟨g2, hr2⟩ := hJ.2.2.reads
   have hcp := own_cap (show wx.ownsRow _ _ _ _ _ _ from hJ.2.1)
   refine (Hspec.out _ A1 A3 g1 c1 g2 c3 hcp.1 hcp.2 hr1 hr2).mono ?_
   clear hr1 hr2 hcp
   rintro e w6 ⟨v, rfl, ⟨A7, c7, A8, c8, b8, o8, rfl, own5, -, -, opt5⟩, hb6⟩
   have hsz := hJ.1.size
   rw [HLd.out] at hsz
   replace hB := fun h => (hB h).below hb6
   have hJ' : Below L wd w6 ∧ OwnB L w6 (.slice A7 bs'.length c7) bs' ∧ OwnT L w6 A8 ps' := ⟨hJ.1.trans (hb6.mono hsz), own_less own5 hsz, opt5.less hsz⟩
   refine hK.out _ _ (.inr (HP.out _ hJ'.1)) ?_
   clear hK K hb6 hsz hJ own5 opt5
   have hJ := hJ'
   clear hJ'
   simp only [Act.put, xs0, xs1, xs2]
   have hS0 := HP.out _ hJ.1
   apply wpF_take (z := z) 5 [7, 10]
   case hi => exact of_decide_eq_true (by kernel_rfl)
   case hl0 => kernel_rfl
   case hl1 => kernel_rfl
   case hs => kernel_rfl
   case hf0 => kernel_rfl
   case hf1 => kernel_rfl
   case hr0 => kernel_rfl
   case hr1 => kernel_rfl
   case hQ => exact fun _ _ _ h => h
   case hg => kernel_rfl
   case hS => exact hS0
   case hy =>
    intro w' hSw
    simp only [xg0, xg1, xg2]
    go_simp
    all_goals with_reducible rfl
   simp only [xg0, xg1, xg2, Act.put, xs0, xs1, xs2]
   apply wpF_take (z := z) 6 [9, 10]
   case hi => exact of_decide_eq_true (by kernel_rfl)
   case hl0 => kernel_rfl
   case hl1 => kernel_rfl
   case hs => kernel_rfl
   case hf0 => kernel_rfl
   case hf1 => kernel_rfl
   case hr0 => kernel_rfl
   case hr1 => kernel_rfl
   case hQ => exact fun _ _ _ h => h
   case hg => kernel_rfl
   case hS => exact hS0
   case hy =>
    intro w' hSw
    simp only [xg0, xg1, xg2]
    go_simp
    all_goals with_reducible rfl
   simp only [xg0, xg1, xg2, Act.put, xs0, xs1, xs2]
   apply wpF_take (z := z) 7 [10]
   case hi => exact of_decide_eq_true (by kernel_rfl)
   case hl0 => kernel_rfl
   case hl1 => kernel_rfl
   case hs => kernel_rfl
   case hf0 => kernel_rfl
   case hf1 => kernel_rfl
   case hr0 => kernel_rfl
   case hr1 => kernel_rfl
   case hQ => exact fun _ _ _ h => h
   case hg => kernel_rfl
   case hS => exact hS0
   case hy =>
    intro w' hSw
    simp only [xg0, xg1, xg2]
    go_simp
    all_goals with_reducible rfl
   simp only [xg0, xg1, xg2, Act.put, xs0, xs1, xs2]
   apply wpF_end (f := 8) (fl := fl) (z := z) (J := fun wx => Below L wd wx ∧ OwnB L wx (.slice A7 bs'.length c7) bs' ∧ OwnT L wx A8 ps') (B := fun z wx => CL L z wx)
   case hr0 => kernel_rfl
   case hL => kernel_rfl
   case hJ => exact hJ
   case hB => exact hB
   case hF =>
    refine floats_of (of_decide_eq_true (by kernel_rfl)) (by kernel_rfl) (by kernel_rfl) (fun wx h => HP.out wx h.1) ?_
    clear hJ hB hS0
    intro z wx hJ K hK
    simp only [xg0, xg1, xg2]
    go_simp
    exact hK.out _ _ ⟨hJ.1.trans (show Below L wx _ from (show Below wx.heap.size wx _ by go_grown).mono (by have := hJ.1.size; have := HLd.out; omega)), own_below hJ.2.1 (by go_grown), hJ.2.2.below (by go_grown)⟩ (cl_new (by have := hJ.1.size; have := HLd.out; omega))
   clear hJ hB hS0
   intro z wx hJ hB
   obtain ⟨V, rfl, hV, hVs, v0, v1, v2, vf, hbV⟩ := hB
   obtain ⟨hJ, own5, opt5⟩ := hJ
   have vf0 := vf 0
   have vf1 := vf 1
   have vf2 := vf 2
   obtain ⟨q0, q1, q2⟩ := three_cellsD (a := .int .i64 n') (b := .slice A7 bs'.length c7) (d := .slice A8 ps'.length c8) v0 v1 v2
   have hbV1 := hbV.set 0 (.int .i64 n')
   have hbV2 := hbV1.set 1 (.slice A7 bs'.length c7)
   have hbV3 := hbV2.set 2 (.slice A8 ps'.length c8)
   have hJ9 : Below L wd (((wx.setCell ⟨V, 0, none⟩ (.int .i64 n')).setCell ⟨V, 1, none⟩ (.slice A7 bs'.length c7)).setCell ⟨V, 2, none⟩ (.slice A8 ps'.length c8)) := ((hJ.setCell (p := ⟨V, 0, none⟩) hV _).setCell (p := ⟨V, 1, none⟩) hV _).setCell (p := ⟨V, 2, none⟩) hV _
   have own9 := ((own5.setBox hbV 0 (.int .i64 n')).setBox hbV1 1 (.slice A7 bs'.length c7)).setBox hbV2 2 (.slice A8 ps'.length c8)
   have opt9 := ((opt5.setBox hbV 0 (.int .i64 n')).setBox hbV1 1 (.slice A7 bs'.length c7)).setBox hbV2 2 (.slice A8 ps'.length c8)
   refine wpE_step' 9 (of_decide_eq_true (by kernel_rfl)) (by kernel_rfl) (by kernel_rfl) (fun K hK => ?_)
   simp only [xg0, xg1, xg2]
   go_simp
   refine hK.out _ _ (.inr (HP.out _ hJ9)) ?_
   clear hK K v0 v1 v2 vf vf0 vf1 vf2 hJ own5 opt5 hbV hbV1 hbV2 hVs
   simp only [Act.put, xs0, xs1, xs2]
   generalize ((wx.setCell ⟨V, 0, none⟩ (.int .i64 n')).setCell ⟨V, 1, none⟩ (.slice A7 bs'.length c7)).setCell ⟨V, 2, none⟩ (.slice A8 ps'.length c8) = w9 at q0 q1 q2 hJ9 own9 opt9 hbV3 ⊢
   refine wpE_step' 10 (of_decide_eq_true (by kernel_rfl)) (by kernel_rfl) (by kernel_rfl) (fun K hK => ?_)
   simp only [xg0, xg1, xg2]
   go_simp
   refine hK.out _ _ (.inl rfl) ?_
   clear hK K
   simp only [Act.put, xs0, xs1, xs2]
   refine wpE_done (by kernel_rfl) ?_ _
   have hBX : BXd w9 V 37 (.int .i64 n') (.slice A7 bs'.length c7) (.slice A8 ps'.length c8) := ⟨q0, q1, q2, hbV3⟩
   have hE9 := HE.out _ hJ9
   clear q0 q1 q2 hbV3 HP HE
   obtain ⟨g6, hr6⟩ := own9.readsA
   obtain ⟨g7, o7, hr7⟩ := opt9.reads
   have hU : ER w9 w9.heap.size V n' A7 g6 0 c7 bs' A8 g7 o7 c8 ps' := ⟨Nat.le_refl _, hBX, hr6, hr7⟩
   clear hr6 hr7 own9 opt9 hBX hJ9 hV HLd hwL
   have d0 := hE9.d.c0
   have d1 := hE9.d.c1
   have d2 := hE9.d.c2
   go_upto_region 10 with (go_at_call 10; refine (toDesk_q n bs ps A A2 b o c b2 o2 c2 _ _ hb1 hp1 Hp2.out hE9.bel.size hE9.rd hE9.rp).mono ?_; rintro e w2 ⟨Ax, cx, Ay, cy, rfl, hT, hb2⟩)
   have hal : Below w2.heap.size w2 (w2.alloc (.cells #[.int .i64 n, .slice Ax bs.length cx, .slice Ay ps.length cy] 37)) := by go_grown
   have hE := (hE9.below hb2).below hal
   replace hU := (hU.below hb2).below hal
   replace hT := hT.below hal
   have hX8 : BXd (w2.alloc (.cells #[.int .i64 n, .slice Ax bs.length cx, .slice Ay ps.length cy] 37)) w2.heap.size 37 (.int .i64 n) (.slice Ax bs.length cx) (.slice Ay ps.length cy) := bxd_new
   have hwB := hE9.bel.size
   have hBX8 := hb2.size
   clear d0 d1 d2 hE9 hb2 hal
   generalize w2.alloc (.cells #[.int .i64 n, .slice Ax bs.length cx, .slice Ay ps.length cy] 37) = W at hE hU hT hX8 ⊢
   generalize w9.heap.size = B6 at hU hT hwB hBX8 ⊢
   generalize w2.heap.size = X8 at hT hX8 hBX8 ⊢
   have hdr : Below W.heap.size W W.drew := by go_grown
   replace hE := hE.below hdr
   replace hU := hU.below hdr
   replace hT := hT.below hdr
   replace hX8 := hX8.below hdr
   clear hdr
   refine wp_regionE (fun w' => ((w'.cell? ⟨X8, 0, none⟩ = some (.int .i64 n) ∧ w'.cell? ⟨X8, 1, none⟩ = some (.slice Ax bs.length cx) ∧ w'.cell? ⟨X8, 2, none⟩ = some (.slice Ay ps.length cy)) ∧ w'.cell? ⟨w.heap.size + 1, 0, none⟩ = some (.int .i64 k) ∧ w'.cell? ⟨w.heap.size + 1, 1, none⟩ = some (.int .i64 a1) ∧ w'.cell? ⟨w.heap.size + 1, 2, none⟩ = some (.int .i64 a2) ∧ w'.cell? ⟨w.heap.size + 1, 3, none⟩ = some (.int .i64 a3) ∧ w'.cell? ⟨w.heap.size + 1, 4, none⟩ = some (.string (byts ls)))) 9 (by kernel_rfl) ?_
   change wpE _ _ _ _ _ _ 10 #[false, false, false, false, false, false, false, false, false, false] _ _
   generalize W.drew = wd at hE hU hT hX8 ⊢
   obtain ⟨L, hLd⟩ : ∃ L, wd.heap.size = L := ⟨_, rfl⟩
   have HLd := hide hLd
   have hJ : Below L wd wd := Below.refl _ _
   have hXL : X8 < L := by rw [← hLd]; exact boxT_lt hX8.bx
   have hE' := fun (wx : World) (h : Below wd.heap.size wd wx) => hE.below h
   have hU' := fun (wx : World) (h : Below wd.heap.size wd wx) => hU.below h
   have hT' := fun (wx : World) (h : Below wd.heap.size wd wx) => hT.below h
   have hX' := fun (wx : World) (h : Below wd.heap.size wd wx) => hX8.below h
   rw [hLd] at hE' hU' hT' hX'
   have HE := hide hE'
   have HU := hide hU'
   have HT := hide hT'
   have HX := hide hX'
   clear hLd hE' hU' hT' hX' hE hU hT hX8
   have HP : Hid (∀ wx, Below L wd wx → ((wx.cell? ⟨X8, 0, none⟩ = some (.int .i64 n) ∧ wx.cell? ⟨X8, 1, none⟩ = some (.slice Ax bs.length cx) ∧ wx.cell? ⟨X8, 2, none⟩ = some (.slice Ay ps.length cy)) ∧ wx.cell? ⟨w.heap.size + 1, 0, none⟩ = some (.int .i64 k) ∧ wx.cell? ⟨w.heap.size + 1, 1, none⟩ = some (.int .i64 a1) ∧ wx.cell? ⟨w.heap.size + 1, 2, none⟩ = some (.int .i64 a2) ∧ wx.cell? ⟨w.heap.size + 1, 3, none⟩ = some (.int .i64 a3) ∧ wx.cell? ⟨w.heap.size + 1, 4, none⟩ = some (.string (byts ls)))) := fun wx h => by have h1 := HE.out wx h; have h2 := HX.out wx h; exact ⟨⟨h2.c0, h2.c1, h2.c2⟩, h1.e.c0, h1.e.c1, h1.e.c2, h1.e.c3, h1.e.c4⟩
   have hS0 := HP.out _ hJ
   refine wpE_tk (v := ?_) 0 [3, 8, 9] (hy := ?_) (hS := hS0) (h := ?_)
   rotate_left
   ·intro w' hSw
    simp only [xg0, xg1, xg2]
    go_simp
    all_goals with_reducible rfl
   simp only [xg0, xg1, xg2, Act.put, xs0, xs1, xs2]
   refine wpE_tk (v := ?_) 1 [2, 3, 8, 9] (hy := ?_) (hS := hS0) (h := ?_)
   rotate_left
   ·intro w' hSw
    simp only [xg0, xg1, xg2]
    go_simp
    all_goals with_reducible rfl
   simp only [xg0, xg1, xg2, Act.put, xs0, xs1, xs2]
   refine wpF_start 7 9 (fun wx => Below L wd wx) (fun z wx => CL L z wx) (of_decide_eq_true (by kernel_rfl)) rfl hJ (fun fl z hB => ?_)
   simp only [Act.put, xs0, xs1, xs2]
   apply wpF_step (f := 7) (fl := fl) (z := z) (J := fun wx => Below L wd wx) (B := fun z wx => CL L z wx) 2
   case hi => exact of_decide_eq_true (by kernel_rfl)
   case hg => kernel_rfl
   case hr0 => kernel_rfl
   case hr1 => kernel_rfl
   case hL => kernel_rfl
   case hJ => exact hJ
   case hB => exact hB
   case hF =>
    refine floats_of (of_decide_eq_true (by kernel_rfl)) (by kernel_rfl) (by kernel_rfl) HP.out ?_
    (try clear hS0)
    clear hJ hB
    intro z wx hJ K hK
    simp only [xg0, xg1, xg2]
    go_simp
    exact hK.out _ _ (hJ.trans (show Below L wx _ from (show Below wx.heap.size wx _ by go_grown).mono (by have := hJ.size; have := HLd.out; omega))) (cl_new (by have := hJ.size; have := HLd.out; omega))
   (try clear hS0)
   clear hJ hB
   intro fl z wx hJ hB K hK
   simp only [xg0, xg1, xg2]
   go_simp
   go_at_call 11
   refine (toDeed_c k a1 a2 a3 (byts ls) _).mono ?_
   rintro e w5 ⟨rfl, hb5⟩
   have hsz := hJ.size
   rw [HLd.out] at hsz
   replace hB := fun h => (hB h).below hb5
   replace hJ : Below L wd w5 := hJ.trans (hb5.mono hsz)
   refine hK.out _ _ (.inr (HP.out _ hJ)) ?_
   clear hK K hb5 hsz
   simp only [Act.put, xs0, xs1, xs2]
   apply wpF_step (f := 7) (fl := fl) (z := z) (J := fun wx => Below L wd wx) (B := fun z wx => CL L z wx) 3
   case hi => exact of_decide_eq_true (by kernel_rfl)
   case hg => kernel_rfl
   case hr0 => kernel_rfl
   case hr1 => kernel_rfl
   case hL => kernel_rfl
   case hJ => exact hJ
   case hB => exact hB
   case hF =>
    refine floats_of (of_decide_eq_true (by kernel_rfl)) (by kernel_rfl) (by kernel_rfl) HP.out ?_
    (try clear hS0)
    clear hJ hB
    intro z wx hJ K hK
    simp only [xg0, xg1, xg2]
    go_simp
    exact hK.out _ _ (hJ.trans (show Below L wx _ from (show Below wx.heap.size wx _ by go_grown).mono (by have := hJ.size; have := HLd.out; omega))) (cl_new (by have := hJ.size; have := HLd.out; omega))
   (try clear hS0)
   clear hJ hB
   intro fl z wx hJ hB K hK
   simp only [xg0, xg1, xg2]
   go_simp
   go_at_call 12
   obtain ⟨g1, hr1⟩ := (HT.out _ hJ).own.readsA
   obtain ⟨g2, hr2⟩ := (HT.out _ hJ).ops.reads
   refine (Himpl.out _ (hv.below (HE.out _ hJ).bel) Ax Ay g1 cx g2 cy hr1 hr2).mono ?_
   clear hr1 hr2
   rintro e w6 ⟨v, rfl, ⟨A7, c7, A8, c8, rfl, own5, opt5, M5, dif5⟩, hb6⟩
   try dsimp only at own5 opt5 dif5
   have hsz := hJ.size
   rw [HLd.out] at hsz
   replace hB := fun h => (hB h).below hb6
   have hJ' : Below L wd w6 ∧ OwnB L w6 (.slice A7 bs'.length c7) bs' ∧ OD L M5 w6 (.slice A7 bs'.length c7) A8 c8 ps' := ⟨hJ.trans (hb6.mono hsz), own_less own5 hsz, opt5.less hsz, dif5.less hsz⟩
   refine hK.out _ _ (.inr (HP.out _ hJ'.1)) ?_
   clear hK K hb6 hsz hJ own5 opt5 dif5
   have hJ := hJ'
   clear hJ'
   simp only [Act.put, xs0, xs1, xs2]
   have hS0 := HP.out _ hJ.1
   apply wpF_take (z := z) 4 [6, 9]
   case hi => exact of_decide_eq_true (by kernel_rfl)
   case hl0 => kernel_rfl
   case hl1 => kernel_rfl
   case hs => kernel_rfl
   case hf0 => kernel_rfl
   case hf1 => kernel_rfl
   case hr0 => kernel_rfl
   case hr1 => kernel_rfl
   case hQ => exact fun _ _ _ h => h
   case hg => kernel_rfl
   case hS => exact hS0
   case hy =>
    intro w' hSw
    simp only [xg0, xg1, xg2]
    go_simp
    all_goals with_reducible rfl
   simp only [xg0, xg1, xg2, Act.put, xs0, xs1, xs2]
   apply wpF_take (z := z) 5 [8, 9]
   case hi => exact of_decide_eq_true (by kernel_rfl)
   case hl0 => kernel_rfl
   case hl1 => kernel_rfl
   case hs => kernel_rfl
   case hf0 => kernel_rfl
   case hf1 => kernel_rfl
   case hr0 => kernel_rfl
   case hr1 => kernel_rfl
   case hQ => exact fun _ _ _ h => h
   case hg => kernel_rfl
   case hS => exact hS0
   case hy =>
    intro w' hSw
    simp only [xg0, xg1, xg2]
    go_simp
    all_goals with_reducible rfl
   simp only [xg0, xg1, xg2, Act.put, xs0, xs1, xs2]
   apply wpF_take (z := z) 6 [9]
   case hi => exact of_decide_eq_true (by kernel_rfl)
   case hl0 => kernel_rfl
   case hl1 => kernel_rfl
   case hs => kernel_rfl
   case hf0 => kernel_rfl
   case hf1 => kernel_rfl
   case hr0 => kernel_rfl
   case hr1 => kernel_rfl
   case hQ => exact fun _ _ _ h => h
   case hg => kernel_rfl
   case hS => exact hS0
   case hy =>
    intro w' hSw
    simp only [xg0, xg1, xg2]
    go_simp
    all_goals with_reducible rfl
   simp only [xg0, xg1, xg2, Act.put, xs0, xs1, xs2]
   apply wpF_end (f := 7) (fl := fl) (z := z) (J := fun wx => Below L wd wx ∧ OwnB L wx (.slice A7 bs'.length c7) bs' ∧ OD L M5 wx (.slice A7 bs'.length c7) A8 c8 ps') (B := fun z wx => CL L z wx)
   case hr0 => kernel_rfl
   case hL => kernel_rfl
   case hJ => exact hJ
   case hB => exact hB
   case hF =>
    refine floats_of (of_decide_eq_true (by kernel_rfl)) (by kernel_rfl) (by kernel_rfl) (fun wx h => HP.out wx h.1) ?_
    clear hJ hB hS0
    intro z wx hJ K hK
    simp only [xg0, xg1, xg2]
    go_simp
    exact hK.out _ _ ⟨hJ.1.trans (show Below L wx _ from (show Below wx.heap.size wx _ by go_grown).mono (by have := hJ.1.size; have := HLd.out; omega)), own_below hJ.2.1 (by go_grown), hJ.2.2.below (by go_grown)⟩ (cl_new (by have := hJ.1.size; have := HLd.out; omega))
   clear hJ hB hS0
   intro z wx hJ hB
   obtain ⟨V, rfl, hV, hVs, v0, v1, v2, vf, hbV⟩ := hB
   obtain ⟨hJ, own5, opt5⟩ := hJ
   have vf0 := vf 0
   have vf1 := vf 1
   have vf2 := vf 2
   obtain ⟨q0, q1, q2⟩ := three_cellsD (a := .int .i64 n') (b := .slice A7 bs'.length c7) (d := .slice A8 ps'.length c8) v0 v1 v2
   have hbV1 := hbV.set 0 (.int .i64 n')
   have hbV2 := hbV1.set 1 (.slice A7 bs'.length c7)
   have hbV3 := hbV2.set 2 (.slice A8 ps'.length c8)
   have hJ9 : Below L wd (((wx.setCell ⟨V, 0, none⟩ (.int .i64 n')).setCell ⟨V, 1, none⟩ (.slice A7 bs'.length c7)).setCell ⟨V, 2, none⟩ (.slice A8 ps'.length c8)) := ((hJ.setCell (p := ⟨V, 0, none⟩) hV _).setCell (p := ⟨V, 1, none⟩) hV _).setCell (p := ⟨V, 2, none⟩) hV _
   have own9 := ((own5.setBox hbV 0 (.int .i64 n')).setBox hbV1 1 (.slice A7 bs'.length c7)).setBox hbV2 2 (.slice A8 ps'.length c8)
   have opt9 := ((opt5.setBox hbV 0 (.int .i64 n')).setBox hbV1 1 (.slice A7 bs'.length c7)).setBox hbV2 2 (.slice A8 ps'.length c8)
   refine wpE_step' 8 (of_decide_eq_true (by kernel_rfl)) (by kernel_rfl) (by kernel_rfl) (fun K hK => ?_)
   simp only [xg0, xg1, xg2]
   go_simp
   refine hK.out _ _ (.inr (HP.out _ hJ9)) ?_
   clear hK K v0 v1 v2 vf vf0 vf1 vf2 hJ own5 opt5 hbV hbV1 hbV2 hVs
   simp only [Act.put, xs0, xs1, xs2]
   generalize ((wx.setCell ⟨V, 0, none⟩ (.int .i64 n')).setCell ⟨V, 1, none⟩ (.slice A7 bs'.length c7)).setCell ⟨V, 2, none⟩ (.slice A8 ps'.length c8) = w9 at q0 q1 q2 hJ9 own9 opt9 hbV3 ⊢
   refine wpE_step' 9 (of_decide_eq_true (by kernel_rfl)) (by kernel_rfl) (by kernel_rfl) (fun K hK => ?_)
   simp only [xg0, xg1, xg2]
   go_simp
   refine hK.out _ _ (.inl rfl) ?_
   clear hK K
   simp only [Act.put, xs0, xs1, xs2]
   refine wpE_done (by kernel_rfl) ?_ _
   have hBX : BXd w9 V 37 (.int .i64 n') (.slice A7 bs'.length c7) (.slice A8 ps'.length c8) := ⟨q0, q1, q2, hbV3⟩
   have hE9 := HE.out _ hJ9
   clear q0 q1 q2 hbV3 HP HE
   have hU := HU.out _ hJ9
   have hT := HT.out _ hJ9
   have hX8 := HX.out _ hJ9
   have hG := tk_of own9 opt9.ops opt9.dif
   have hE := hE9
   clear HU HT HX hJ9 own9 opt9 HLd hE9
   have g0 := hBX.c0
   have g1 := hBX.c1
   have g2 := hBX.c2
   have u0 := hU.d.c0
   have u1 := hU.d.c1
   have u2 := hU.d.c2
   have hu1 := hU.rd.more hU.hB
   have hu2 := hU.rp.more hU.hB
   obtain ⟨gg, hrg⟩ := hG.own.readsA
   obtain ⟨gg2, hrg2⟩ := hG.ops.reads
   go_upto_region 13 with (go_at_call 13; refine (eqDesk_yes n' bs' ps' _ _ _ _ _ _ _ _ _ _ _ _ _ _ _ _ _ _ hb'1 hp'1 Hp'2.out (Nat.le_refl _) hrg hu1 hrg2 hu2).mono ?_; rintro e w10 ⟨rfl, hb10⟩)
   replace hb10 := bthen hb10 (show Below w10.heap.size w10 w10.drew by go_grown)
   replace hE := hE.below hb10
   replace hU := hU.below hb10
   replace hT := hT.below hb10
   replace hX8 := hX8.below hb10
   replace hG := hG.below hb10
   replace hBX := hBX.below hb10
   clear g0 g1 g2 u0 u1 u2 hu1 hu2 hrg hrg2 hb10
   refine wp_regionE (fun w' => ((w'.cell? ⟨X8, 0, none⟩ = some (.int .i64 n) ∧ w'.cell? ⟨X8, 1, none⟩ = some (.slice Ax bs.length cx) ∧ w'.cell? ⟨X8, 2, none⟩ = some (.slice Ay ps.length cy)) ∧ w'.cell? ⟨w.heap.size, 0, none⟩ = some (.int .i64 n) ∧ w'.cell? ⟨w.heap.size, 1, none⟩ = some (.slice A bs.length c) ∧ w'.cell? ⟨w.heap.size, 2, none⟩ = some (.slice A2 ps.length c2))) 4 (by kernel_rfl) ?_
   change wpE _ _ _ _ _ _ 5 #[false, false, false, false, false] _ _
   generalize w10.drew = wd at hE hU hT hX8 hG hBX ⊢
   have hS0 : ((wd.cell? ⟨X8, 0, none⟩ = some (.int .i64 n) ∧ wd.cell? ⟨X8, 1, none⟩ = some (.slice Ax bs.length cx) ∧ wd.cell? ⟨X8, 2, none⟩ = some (.slice Ay ps.length cy)) ∧ wd.cell? ⟨w.heap.size, 0, none⟩ = some (.int .i64 n) ∧ wd.cell? ⟨w.heap.size, 1, none⟩ = some (.slice A bs.length c) ∧ wd.cell? ⟨w.heap.size, 2, none⟩ = some (.slice A2 ps.length c2)) := ⟨⟨hX8.c0, hX8.c1, hX8.c2⟩, hE.d.c0, hE.d.c1, hE.d.c2⟩
   refine wpE_tk (v := ?_) 0 [3, 4] (hy := ?_) (hS := hS0) (h := ?_)
   rotate_left
   ·intro w' hSw
    simp only [xg0, xg1, xg2]
    go_simp
    all_goals with_reducible rfl
   simp only [xg0, xg1, xg2, Act.put, xs0, xs1, xs2]
   refine wpE_tk (v := ?_) 1 [2, 3, 4] (hy := ?_) (hS := hS0) (h := ?_)
   rotate_left
   ·intro w' hSw
    simp only [xg0, xg1, xg2]
    go_simp
    all_goals with_reducible rfl
   simp only [xg0, xg1, xg2, Act.put, xs0, xs1, xs2]
   refine wpE_step' 2 (of_decide_eq_true (by kernel_rfl)) (by kernel_rfl) (by kernel_rfl) (fun K hK => ?_)
   simp only [xg0, xg1, xg2]
   go_simp
   go_at_call 10
   refine (toDesk_q n bs ps A A2 b o c b2 o2 c2 _ _ hb1 hp1 Hp2.out hE.bel.size hE.rd hE.rp).mono ?_
   rintro e w11 ⟨A1, c1, A3, c3, rfl, hT2, hb11⟩
   replace hE := hE.below hb11
   replace hU := hU.below hb11
   replace hT := hT.below hb11
   replace hX8 := hX8.below hb11
   replace hG := hG.below hb11
   replace hBX := hBX.below hb11
   refine hK.out _ _ (.inr ⟨⟨hX8.c0, hX8.c1, hX8.c2⟩, hE.d.c0, hE.d.c1, hE.d.c2⟩) ?_
   clear hK K hS0 hb11
   simp only [Act.put, xs0, xs1, xs2]
   refine wpE_step' 3 (of_decide_eq_true (by kernel_rfl)) (by kernel_rfl) (by kernel_rfl) (fun K hK => ?_)
   simp only [xg0, xg1, xg2]
   go_simp
   obtain ⟨gg, hrg⟩ := hT.own.readsA
   obtain ⟨gg2, hrg2⟩ := hT.ops.reads
   obtain ⟨hh, hrh⟩ := hT2.own.readsA
   obtain ⟨hh2, hrh2⟩ := hT2.ops.reads
   go_at_call 13
   refine (eqDesk_yes n bs ps _ _ _ _ _ _ _ _ _ _ _ _ _ _ _ _ _ _ hb1 hp1 Hp2.out (Nat.le_refl _) hrg hrh hrg2 hrh2).mono ?_
   rintro e w12 ⟨rfl, hb12⟩
   replace hE := hE.below hb12
   replace hU := hU.below hb12
   replace hT := hT.below hb12
   replace hX8 := hX8.below hb12
   replace hG := hG.below hb12
   replace hBX := hBX.below hb12
   refine hK.out _ _ (.inr ⟨⟨hX8.c0, hX8.c1, hX8.c2⟩, hE.d.c0, hE.d.c1, hE.d.c2⟩) ?_
   clear hK K hb12 hrg hrg2 hrh hrh2 hT2
   simp only [Act.put, xs0, xs1, xs2]
   refine wpE_step' 4 (of_decide_eq_true (by kernel_rfl)) (by kernel_rfl) (by kernel_rfl) (fun K hK => ?_)
   simp only [xg0, xg1, xg2]
   go_simp
   refine hK.out _ _ (.inl rfl) ?_
   clear hK K
   simp only [Act.put, xs0, xs1, xs2]
   refine wpE_done (by kernel_rfl) ?_ _
   have x0 := hX8.c0
   have x1 := hX8.c1
   have x2 := hX8.c2
   have hc0 := cntP_le ps ps.length hp1 hs1
   rw [List.take_length] at hc0
   have hkn : ¬ 1 + 3 * (bs.length : Int) + cntP ps < 0 := by omega
   have hc'0 := cntP_le ps' ps'.length hp'1 hs'1
   rw [List.take_length] at hc'0
   have hkn' : ¬ 1 + 3 * (bs'.length : Int) + cntP ps' < 0 := by omega
   clear hc0 hc'0
   have hBw : B6 ≤ w12.heap.size := hU.hB
   go_upto_region 17 with (go_at_call 14; refine (markDesk_q n 1 B6 X8 X8 Ax Ay cx cy bs ps _ ⟨by omega, by omega⟩ hb1 hp1 hs1 hT.own hT.ops hT.dif (Nat.le_refl _) hT.hp hT.hb hBw).mono ?_; rintro e w13 ⟨rfl, hg13, -⟩)
   replace hE := hE.gi hg13 hwB
   replace hU := hU.gi hg13 (Nat.le_refl _)
   replace hG := hG.gi hg13 (Nat.le_of_lt hXL)
   replace hBX := hBX.gi (by decide) (by decide) (by decide) hg13
   clear hT hX8 x0 x1 x2 hg13 hBw
   have g0 := hBX.c0
   have g1 := hBX.c1
   have g2 := hBX.c2
   have u0 := hU.d.c0
   have u1 := hU.d.c1
   have u2 := hU.d.c2
   have hu1 := hU.rd.more hU.hB
   have hu2 := hU.rp.more hU.hB
   obtain ⟨gg, hrg⟩ := hG.own.readsA
   obtain ⟨gg2, hrg2⟩ := hG.ops.reads
   go_upto_region 19 with (go_at_call 13; refine (eqDesk_yes n' bs' ps' _ _ _ _ _ _ _ _ _ _ _ _ _ _ _ _ _ _ hb'1 hp'1 Hp'2.out (Nat.le_refl _) hrg hu1 hrg2 hu2).mono ?_; rintro e w14 ⟨rfl, hb14⟩)
   replace hE := hE.below hb14
   replace hU := hU.below hb14
   replace hG := hG.below hb14
   replace hBX := hBX.below hb14
   clear g0 g1 g2 u0 u1 u2 hu1 hu2 hrg hrg2 hb14
   have g0 := hBX.c0
   have g1 := hBX.c1
   have g2 := hBX.c2
   have hLw : L ≤ w14.heap.size := by have := boxT_lt hBX.bx; omega
   go_upto_region 21 with (go_at_call 14; refine (markDesk_q n' 1 L _ _ A7 A8 c7 c8 bs' ps' _ ⟨by omega, by omega⟩ hb'1 hp'1 hs'1 hG.own hG.ops hG.dif (Nat.le_refl _) hG.hp hG.hb hLw).mono ?_; rintro e w15 ⟨rfl, hg15, own15, qs, hqs, ops15⟩)
   replace hE := hE.gi hg15 (by omega)
   replace hU := hU.gi hg15 (by omega)
   replace hBX := hBX.gi (by decide) (by decide) (by decide) hg15
   clear hG g0 g1 g2 hg15 hLw
   have g0 := hBX.c0
   have g1 := hBX.c1
   have g2 := hBX.c2
   obtain ⟨gm, hrm⟩ : ∃ g, BdsR w15 w15.heap.size g 0 A7 (marks 1 bs'.length) := OwnB.readsA (c := c7) (by rw [marks_length]; exact own15)
   obtain ⟨gq, hrq⟩ : ∃ g, PlsR w15 w15.heap.size g 0 A8 qs := OwnPs.reads (c := c8) (by rw [hqs.1]; exact ops15)
   have Hqs := hide hqs
   clear hqs
   go_upto_region 27 with (go_at_call 15; refine (heldDesk_c n' 1 A7 A8 gm 0 c7 gq 0 c8 bs'.length ps' qs _ ⟨by omega, by omega⟩ hb'1 hp'1 hs'1 Hqs.out hrm hrq).mono ?_; rintro e W ⟨rfl, hb16⟩)
   replace hb16 := bthen hb16 (show Below W.heap.size W W.drew by go_grown)
   replace hE := hE.below hb16
   replace hU := hU.below hb16
   replace hBX := hBX.below hb16
   replace own15 := own_below own15 hb16
   replace ops15 := ops15.below hb16
   clear g0 g1 g2 hrm hrq hb16
   have hB9 := hBX
   clear hBX
   refine wp_regionE (fun w' => ((w'.cell? ⟨w.heap.size, 0, none⟩ = some (.int .i64 n) ∧ w'.cell? ⟨w.heap.size, 1, none⟩ = some (.slice A bs.length c) ∧ w'.cell? ⟨w.heap.size, 2, none⟩ = some (.slice A2 ps.length c2)) ∧ w'.cell? ⟨w.heap.size + 1, 0, none⟩ = some (.int .i64 k) ∧ w'.cell? ⟨w.heap.size + 1, 1, none⟩ = some (.int .i64 a1) ∧ w'.cell? ⟨w.heap.size + 1, 2, none⟩ = some (.int .i64 a2) ∧ w'.cell? ⟨w.heap.size + 1, 3, none⟩ = some (.int .i64 a3) ∧ w'.cell? ⟨w.heap.size + 1, 4, none⟩ = some (.string (byts ls)))) 10 (by kernel_rfl) ?_
   change wpE _ _ _ _ _ _ 11 #[false, false, false, false, false, false, false, false, false, false, false] _ _
   generalize W.drew = wd at hE hU hB9 own15 ops15 ⊢
   obtain ⟨L, hLd⟩ : ∃ L, wd.heap.size = L := ⟨_, rfl⟩
   have HLd := hide hLd
   have hJ : Below L wd wd := Below.refl _ _
   have hwL : w.heap.size ≤ L := by rw [← hLd]; exact hE.bel.size
   have hU' := fun (wx : World) (h : Below wd.heap.size wd wx) => hU.below h
   have hB' := fun (wx : World) (h : Below wd.heap.size wd wx) => hB9.below h
   have hM' := fun (wx : World) (h : Below wd.heap.size wd wx) => own_below own15 h
   have hQ' := fun (wx : World) (h : Below wd.heap.size wd wx) => ops15.below h
   rw [hLd] at hU' hB' hM' hQ'
   have HU := hide hU'
   have HB := hide hB'
   have HM := hide hM'
   have HQ := hide hQ'
   clear hU' hB' hM' hQ' hU hB9 own15 ops15
   have HE : Hid (∀ wx, Below L wd wx → EL w wx n A b o c bs A2 b2 o2 c2 ps k a1 a2 a3 (byts ls)) := by rw [← hLd]; exact fun wx h => hE.below h
   clear hLd
   have HP : Hid (∀ wx, Below L wd wx → ((wx.cell? ⟨w.heap.size, 0, none⟩ = some (.int .i64 n) ∧ wx.cell? ⟨w.heap.size, 1, none⟩ = some (.slice A bs.length c) ∧ wx.cell? ⟨w.heap.size, 2, none⟩ = some (.slice A2 ps.length c2)) ∧ wx.cell? ⟨w.heap.size + 1, 0, none⟩ = some (.int .i64 k) ∧ wx.cell? ⟨w.heap.size + 1, 1, none⟩ = some (.int .i64 a1) ∧ wx.cell? ⟨w.heap.size + 1, 2, none⟩ = some (.int .i64 a2) ∧ wx.cell? ⟨w.heap.size + 1, 3, none⟩ = some (.int .i64 a3) ∧ wx.cell? ⟨w.heap.size + 1, 4, none⟩ = some (.string (byts ls)))) := fun wx h => by have h := HE.out wx h; exact ⟨⟨h.d.c0, h.d.c1, h.d.c2⟩, h.e.c0, h.e.c1, h.e.c2, h.e.c3, h.e.c4⟩
   have hS0 := HP.out _ hJ
   refine wpE_tk (v := ?_) 0 [1, 4, 9, 10] (hy := ?_) (hS := hS0) (h := ?_)
   rotate_left
   ·intro w' hSw
    simp only [xg0, xg1, xg2]
    go_simp
    all_goals with_reducible rfl
   simp only [xg0, xg1, xg2, Act.put, xs0, xs1, xs2]
   refine wpE_tk (v := ?_) 2 [3, 4, 9, 10] (hy := ?_) (hS := hS0) (h := ?_)
   rotate_left
   ·intro w' hSw
    simp only [xg0, xg1, xg2]
    go_simp
    all_goals with_reducible rfl
   simp only [xg0, xg1, xg2, Act.put, xs0, xs1, xs2]
   refine wpF_start 8 14 (fun wx => Below L wd wx) (fun z wx => CL L z wx) (of_decide_eq_true (by kernel_rfl)) rfl hJ (fun fl z hB => ?_)
   simp only [Act.put, xs0, xs1, xs2]
   apply wpF_step (f := 8) (fl := fl) (z := z) (J := fun wx => Below L wd wx) (B := fun z wx => CL L z wx) 1
   case hi => exact of_decide_eq_true (by kernel_rfl)
   case hg => kernel_rfl
   case hr0 => kernel_rfl
   case hr1 => kernel_rfl
   case hL => kernel_rfl
   case hJ => exact hJ
   case hB => exact hB
   case hF =>
    refine floats_of (of_decide_eq_true (by kernel_rfl)) (by kernel_rfl) (by kernel_rfl) HP.out ?_
    (try clear hS0)
    clear hJ hB
    intro z wx hJ K hK
    simp only [xg0, xg1, xg2]
    go_simp
    exact hK.out _ _ (hJ.trans (show Below L wx _ from (show Below wx.heap.size wx _ by go_grown).mono (by have := hJ.size; have := HLd.out; omega))) (cl_new (by have := hJ.size; have := HLd.out; omega))
   (try clear hS0)
   clear hJ hB
   intro fl z wx hJ hB K hK
   simp only [xg0, xg1, xg2]
   go_simp
   go_at_call 10
   refine (toDesk_q n bs ps A A2 b o c b2 o2 c2 _ _ hb1 hp1 Hp2.out (HE.out _ hJ).bel.size (HE.out _ hJ).rd (HE.out _ hJ).rp).mono ?_
   rintro e w4 ⟨A1, c1, A3, c3, rfl, hT, hb4⟩
   have hsz := hJ.size
   rw [HLd.out] at hsz
   replace hB := fun h => (hB h).below hb4
   replace hJ : Below L wd w4 := hJ.trans (hb4.mono hsz)
   have hJ' : Below L wd w4 ∧ OwnB L w4 (.slice A1 bs.length c1) bs ∧ OwnPs L w4 (.slice A3 ps.length c3) ps := ⟨hJ, own_less hT.own hsz, hT.ops.less hsz⟩
   refine hK.out _ _ (.inr (HP.out _ hJ)) ?_
   clear hK K hb4 hsz hJ hT
   have hJ := hJ'
   clear hJ'
   simp only [Act.put, xs0, xs1, xs2]
   apply wpF_step (f := 8) (fl := fl) (z := z) (J := fun wx => (Below L wd wx ∧ OwnB L wx (.slice A1 bs.length c1) bs ∧ OwnPs L wx (.slice A3 ps.length c3) ps)) (B := fun z wx => CL L z wx) 3
   case hi => exact of_decide_eq_true (by kernel_rfl)
   case hg => kernel_rfl
   case hr0 => kernel_rfl
   case hr1 => kernel_rfl
   case hL => kernel_rfl
   case hJ => exact hJ
   case hB => exact hB
   case hF =>
    refine floats_of (of_decide_eq_true (by kernel_rfl)) (by kernel_rfl) (by kernel_rfl) (fun wx h => HP.out wx h.1) ?_
    (try clear hS0)
    clear hJ hB
    intro z wx hJ K hK
    simp only [xg0, xg1, xg2]
    go_simp
    exact hK.out _ _ ⟨hJ.1.trans (show Below L wx _ from (show Below wx.heap.size wx _ by go_grown).mono (by have := hJ.1.size; have := HLd.out; omega)), own_below hJ.2.1 (by go_grown), hJ.2.2.below (by go_grown)⟩ (cl_new (by have := hJ.1.size; have := HLd.out; omega))
   (try clear hS0)
   clear hJ hB
   intro fl z wx hJ hB K hK
   simp only [xg0, xg1, xg2]
   go_simp
   go_at_call 11
   refine (toDeed_c k a1 a2 a3 (byts ls) _).mono ?_
   rintro e w5 ⟨rfl, hb5⟩
   have hsz := hJ.1.size
   rw [HLd.out] at hsz
   replace hB := fun h => (hB h).below hb5
   replace hJ : Below L wd w5 ∧ OwnB L w5 (.slice A1 bs.length c1) bs ∧ OwnPs L w5 (.slice A3 ps.length c3) ps := ⟨hJ.1.trans (hb5.mono hsz), own_below hJ.2.1 hb5, hJ.2.2.below hb5⟩
   refine hK.out _ _ (.inr (HP.out _ hJ.1)) ?_
   clear hK K hb5 hsz
   simp only [Act.put, xs0, xs1, xs2]
   apply wpF_step (f := 8) (fl := fl) (z := z) (J := fun wx => (Below L wd wx ∧ OwnB L wx (.slice A1 bs.length c1) bs ∧ OwnPs L wx (.slice A3 ps.length c3) ps)) (B := fun z wx => CL L z wx) 4
   case hi => exact of_decide_eq_true (by kernel_rfl)
   case hg => kernel_rfl
   case hr0 => kernel_rfl
   case hr1 => kernel_rfl
   case hL => kernel_rfl
   case hJ => exact hJ
   case hB => exact hB
   case hF =>
    refine floats_of (of_decide_eq_true (by kernel_rfl)) (by kernel_rfl) (by kernel_rfl) (fun wx h => HP.out wx h.1) ?_
    (try clear hS0)
    clear hJ hB
    intro z wx hJ K hK
    simp only [xg0, xg1, xg2]
    go_simp
    exact hK.out _ _ ⟨hJ.1.trans (show Below L wx _ from (show Below wx.heap.size wx _ by go_grown).mono (by have := hJ.1.size; have := HLd.out; omega)), own_below hJ.2.1 (by go_grown), hJ.2.2.below (by go_grown)⟩ (cl_new (by have := hJ.1.size; have := HLd.out; omega))
   (try clear hS0)
   clear hJ hB
   intro fl z wx hJ hB K hK
   simp only [xg0, xg1, xg2]
   go_simp
   go_at_call 12
   obtain ⟨g1, hr1⟩ := OwnB.readsA hJ.2.1
   obtain ⟨g2, hr2⟩ := hJ.2.2.reads
   have hcp := own_cap (show wx.ownsRow _ _ _ _ _ _ from hJ.2.1)
   refine (Himpl.out _ (hv.below (HE.out _ hJ.1).bel) A1 A3 g1 c1 g2 c3 hr1 hr2).mono ?_
   clear hr1 hr2 hcp
   rintro e w6 ⟨v, rfl, ⟨Ah, ch, Aq, cq, rfl, own5, opt5, -⟩, hb6⟩
   have hsz := hJ.1.size
   rw [HLd.out] at hsz
   replace hB := fun h => (hB h).below hb6
   have hJ' : Below L wd w6 ∧ OwnB L w6 (.slice Ah bs'.length ch) bs' ∧ OwnPs L w6 (.slice Aq ps'.length cq) ps' := ⟨hJ.1.trans (hb6.mono hsz), own_less own5 hsz, opt5.less hsz⟩
   refine hK.out _ _ (.inr (HP.out _ hJ'.1)) ?_
   clear hK K hb6 hsz hJ own5 opt5
   have hJ := hJ'
   clear hJ'
   simp only [Act.put, xs0, xs1, xs2]
   have hS0 := HP.out _ hJ.1
   apply wpF_take (z := z) 5 [7, 10]
   case hi => exact of_decide_eq_true (by kernel_rfl)
   case hl0 => kernel_rfl
   case hl1 => kernel_rfl
   case hs => kernel_rfl
   case hf0 => kernel_rfl
   case hf1 => kernel_rfl
   case hr0 => kernel_rfl
   case hr1 => kernel_rfl
   case hQ => exact fun _ _ _ h => h
   case hg => kernel_rfl
   case hS => exact hS0
   case hy =>
    intro w' hSw
    simp only [xg0, xg1, xg2]
    go_simp
    all_goals with_reducible rfl
   simp only [xg0, xg1, xg2, Act.put, xs0, xs1, xs2]
   apply wpF_take (z := z) 6 [9, 10]
   case hi => exact of_decide_eq_true (by kernel_rfl)
   case hl0 => kernel_rfl
   case hl1 => kernel_rfl
   case hs => kernel_rfl
   case hf0 => kernel_rfl
   case hf1 => kernel_rfl
   case hr0 => kernel_rfl
   case hr1 => kernel_rfl
   case hQ => exact fun _ _ _ h => h
   case hg => kernel_rfl
   case hS => exact hS0
   case hy =>
    intro w' hSw
    simp only [xg0, xg1, xg2]
    go_simp
    all_goals with_reducible rfl
   simp only [xg0, xg1, xg2, Act.put, xs0, xs1, xs2]
   apply wpF_take (z := z) 7 [10]
   case hi => exact of_decide_eq_true (by kernel_rfl)
   case hl0 => kernel_rfl
   case hl1 => kernel_rfl
   case hs => kernel_rfl
   case hf0 => kernel_rfl
   case hf1 => kernel_rfl
   case hr0 => kernel_rfl
   case hr1 => kernel_rfl
   case hQ => exact fun _ _ _ h => h
   case hg => kernel_rfl
   case hS => exact hS0
   case hy =>
    intro w' hSw
    simp only [xg0, xg1, xg2]
    go_simp
    all_goals with_reducible rfl
   simp only [xg0, xg1, xg2, Act.put, xs0, xs1, xs2]
   apply wpF_end (f := 8) (fl := fl) (z := z) (J := fun wx => Below L wd wx ∧ OwnB L wx (.slice Ah bs'.length ch) bs' ∧ OwnPs L wx (.slice Aq ps'.length cq) ps') (B := fun z wx => CL L z wx)
   case hr0 => kernel_rfl
   case hL => kernel_rfl
   case hJ => exact hJ
   case hB => exact hB
   case hF =>
    refine floats_of (of_decide_eq_true (by kernel_rfl)) (by kernel_rfl) (by kernel_rfl) (fun wx h => HP.out wx h.1) ?_
    clear hJ hB hS0
    intro z wx hJ K hK
    simp only [xg0, xg1, xg2]
    go_simp
    exact hK.out _ _ ⟨hJ.1.trans (show Below L wx _ from (show Below wx.heap.size wx _ by go_grown).mono (by have := hJ.1.size; have := HLd.out; omega)), own_below hJ.2.1 (by go_grown), hJ.2.2.below (by go_grown)⟩ (cl_new (by have := hJ.1.size; have := HLd.out; omega))
   clear hJ hB hS0
   intro z wx hJ hB
   obtain ⟨V, rfl, hV, hVs, v0, v1, v2, vf, hbV⟩ := hB
   obtain ⟨hJ, own5, opt5⟩ := hJ
   have vf0 := vf 0
   have vf1 := vf 1
   have vf2 := vf 2
   obtain ⟨q0, q1, q2⟩ := three_cellsD (a := .int .i64 n') (b := .slice Ah bs'.length ch) (d := .slice Aq ps'.length cq) v0 v1 v2
   have hbV1 := hbV.set 0 (.int .i64 n')
   have hbV2 := hbV1.set 1 (.slice Ah bs'.length ch)
   have hbV3 := hbV2.set 2 (.slice Aq ps'.length cq)
   have hJ9 : Below L wd (((wx.setCell ⟨V, 0, none⟩ (.int .i64 n')).setCell ⟨V, 1, none⟩ (.slice Ah bs'.length ch)).setCell ⟨V, 2, none⟩ (.slice Aq ps'.length cq)) := ((hJ.setCell (p := ⟨V, 0, none⟩) hV _).setCell (p := ⟨V, 1, none⟩) hV _).setCell (p := ⟨V, 2, none⟩) hV _
   have own9 := ((own5.setBox hbV 0 (.int .i64 n')).setBox hbV1 1 (.slice Ah bs'.length ch)).setBox hbV2 2 (.slice Aq ps'.length cq)
   have opt9 := ((opt5.setBox hbV 0 (.int .i64 n')).setBox hbV1 1 (.slice Ah bs'.length ch)).setBox hbV2 2 (.slice Aq ps'.length cq)
   refine wpE_step' 9 (of_decide_eq_true (by kernel_rfl)) (by kernel_rfl) (by kernel_rfl) (fun K hK => ?_)
   simp only [xg0, xg1, xg2]
   go_simp
   refine hK.out _ _ (.inr (HP.out _ hJ9)) ?_
   clear hK K v0 v1 v2 vf vf0 vf1 vf2 hJ own5 opt5 hbV hbV1 hbV2 hVs
   simp only [Act.put, xs0, xs1, xs2]
   generalize ((wx.setCell ⟨V, 0, none⟩ (.int .i64 n')).setCell ⟨V, 1, none⟩ (.slice Ah bs'.length ch)).setCell ⟨V, 2, none⟩ (.slice Aq ps'.length cq) = w9 at q0 q1 q2 hJ9 own9 opt9 hbV3 ⊢
   refine wpE_step' 10 (of_decide_eq_true (by kernel_rfl)) (by kernel_rfl) (by kernel_rfl) (fun K hK => ?_)
   simp only [xg0, xg1, xg2]
   go_simp
   refine hK.out _ _ (.inl rfl) ?_
   clear hK K
   simp only [Act.put, xs0, xs1, xs2]
   refine wpE_done (by kernel_rfl) ?_ _
   have hBX : BXd w9 V 37 (.int .i64 n') (.slice Ah bs'.length ch) (.slice Aq ps'.length cq) := ⟨q0, q1, q2, hbV3⟩
   have hE9 := HE.out _ hJ9
   clear q0 q1 q2 hbV3 HP HE
   have hU := HU.out _ hJ9
   have hB9 := HB.out _ hJ9
   have own15 := HM.out _ hJ9
   have ops15 := HQ.out _ hJ9
   clear HU HB HM HQ hJ9 HLd hV hwL
   obtain ⟨gg, hrg⟩ := own9.readsA
   obtain ⟨gg2, hrg2⟩ := opt9.reads
   have g0 := hBX.c0
   have g1 := hBX.c1
   have g2 := hBX.c2
   have u0 := hU.d.c0
   have u1 := hU.d.c1
   have u2 := hU.d.c2
   have hu1 := hU.rd.more hU.hB
   have hu2 := hU.rp.more hU.hB
   go_upto_region 30 with (go_at_call 13; refine (eqDesk_yes n' bs' ps' _ _ _ _ _ _ _ _ _ _ _ _ _ _ _ _ _ _ hb'1 hp'1 Hp'2.out (Nat.le_refl _) hrg hu1 hrg2 hu2).mono ?_; rintro e w20 ⟨rfl, hb20⟩)
   have hbel := bthen hE9.bel hb20
   replace hB9 := hB9.below hb20
   replace own15 := own_below own15 hb20
   replace ops15 := ops15.below hb20
   clear g0 g1 g2 u0 u1 u2 hu1 hu2 hrg hrg2 hb20 hU hBX own9 opt9 hE9
   have g0 := hB9.c0
   have g1 := hB9.c1
   have g2 := hB9.c2
   obtain ⟨gm, hrm⟩ : ∃ g, BdsR w20 w20.heap.size g 0 A7 (marks 1 bs'.length) := OwnB.readsA (c := c7) (by rw [marks_length]; exact own15)
   obtain ⟨gq, hrq⟩ : ∃ g, PlsR w20 w20.heap.size g 0 A8 qs := OwnPs.reads (c := c8) (by rw [Hqs.out.1]; exact ops15)
   go_wp2_with (go_at_call 15; refine (heldDesk_c n' 1 A7 A8 gm 0 c7 gq 0 c8 bs'.length ps' qs _ ⟨by omega, by omega⟩ hb'1 hp'1 hs'1 Hqs.out hrm hrq).mono ?_; rintro e w21 ⟨rfl, hb21⟩)
   go_ret
   exact ⟨rfl, bthen hbel hb21⟩
end Go.Proofs.YtmnajkhoacogjaaGreatDoor
