/-
 What the laws' walks share: the bytes that came in; a plan in a variable of the law's own; alive.
 What the laws' walks share: plans that are the same.
-/
import Derived.Test.YtmnajkhoacogjaaGreatDoorD1
import Derived.Test.YtmnajkhoacogjaaGreatDoorP2
import Derived.Test.YtmnajkhoacogjaaGreatDoorL2
namespace Go.Proofs.YtmnajkhoacogjaaGreatDoor
set_option linter.unusedVariables false
set_option linter.unusedSimpArgs false
open Go.RowKit Pp

/-- A row of bytes that came in. -/
def RowU (w : World) (a : Option Addr) (len cap : Nat) (zs : List Int) : Prop :=
 (a = none ∧ len = 0 ∧ cap = 0 ∧ zs = []) ∨
 ∃ x, a = some x ∧ len ≤ cap ∧ cap ≤ maxLen ∧ zs.length = cap ∧ (∀ i, i < zs.length → w.cell? (x.add i) = some (.int .u8 (zs.getD i 0))) ∧ ∀ n ∈ zs, (Lit.int .u8 n).wf = true

theorem cell_lt {w : World} {a : Addr} {v : Value} (h : w.cell? a = some v) : a.block < w.heap.size := by
 apply Classical.byContradiction
 intro hn
 rw [World.cell?, Array.getElem?_eq_none (Nat.le_of_not_lt hn)] at h
 simp at h
theorem add_block (x : Addr) (i : Nat) : (x.add i).block = x.block := by unfold Addr.add; split <;> rfl

theorem RowU.bytes {w : World} {a : Option Addr} {len cap : Nat} {zs : List Int} (h : RowU w a len cap zs) : len ≤ cap ∧ (len = 0 ∨ a.isSome = true) ∧ BytesAt w w.heap.size a len zs := by
 rcases h with ⟨rfl, rfl, rfl, rfl⟩ | ⟨x, rfl, h1, h2, h3, h4, h5⟩
 ·exact ⟨Nat.le_refl _, .inl rfl, Nat.le_refl _, by simp, fun i hi => by omega⟩
 ·refine ⟨h1, .inr rfl, by omega, fun v hv => ?_, fun i hi => ⟨x, rfl, ?_, h4 i (by omega)⟩⟩
  ·have := h5 v hv
   simp [Lit.wf, IntKind.min, IntKind.max, IntKind.signed, IntKind.bits] at this
   omega
  ·have := cell_lt (h4 i (by omega))
   rwa [add_block] at this

/-- A plan in a variable of the law's own. -/
structure PB (w0 W : World) (X b : Nat) (n : Int) (A : Option Addr) (c : Nat) (bs : List Bd) : Prop where
 bel : Below w0.heap.size w0 W
 lo : w0.heap.size ≤ X
 ex : X < W.heap.size
 c0 : W.cell? ⟨X, 0, none⟩ = some (.int .i64 n)
 c1 : W.cell? ⟨X, 1, none⟩ = some (.slice A bs.length c)
 rd : BdsR W W.heap.size b 0 A bs

theorem PB.below {w0 W W' : World} {X b : Nat} {n : Int} {A : Option Addr} {c : Nat} {bs : List Bd} (h : PB w0 W X b n A c bs) (hb : Below W.heap.size W W') : PB w0 W' X b n A c bs :=
 ⟨bthen h.bel hb, h.lo, Nat.lt_of_lt_of_le h.ex hb.size, ((bcell hb).1 _ _ h.ex).trans h.c0, ((bcell hb).1 _ _ h.ex).trans h.c1, (h.rd.below hb).more hb.size⟩
theorem PB.alloc {w0 W : World} {X b : Nat} {n : Int} {A : Option Addr} {c : Nat} {bs : List Bd} (h : PB w0 W X b n A c bs) (o : Obj) : PB w0 (W.alloc o) X b n A c bs := h.below (by go_grown)
theorem PB.drew {w0 W : World} {X b : Nat} {n : Int} {A : Option Addr} {c : Nat} {bs : List Bd} (h : PB w0 W X b n A c bs) : PB w0 W.drew X b n A c bs := h.below (by go_grown)
theorem pb_new {w0 W : World} {b : Nat} {n : Int} {A : Option Addr} {c : Nat} {bs : List Bd} {t : TypeId} (hW : Below w0.heap.size w0 W) (hrd : BdsR W W.heap.size b 0 A bs) : PB w0 (W.alloc (.cells #[.int .i64 n, .slice A bs.length c] t)) W.heap.size b n A c bs := by
 have hb : Below W.heap.size W (W.alloc (.cells #[.int .i64 n, .slice A bs.length c] t)) := by go_grown
 exact ⟨bthen hW hb, hW.size, by simp, by simp [go_sem], by simp [go_sem], (hrd.below hb).more hb.size⟩

set_option maxRecDepth 100000 in
theorem alive_c (w : World) : Calls Tryz.prog 22 #[] w fun e w' => e = .returned (.bool true) ∧ Below w.heap.size w w' := by
 have k1 : planOk ⟨1, []⟩ = true := by decide
 have k2 : planOk ⟨0, []⟩ = false := by decide
 have K1 := hide k1
 have K2 := hide k2
 clear k1 k2
 go_enter Tryz.func22, Tryz.ntmps22
 go_wp2_with (first
  | (go_at_call 58; go_fit (planOk_c ⟨1, []⟩ none 0 0 0 w.heap.size _ (by simp) (Nat.le_refl _) (BdsR.nil _ _ _)); rintro e w1 ⟨rfl, hb1⟩; rw [K1.out])
  | (go_at_call 58; go_fit (planOk_c ⟨0, []⟩ none 0 0 0 w1.heap.size _ (by simp) (Nat.le_refl _) (BdsR.nil _ _ _)); rintro e w2 ⟨rfl, hb2⟩; rw [K2.out]))
 go_ret
 exact ⟨rfl, bthen hb1 hb2⟩

set_option maxHeartbeats 4000000 in
set_option maxRecDepth 100000 in
theorem samePlan_yes (n : Int) (bs : List Bd) (A A' : Option Addr) (b o c b' o' c' B : Nat) (w : World) (hn : bs.length ≤ 2000000) (hB : B ≤ w.heap.size) (hR : BdsR w B b o A bs) (hR' : BdsR w B b' o' A' bs) :
  Calls Tryz.prog 57 #[.agg #[.int .i64 n, .slice A bs.length c], .agg #[.int .i64 n, .slice A' bs.length c']] w fun e w' => e = .returned (.bool true) ∧ Below w.heap.size w w' := by
 go_enter Tryz.func57, Tryz.ntmps57
 go_wp2_with fail
 have hW0 : Below w.heap.size w ((w.alloc (.cells #[.int .i64 n, .slice A bs.length c] 34)).alloc (.cells #[.int .i64 n, .slice A' bs.length c'] 34)) := by go_grown
 have p0 : ((w.alloc (.cells #[.int .i64 n, .slice A bs.length c] 34)).alloc (.cells #[.int .i64 n, .slice A' bs.length c'] 34)).cell? ⟨w.heap.size, 1, none⟩ = some (.slice A bs.length c) := by simp [go_sem]
 have p1 : ((w.alloc (.cells #[.int .i64 n, .slice A bs.length c] 34)).alloc (.cells #[.int .i64 n, .slice A' bs.length c'] 34)).cell? ⟨w.heap.size + 1, 1, none⟩ = some (.slice A' bs.length c') := by simp [go_sem]
 have hRw := hR.below (hW0.mono hB)
 have hRw' := hR'.below (hW0.mono hB)
 generalize (w.alloc (.cells #[.int .i64 n, .slice A bs.length c] 34)).alloc (.cells #[.int .i64 n, .slice A' bs.length c'] 34) = W at *
 go_loopg [5] bs.length (fun gh i wr => ∃ k : Nat, k ≤ bs.length ∧ gh = bs.length - k ∧ i = .int .i64 k ∧ Below w.heap.size w wr ∧ wr.cell? ⟨w.heap.size, 1, none⟩ = some (.slice A bs.length c) ∧ wr.cell? ⟨w.heap.size + 1, 1, none⟩ = some (.slice A' bs.length c') ∧ BdsR wr B b o A bs ∧ BdsR wr B b' o' A' bs)
 case atStart => exact ⟨0, Nat.zero_le _, rfl, rfl, hW0, p0, p1, hRw, hRw'⟩
 case round =>
  clear hW0 p0 p1 hRw hRw' hR hR'
  obtain ⟨k, hk, rfl, rfl, hW, p0, p1, hR, hR'⟩ := hrel
  by_cases hlt : k < bs.length
  ·have hz : (k : Int) < (bs.length : Int) := by omega
   obtain rfl := hR.addr (by omega)
   obtain rfl := hR'.addr (by omega)
   have hx := List.getElem?_eq_getElem hlt
   have d0 := hR.c0 k _ hx
   have d1 := hR.c1 k _ hx
   have d2 := hR.c2 k _ hx
   have e0 := hR'.c0 k _ hx
   have e1 := hR'.c1 k _ hx
   have e2 := hR'.c2 k _ hx
   generalize bs[k] = x at d0 d1 d2 e0 e1 e2
   clear hx
   go_upto_region 6 with fail
   go_region
   go_wp2_with fail
   go_roundg (bs.length - (k + 1))
   case measure => go_light; omega
   case rel => go_light; exact ⟨k + 1, by omega, rfl, by go_num, hW.drew, p0, p1, hR.below (show Below B wr wr.drew by go_grown), hR'.below (show Below B wr wr.drew by go_grown)⟩
  ·go_wp2_with fail
   go_ret
   exact ⟨rfl, hW⟩
end Go.Proofs.YtmnajkhoacogjaaGreatDoor
