/-
 The draws of the reference: a reader of bytes; a number that is picked.
 The draws of the reference: the reader is made; one in n.
-/
import Derived.Test.YtmnajkhoacogjaaGreatDoorS2
import Derived.Test.YtmnajkhoacogjaaGreatDoorS1
import Derived.Test.YtmnajkhoacogjaaGreatDoorP2
import Derived.Test.YtmnajkhoacogjaaGreatDoorI1
import Derived.Laws.BitsAllLaws
namespace Go.Proofs.YtmnajkhoacogjaaGreatDoor
set_option linter.unusedVariables false
set_option linter.unusedSimpArgs false
open Go.RowKit Pp

theorem i64_xor (a b : Nat) (ha : a < 1099511627776) (hb : b < 1099511627776) : bits .xor .i64 (a : Int) (b : Int) = ((a ^^^ b : Nat) : Int) := by
 have hx : a ^^^ b < 2 ^ 40 := Nat.xor_lt_two_pow (by omega) (by omega)
 show IntKind.i64.wrap ((BitVec.ofInt 64 (a : Int) ^^^ BitVec.ofInt 64 (b : Int)).toNat : Int) = _
 rw [BitVec.toNat_xor, ofInt_u64 a (by omega), ofInt_u64 b (by omega)]
 simp [IntKind.wrap, IntKind.bits, IntKind.signed]
 omega

theorem set_ne {w : World} {a b : Addr} {v : Value} (h : a ≠ b) : (w.setCell a v).cell? b = w.cell? b := World.cell?_setCell_other (h := h) ..
/-- Bytes that can be read at an address. -/
def BytesAt (w : World) (B : Nat) (A : Option Addr) (n : Nat) (zs : List Int) : Prop :=
 n ≤ zs.length ∧ (∀ v ∈ zs, 0 ≤ v ∧ v < 256) ∧ ∀ i, i < n → ∃ x, A = some x ∧ x.block < B ∧ w.cell? (x.add i) = some (.int .u8 (zs.getD i 0))

/-- The reader: a row of bytes and a place. -/
structure RdO (w : World) (g : Nat) (K : Int) : Prop where
 ex : ∃ A n c zs k, w.cell? ⟨g, 0, none⟩ = some (.slice A n c) ∧ w.cell? ⟨g, 1, none⟩ = some (.int .i64 k) ∧ 0 ≤ k ∧ k ≤ K ∧ n ≤ 2000 ∧ BytesAt w g A n zs
 fr : ∀ i, w.frozen? ⟨g, i, none⟩ = false

theorem RdO.drew {w : World} {g : Nat} {K : Int} (h : RdO w g K) : RdO w.drew g K := by
 obtain ⟨⟨A, n, c, zs, k, h0, h1, hk, hkK, hn, hb⟩, hf⟩ := h
 exact ⟨⟨A, n, c, zs, k, by rw [World.cell?_drew]; exact h0, by rw [World.cell?_drew]; exact h1, hk, hkK, hn, hb.1, hb.2.1, fun i hi => by
  obtain ⟨x, hx, hlt, hc⟩ := hb.2.2 i hi
  exact ⟨x, hx, hlt, by rw [World.cell?_drew]; exact hc⟩⟩, fun i => by rw [World.frozen?_drew]; exact hf i⟩

theorem grown_drew {w w' : World} {row : Option Nat} (h : w.grownBy w' row) : w.grownBy w'.drew row := ⟨h.os, h.tape, h.output, h.size, h.block⟩

/-- Behind a store into the reader's place. -/
theorem RdO.step {w : World} {g : Nat} {A : Option Addr} {n c : Nat} {zs : List Int} {k K : Int} (h0 : w.cell? ⟨g, 0, none⟩ = some (.slice A n c)) (h1 : w.cell? ⟨g, 1, none⟩ = some (.int .i64 k)) (hk : 0 ≤ k) (hK : k ≤ K) (hn : n ≤ 2000) (hb : BytesAt w g A n zs) (hf : ∀ i, w.frozen? ⟨g, i, none⟩ = false) :
  RdO (w.setCell ⟨g, 1, none⟩ (.int .i64 (k + 1))) g (K + 1) ∧ w.grownBy (w.setCell ⟨g, 1, none⟩ (.int .i64 (k + 1))) (some g) := by
 refine ⟨⟨⟨A, n, c, zs, k + 1, ?_, ?_, by omega, by omega, hn, hb.1, hb.2.1, fun i hi => ?_⟩, fun i => ?_⟩, grown_set w ⟨g, 1, none⟩ _⟩
 ·rw [set_ne (by simp)]; exact h0
 ·exact World.cell?_setCell_same _ _ _ h1
 ·obtain ⟨x, hx, hlt, hc⟩ := hb.2.2 i hi
  refine ⟨x, hx, hlt, ?_⟩
  rw [set_other (by show g ≠ (x.add i).block
                    have : (x.add i).block = x.block := by unfold Addr.add; split <;> rfl
                    omega)]
  exact hc
 ·rw [← hf i]; simp

set_option maxHeartbeats 1000000 in
set_option maxRecDepth 100000 in
theorem pick_c (g : Nat) (K m : Int) (w : World) (hK : 0 ≤ K ∧ K ≤ 1000000000) (hm : -1000000000 ≤ m ∧ m ≤ 1000000000) (hR : RdO w g K) :
  Calls Tryz.prog 88 #[.pointer (some ⟨g, 0, none⟩), .int .i64 m] w fun e w' =>
   ∃ v : Int, e = .returned (.int .i64 v) ∧ 0 ≤ v ∧ (1 ≤ m → v < m) ∧ (m < 1 → v = 0) ∧ RdO w' g (K + 1) ∧ w.grownBy w' (some g) ∧ w'.heap.size = w.heap.size := by
 obtain ⟨⟨A, n, c, zs, k, h0, h1, hk, hkK, hn, hb⟩, hf⟩ := hR
 obtain ⟨hK0, hK1⟩ := hK
 obtain ⟨hm0, hm1⟩ := hm
 obtain ⟨hR', hG⟩ := RdO.step h0 h1 hk hkK hn hb hf
 have s0 : (w.setCell ⟨g, 1, none⟩ (.int .i64 (k + 1))).cell? ⟨g, 0, none⟩ = some (.slice A n c) := by rw [set_ne (by simp)]; exact h0
 have s1 : (w.setCell ⟨g, 1, none⟩ (.int .i64 (k + 1))).cell? ⟨g, 1, none⟩ = some (.int .i64 (k + 1)) := World.cell?_setCell_same _ _ _ h1
 have HR := hide hR'
 clear hR'
 have f1 := hf 1
 have f0 := hf 0
 by_cases hm2 : m < 1
 ·go_enter Tryz.func88, Tryz.ntmps88
  go_wp2_with fail
  go_ret
  refine ⟨0, rfl, by omega, ?_, ?_, HR.out, hG, by simp⟩ <;> omega
 ·by_cases hn0 : n = 0
  ·subst hn0
   go_enter Tryz.func88, Tryz.ntmps88
   go_wp2_with fail
   go_ret
   refine ⟨0, rfl, by omega, ?_, ?_, HR.out, hG, by simp⟩ <;> omega
  ·have hnn : ¬ ((n : Int) = 0) := by omega
   by_cases hkn : k < (n : Int)
   ·obtain ⟨kn, rfl⟩ := Int.eq_ofNat_of_zero_le hk
    obtain ⟨x, hx, hlt, hcx⟩ := hb.2.2 kn (by omega)
    subst hx
    have h2 : kn < zs.length := by have := hb.1; omega
    have hv := hb.2.1 (zs.getD kn 0) (by rw [List.getD_eq_getElem?_getD, List.getElem?_eq_getElem h2]; exact List.getElem_mem _)
    have hcx' : (w.setCell ⟨g, 1, none⟩ (.int .i64 ((kn : Int) + 1))).cell? (x.add kn) = some (.int .u8 (zs.getD kn 0)) := by
     rw [set_other (by show g ≠ (x.add kn).block
                       have : (x.add kn).block = x.block := by unfold Addr.add; split <;> rfl
                       omega)]
     exact hcx
    generalize zs.getD kn 0 = v at *
    go_enter Tryz.func88, Tryz.ntmps88
    go_wp2_with fail
    go_ret
    have e0 := Int.emod_nonneg v (show m ≠ 0 by omega)
    have e1 := Int.emod_lt_of_pos v (show 0 < m by omega)
    refine ⟨v % m, rfl, e0, ?_, ?_, HR.out, hG, by simp⟩ <;> omega
   ·obtain ⟨kn, rfl⟩ := Int.eq_ofNat_of_zero_le hk
    have hnp : 0 < n := by omega
    have rd : ∀ i, i < n → ∃ x v, A = some x ∧ 0 ≤ v ∧ v < 256 ∧ (w.setCell ⟨g, 1, none⟩ (.int .i64 ((kn : Int) + 1))).cell? (x.add i) = some (.int .u8 v) := by
     intro i hi
     obtain ⟨x, hx, hlt, hcx⟩ := hb.2.2 i hi
     have h2 : i < zs.length := by have := hb.1; omega
     have hv := hb.2.1 (zs.getD i 0) (by rw [List.getD_eq_getElem?_getD, List.getElem?_eq_getElem h2]; exact List.getElem_mem _)
     refine ⟨x, _, hx, hv.1, hv.2, ?_⟩
     rw [set_other (by show g ≠ (x.add i).block
                       have : (x.add i).block = x.block := by unfold Addr.add; split <;> rfl
                       omega)]
     exact hcx
    have i1 : (kn : Int) % (n : Int) = ((kn % n : Nat) : Int) := by simp
    have i2 : ((kn : Int) * 7 + 3) % (n : Int) = (((kn * 7 + 3) % n : Nat) : Int) := by simp
    have l1 : kn % n < n := Nat.mod_lt _ hnp
    have l2 : (kn * 7 + 3) % n < n := Nat.mod_lt _ hnp
    generalize kn % n = r1 at *
    generalize (kn * 7 + 3) % n = r2 at *
    obtain ⟨x, v1, rfl, v10, v11, hc1⟩ := rd r1 l1
    obtain ⟨x', v2, hx', v20, v21, hc2⟩ := rd r2 l2
    obtain rfl : x = x' := by injection hx'
    have l1' : (r1 : Int) < (n : Int) := by omega
    have l2' : (r2 : Int) < (n : Int) := by omega
    have HG := hide hG
    clear rd hG hx' hb
    go_enter Tryz.func88, Tryz.ntmps88
    go_wp2_with fail
    go_region
    obtain ⟨s, hs, hsl⟩ : ∃ s : Nat, wrap64 (v1 * 131 + v2 * 1117 + (kn : Int) * 29 + wrap64 (wrap64 ((kn : Int) / (n : Int)) * 53)) = (s : Int) ∧ s < 1099511627776 := by
     have hq0 : 0 ≤ (kn : Int) / (n : Int) := Int.ediv_nonneg (by omega) (by omega)
     have hq1 : (kn : Int) / (n : Int) ≤ (kn : Int) := Int.ediv_le_self _ (by omega)
     generalize (kn : Int) / (n : Int) = q at *
     rw [IntWalk.wrap64_in q (by omega), IntWalk.wrap64_in (q * 53) (by omega), IntWalk.wrap64_in _ (by omega)]
     exact ⟨(v1 * 131 + v2 * 1117 + (kn : Int) * 29 + q * 53).toNat, by omega, by omega⟩
    rw [hs]
    have hx : bits .xor .i64 (s : Int) ((s : Int) / 64) = ((s ^^^ (s / 64) : Nat) : Int) := by
     have := i64_xor s (s / 64) hsl (by omega)
     rw [← this]; congr 1
    generalize s ^^^ (s / 64) = t at hx
    have ht0 : 0 ≤ (t : Int) := by omega
    clear hs
    go_wp2_with fail
    go_ret
    have e0 := Int.emod_nonneg (t : Int) (show m ≠ 0 by omega)
    have e1 := Int.emod_lt_of_pos (t : Int) (show 0 < m by omega)
    refine ⟨(t : Int) % m, rfl, e0, fun _ => e1, fun h => by omega, HR.out.drew, grown_drew HG.out, by simp⟩

theorem BytesAt.less {w : World} {B : Nat} {A : Option Addr} {n m : Nat} {zs : List Int} (h : BytesAt w B A n zs) (hm : m ≤ n) : BytesAt w B A m zs :=
 ⟨Nat.le_trans hm h.1, h.2.1, fun i hi => h.2.2 i (by omega)⟩
theorem BytesAt.below {w w' : World} {B B' : Nat} {A : Option Addr} {n : Nat} {zs : List Int} (h : BytesAt w B A n zs) (hb : Below B w w') (hB : B ≤ B') : BytesAt w' B' A n zs :=
 ⟨h.1, h.2.1, fun i hi => by
  obtain ⟨x, hx, hlt, hc⟩ := h.2.2 i hi
  refine ⟨x, hx, by omega, ?_⟩
  rw [← hc]
  exact hb.cell (p := x.add i) (by have : (x.add i).block = x.block := by unfold Addr.add; split <;> rfl
                                   omega)⟩
theorem RdO.more {w : World} {g : Nat} {K K' : Int} (h : RdO w g K) (hK : K ≤ K') : RdO w g K' := by
 obtain ⟨⟨A, n, c, zs, k, h0, h1, hk, hkK, hn, hb⟩, hf⟩ := h
 exact ⟨⟨A, n, c, zs, k, h0, h1, hk, by omega, hn, hb⟩, hf⟩

theorem rdo_new {w : World} {A : Option Addr} {n c : Nat} {zs : List Int} (t : TypeId) (hn : n ≤ 2000) (hb : BytesAt w w.heap.size A n zs) : RdO (w.alloc (.cells #[.slice A n c, .int .i64 0] t)) w.heap.size 0 ∧ Below w.heap.size w (w.alloc (.cells #[.slice A n c, .int .i64 0] t)) ∧ (w.alloc (.cells #[.slice A n c, .int .i64 0] t)).heap.size = w.heap.size + 1 := by
 have hW : Below w.heap.size w (w.alloc (.cells #[.slice A n c, .int .i64 0] t)) := by go_grown
 exact ⟨⟨⟨A, n, c, zs, 0, by simp [go_sem], by simp [go_sem], by omega, by omega, hn, hb.below hW (Nat.le_refl _)⟩, fun i => by simp [go_sem]⟩, hW, by simp⟩

set_option maxRecDepth 100000 in
theorem open_c (A : Option Addr) (n c : Nat) (zs : List Int) (w : World) (hn : n ≤ 1048576) (hc : n ≤ c) (hA : n = 0 ∨ A.isSome = true) (hb : BytesAt w w.heap.size A n zs) :
  Calls Tryz.prog 51 #[.slice A n c] w fun e w' => e = .returned (.pointer (some ⟨w.heap.size, 0, none⟩)) ∧ RdO w' w.heap.size 0 ∧ Below w.heap.size w w' ∧ w'.heap.size = w.heap.size + 1 := by
 by_cases h : n ≤ 2000
 ·have h' : ¬ ((2000 : Int) < (n : Int)) := by omega
  go_enter Tryz.func51, Tryz.ntmps51
  go_wp2_with fail
  go_ret
  exact ⟨rfl, rdo_new _ h hb⟩
 ·have h' : (2000 : Int) < (n : Int) := by omega
  have h2 : (2000 : Int) ≤ (c : Int) := by omega
  obtain ⟨x, rfl⟩ : ∃ x, A = some x := by
   rcases hA with rfl | hA
   ·omega
   ·exact Option.isSome_iff_exists.1 hA
  go_enter Tryz.func51, Tryz.ntmps51
  go_wp2_with fail
  go_ret
  exact ⟨rfl, rdo_new _ (by omega) (hb.less (by omega))⟩

set_option maxRecDepth 100000 in
theorem odd_c (g : Nat) (K m : Int) (w : World) (hK : 0 ≤ K ∧ K ≤ 1000000000) (hm : 0 ≤ m ∧ m ≤ 1000000000) (hR : RdO w g K) :
  Calls Tryz.prog 53 #[.pointer (some ⟨g, 0, none⟩), .int .i64 m] w fun e w' =>
   ∃ b : Bool, e = .returned (.bool b) ∧ RdO w' g (K + 1) ∧ w.grownBy w' (some g) ∧ w'.heap.size = w.heap.size := by
 by_cases h : 0 < m
 ·go_enter Tryz.func53, Tryz.ntmps53
  go_wp2_with (go_at_call 88; go_fit (pick_c g K m _ hK (by omega) hR); rintro e w1 ⟨v, rfl, h1, h2, h3, h4, h5, h6⟩)
  go_ret
  exact ⟨_, rfl, h4, h5, h6⟩
 ·go_enter Tryz.func53, Tryz.ntmps53
  go_wp2_with fail
  go_ret
  exact ⟨.inl rfl, hR.more (by omega), World.grownBy.refl w _, rfl⟩
end Go.Proofs.YtmnajkhoacogjaaGreatDoor
