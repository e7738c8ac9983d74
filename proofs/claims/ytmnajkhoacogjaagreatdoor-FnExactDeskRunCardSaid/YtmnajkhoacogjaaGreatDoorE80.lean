/-
 Desks and deeds that are counted and compared.
-/
import Derived.Test.YtmnajkhoacogjaaGreatDoorR80
import Derived.Test.YtmnajkhoacogjaaGreatDoorE1
namespace Go.Proofs.YtmnajkhoacogjaaGreatDoor
set_option linter.unusedVariables false
set_option linter.unusedSimpArgs false
open Go Go.RowKit Pp

namespace Pp
def sumP : List Pl → Nat
 | [] => 0
 | p :: l => p.bs.length + sumP l
theorem sumP_app : ∀ a b : List Pl, sumP (a ++ b) = sumP a + sumP b
 | [], b => by simp [sumP]
 | p :: l, b => by simp [sumP, sumP_app l b]; omega
theorem sumP_step {ps : List Pl} {k : Nat} {x : Pl} (h : ps[k]? = some x) : sumP (ps.take (k + 1)) = sumP (ps.take k) + x.bs.length := by
 rw [List.take_add_one, h, sumP_app]; simp [sumP]
theorem sumP_le (ps : List Pl) (k : Nat) : sumP (ps.take k) ≤ sumP ps := by
 have := sumP_app (ps.take k) (ps.drop k)
 rw [List.take_append_drop] at this; omega
theorem sumP_mem : ∀ {ps : List Pl} {x : Pl}, x ∈ ps → x.bs.length ≤ sumP ps
 | [], _, h => by cases h
 | p :: l, x, h => by
   rcases List.mem_cons.1 h with rfl | h
   ·simp [sumP]
   ·have := sumP_mem h; simp [sumP]; omega
/-- What is left for a row of plans. -/
def szP (l : Int) (ps : List Pl) : Int := if l - (ps.length : Int) - (sumP ps : Int) < 0 then -1 else l - (ps.length : Int) - (sumP ps : Int)
def sumQ : List Dd → Nat
 | [] => 0
 | p :: l => p.ws.length + sumQ l
theorem sumQ_app : ∀ a b : List Dd, sumQ (a ++ b) = sumQ a + sumQ b
 | [], b => by simp [sumQ]
 | p :: l, b => by simp [sumQ, sumQ_app l b]; omega
theorem sumQ_step {ps : List Dd} {k : Nat} {x : Dd} (h : ps[k]? = some x) : sumQ (ps.take (k + 1)) = sumQ (ps.take k) + x.ws.length := by
 rw [List.take_add_one, h, sumQ_app]; simp [sumQ]
theorem sumQ_le (ps : List Dd) (k : Nat) : sumQ (ps.take k) ≤ sumQ ps := by
 have := sumQ_app (ps.take k) (ps.drop k)
 rw [List.take_append_drop] at this; omega
def szQ (l : Int) (ps : List Dd) : Int := if l - (ps.length : Int) - (sumQ ps : Int) < 0 then -1 else l - (ps.length : Int) - (sumQ ps : Int)
end Pp

set_option maxHeartbeats 2000000 in
set_option maxRecDepth 100000 in
theorem szPlanS_c (l : Int) (A : Option Addr) (b o c B : Nat) (ps : List Pl) (w : World) (hl : 0 ≤ l ∧ l ≤ 1048576) (hn : ps.length ≤ 9223372036854775807) (hn3 : ∀ x ∈ ps, x.bs.length ≤ 9223372036854775807) (hB : B ≤ w.heap.size) (hR : PlsR w B b o A ps) :
  Calls Tryz.prog 33 #[.slice A ps.length c, .int .i64 l] w fun e w' => e = .returned (.int .i64 (szP l ps)) ∧ Below w.heap.size w w' := by
 obtain ⟨hl0, hl1⟩ := hl
 obtain ⟨r, hr⟩ : ∃ r, szP l ps = r := ⟨_, rfl⟩
 have Hr := hide hr
 rw [hr]
 clear hr
 by_cases h : l - (ps.length : Int) < 0
 ·have H2 : r = -1 := by rw [← Hr.out]; exact if_pos (by omega)
  subst H2
  go_enter Tryz.func33, Tryz.ntmps33
  go_wp2_with fail
  go_ret
  exact ⟨rfl, Below.refl _ _⟩
 ·go_enter Tryz.func33, Tryz.ntmps33
  go_wp2_with fail
  go_loopg [1, 5] ps.length (fun gh s1 s5 wr => Below w.heap.size w wr ∧ ∃ k : Nat, ∃ v : Int, k ≤ ps.length ∧ gh = ps.length - k ∧ s1 = .int .i64 v ∧ s5 = .int .i64 k ∧ Hid (v = l - (ps.length : Int) - (sumP (ps.take k) : Int)) ∧ 0 ≤ v ∧ v ≤ 1048576)
  case atStart => exact ⟨Below.refl _ _, 0, _, Nat.zero_le _, rfl, rfl, rfl, by simp [Hid, sumP], by omega, by omega⟩
  case round =>
   obtain ⟨hW, k, v, hk, rfl, rfl, rfl, Hv, hv0, hv1⟩ := hrel
   by_cases hlt : k < ps.length
   ·have hlt' : (k : Int) < (ps.length : Int) := by omega
    obtain rfl := hR.addr (by omega)
    have hx := List.getElem?_eq_getElem hlt
    have hs1 := sumP_step hx
    have hs2 := sumP_le ps (k + 1)
    have hm := hn3 _ (List.mem_of_getElem? hx)
    obtain ⟨A', b', o', c', d0, d1, _⟩ := (hR.below (hW.mono hB)).row k _ hx
    generalize ps[k] = x at d0 d1 hs1 hm
    clear hx
    by_cases hneg : v - (x.bs.length : Int) < 0
    ·have H : Hid ((if v - (x.bs.length : Int) < 0 then -1 else v - (x.bs.length : Int)) = -1) := if_pos hneg
     have H2 : r = -1 := by have := Hv.out; rw [← Hr.out]; exact if_pos (by omega)
     subst H2
     have hs := hide (And.intro hs1 hs2)
     clear hs1 hs2 hneg
     go_wp2_with (go_at_call 32; go_fit (szPlan_c v x.n A' x.bs.length c' _ ⟨hv0, hv1⟩ hm); rintro e w2 ⟨rfl, hb2⟩; rw [H.out])
     go_ret
     exact ⟨rfl, bthen hW hb2⟩
    ·obtain ⟨z, hz⟩ : ∃ z, v - (x.bs.length : Int) = z := ⟨_, rfl⟩
     have H : Hid ((if v - (x.bs.length : Int) < 0 then -1 else v - (x.bs.length : Int)) = z) := by rw [← hz]; exact if_neg hneg
     have hz0 : 0 ≤ z ∧ z ≤ 1048576 := by omega
     have hz1 : ¬ z < 0 := by omega
     have Hs : Hid (z = l - (ps.length : Int) - (sumP (ps.take (k + 1)) : Int)) := by have := Hv.out; unfold Hid; omega
     clear hs1 hs2 hneg hz
     go_wp2_with (go_at_call 32; go_fit (szPlan_c v x.n A' x.bs.length c' _ ⟨hv0, hv1⟩ hm); rintro e w2 ⟨rfl, hb2⟩; rw [H.out]; have hW2 := bthen hW hb2)
     go_roundg (ps.length - (k + 1))
     case measure => go_light; omega
     case rel => go_light; exact ⟨hW2, k + 1, z, by omega, rfl, rfl, by go_num, Hs, hz0.1, hz0.2⟩
   ·obtain rfl : k = ps.length := by omega
    have hrv : v = r := by
     have h1 := Hv.out
     rw [List.take_length] at h1
     rw [h1, ← Hr.out]
     unfold szP
     rw [if_neg (by omega)]
    subst hrv
    clear Hr
    go_wp2_with fail
    go_ret
    exact ⟨rfl, hW⟩

set_option maxHeartbeats 1000000 in
set_option maxRecDepth 100000 in
theorem szDesk_c (l n : Int) (A A2 : Option Addr) (b o c b2 o2 c2 B : Nat) (bs : List Bd) (ps : List Pl) (w : World) (hl : 0 ≤ l ∧ l ≤ 1048576) (hn : bs.length ≤ 9223372036854775807) (hn2 : ps.length ≤ 9223372036854775807) (hn3 : ∀ x ∈ ps, x.bs.length ≤ 9223372036854775807) (hB : B ≤ w.heap.size) (hR : BdsR w B b o A bs) (hP : PlsR w B b2 o2 A2 ps) :
  Calls Tryz.prog 7 #[.agg #[.int .i64 n, .slice A bs.length c, .slice A2 ps.length c2], .int .i64 l] w fun e w' => e = .returned (.int .i64 (if l - (bs.length : Int) < 0 then -1 else szP (l - bs.length) ps)) ∧ Below w.heap.size w w' := by
 obtain ⟨R, hRq⟩ : ∃ R : Int, (if l - (bs.length : Int) < 0 then -1 else szP (l - bs.length) ps) = R := ⟨_, rfl⟩
 rw [hRq]
 have h1 := dkb_new (t := 27) (n := n) (c := c) (c2 := c2) (Below.refl w.heap.size w) (hR.more hB) (hP.more hB)
 by_cases h : l - (bs.length : Int) < 0
 ·have H : Hid ((if l - (bs.length : Int) < 0 then -1 else l - (bs.length : Int)) = -1) := if_pos h
  have H2 : R = -1 := by rw [← hRq]; exact if_pos h
  subst H2
  clear h hRq
  go_enter Tryz.func7, Tryz.ntmps7
  go_upto_region 1 with fail
  generalize w.alloc (.cells #[.int .i64 n, .slice A bs.length c, .slice A2 ps.length c2] 27) = W at h1 ⊢
  have p0 := h1.c0
  have p1 := h1.c1
  go_wp2_with (go_at_call 32; go_fit (szPlan_c l n A bs.length c _ hl hn); rintro e w2 ⟨rfl, hb⟩; rw [H.out])
  go_ret
  exact ⟨rfl, bthen h1.bel hb⟩
 ·obtain ⟨r, hr⟩ : ∃ r, l - (bs.length : Int) = r := ⟨_, rfl⟩
  have H : Hid ((if l - (bs.length : Int) < 0 then -1 else l - (bs.length : Int)) = r) := by rw [← hr]; exact if_neg h
  have hr0 : 0 ≤ r ∧ r ≤ 1048576 := by omega
  have hrn : ¬ r < 0 := by omega
  rw [hr] at hRq
  have H2 : Hid (szP r ps = R) := by
   rw [if_neg hrn] at hRq
   exact hRq
  clear hr h hRq
  have hR0 : R = -1 ∨ 0 ≤ R := by rw [← H2.out]; unfold szP; split <;> omega
  rcases hR0 with hs0 | hs0
  ·subst hs0
   go_enter Tryz.func7, Tryz.ntmps7
   go_upto_region 1 with fail
   generalize w.alloc (.cells #[.int .i64 n, .slice A bs.length c, .slice A2 ps.length c2] 27) = W at h1 ⊢
   have p0 := h1.c0
   have p1 := h1.c1
   have p2 := h1.c2
   go_wp2_with (first
    | (go_at_call 32; go_fit (szPlan_c l n A bs.length c _ hl hn); rintro e w2 ⟨rfl, hb⟩; rw [H.out]; replace h1 := h1.below hb; clear p0 p1 p2; have p2 := h1.c2)
    | (go_at_call 33; go_fit (szPlanS_c r A2 b2 o2 c2 _ ps _ hr0 hn2 hn3 (Nat.le_refl _) h1.rp); rintro e w3 ⟨rfl, hb3⟩; rw [H2.out]; replace h1 := h1.below hb3))
   go_ret
   exact ⟨rfl, h1.bel⟩
  ·have hs1 : ¬ R < 0 := by omega
   go_enter Tryz.func7, Tryz.ntmps7
   go_upto_region 1 with fail
   generalize w.alloc (.cells #[.int .i64 n, .slice A bs.length c, .slice A2 ps.length c2] 27) = W at h1 ⊢
   have p0 := h1.c0
   have p1 := h1.c1
   have p2 := h1.c2
   go_wp2_with (first
    | (go_at_call 32; go_fit (szPlan_c l n A bs.length c _ hl hn); rintro e w2 ⟨rfl, hb⟩; rw [H.out]; replace h1 := h1.below hb; clear p0 p1 p2; have p2 := h1.c2)
    | (go_at_call 33; go_fit (szPlanS_c r A2 b2 o2 c2 _ ps _ hr0 hn2 hn3 (Nat.le_refl _) h1.rp); rintro e w3 ⟨rfl, hb3⟩; rw [H2.out]; replace h1 := h1.below hb3))
   go_ret
   exact ⟨rfl, h1.bel⟩

/-- What szDesk tells of a desk's size. -/
theorem szDesk_cases (bs : List Bd) (ps : List Pl) (R : Int) (h : (if (1048576 : Int) - (bs.length : Int) < 0 then -1 else szP (1048576 - bs.length) ps) = R) :
  R = -1 ∨ (0 ≤ R ∧ R ≤ 1048576 ∧ bs.length ≤ 1048576 ∧ ps.length ≤ 1048576 ∧ sumP ps ≤ 1048576) := by
 by_cases h0 : (1048576 : Int) - (bs.length : Int) < 0
 ·rw [if_pos h0] at h; exact .inl h.symm
 ·rw [if_neg h0] at h
  unfold szP at h
  split at h
  ·exact .inl h.symm
  ·exact .inr ⟨by omega, by omega, by omega, by omega, by omega⟩

theorem szDeed_c (l k a1 a2 a3 : Int) (s : ByteArray) (L : List UInt8) (hL : s.data.toList = L) (w : World) (hl : 0 ≤ l ∧ l ≤ 1048576) (hn : L.length ≤ 9223372036854775807) :
  Calls Tryz.prog 8 #[.agg #[.int .i64 k, .int .i64 a1, .int .i64 a2, .int .i64 a3, .string s], .int .i64 l] w fun e w' => e = .returned (.int .i64 (if l - (L.length : Int) < 0 then -1 else l - (L.length : Int))) ∧ Below w.heap.size w w' := by
 have hs : s.size = L.length := by rw [← hL]; rfl
 obtain ⟨hl0, hl1⟩ := hl
 have hal : Below w.heap.size w (w.alloc (.cells #[.int .i64 k, .int .i64 a1, .int .i64 a2, .int .i64 a3, .string s] 29)) := by go_grown
 rw [← hs] at hn ⊢
 clear hs hL
 by_cases h : l - (s.size : Int) < 0
 ·rw [if_pos h]
  go_enter Tryz.func8, Tryz.ntmps8
  go_wp2_with fail
  go_ret
  exact ⟨rfl, hal⟩
 ·rw [if_neg h]
  go_enter Tryz.func8, Tryz.ntmps8
  go_wp2_with fail
  go_ret
  exact ⟨rfl, hal⟩

set_option maxHeartbeats 4000000 in
set_option maxRecDepth 100000 in
theorem eqPlanS_yes (ps : List Pl) (A A' : Option Addr) (b o c b' o' c' B : Nat) (w : World) (hn : ps.length ≤ 2000000) (hn3 : ∀ x ∈ ps, x.bs.length ≤ 2000000) (hB : B ≤ w.heap.size) (hR : PlsR w B b o A ps) (hR' : PlsR w B b' o' A' ps) :
  Calls Tryz.prog 46 #[.slice A ps.length c, .slice A' ps.length c'] w fun e w' => e = .returned (.bool true) ∧ Below w.heap.size w w' := by
 go_enter Tryz.func46, Tryz.ntmps46
 go_wp2_with fail
 go_loopg [5] ps.length (fun gh i wr => ∃ k : Nat, k ≤ ps.length ∧ gh = ps.length - k ∧ i = .int .i64 k ∧ Below w.heap.size w wr)
 case atStart => exact ⟨0, Nat.zero_le _, rfl, rfl, Below.refl _ _⟩
 case round =>
  obtain ⟨k, hk, rfl, rfl, hW⟩ := hrel
  by_cases hlt : k < ps.length
  ·have hz : (k : Int) < (ps.length : Int) := by omega
   have hz0 : (0 : Int) ≤ (k : Int) := by omega
   obtain rfl := hR.addr (by omega)
   obtain rfl := hR'.addr (by omega)
   have hx := List.getElem?_eq_getElem hlt
   have hBw : B ≤ wr.heap.size := Nat.le_trans hB hW.size
   have hm := hn3 _ (List.mem_of_getElem? hx)
   obtain ⟨Ax, bx, ox, cx, d0, d1, hrd⟩ := (hR.below (hW.mono hB)).row k _ hx
   obtain ⟨Ay, by', oy, cy, e0, e1, hre⟩ := (hR'.below (hW.mono hB)).row k _ hx
   have hb1 : b < wr.heap.size := Nat.lt_of_lt_of_le (hR.lt (by omega)) hBw
   have hb2 : b' < wr.heap.size := Nat.lt_of_lt_of_le (hR'.lt (by omega)) hBw
   generalize ps[k] = x at d0 d1 e0 e1 hm hrd hre
   clear hx
   have hBd : B ≤ wr.drew.heap.size := hBw
   have hrd2 : BdsR wr.drew B bx ox Ax x.bs := hrd.below (show Below B wr wr.drew by go_grown)
   have hre2 : BdsR wr.drew B by' oy Ay x.bs := hre.below (show Below B wr wr.drew by go_grown)
   go_upto_region 6 with fail
   go_region_held3 (fun w' => w'.cell? ⟨b, o + k * 2, none⟩ = some (.int .i64 x.n) ∧ w'.cell? ⟨b, o + k * 2 + 1, none⟩ = some (.slice Ax x.bs.length cx) ∧ w'.cell? ⟨b', o' + k * 2, none⟩ = some (.int .i64 x.n) ∧ w'.cell? ⟨b', o' + k * 2 + 1, none⟩ = some (.slice Ay x.bs.length cy))
    (first
      | (go_split_ands; (repeat' apply And.intro) <;> first | assumption | exact ((bcell hb5).1 _ _ (by simp only [World.size_drew]; omega)).trans (by assumption))
      | (go_keep; done))
    ((go_at_call 45; go_fit (eqPlan_yes x.n x.bs Ax Ay bx ox cx by' oy cy B _ hm hBd hrd2 hre2); rintro e w5 ⟨rfl, hb5⟩; have hW5 : Below w.heap.size w w5 := bthen hW.drew hb5))
   go_wp2_with fail
   go_roundg (ps.length - (k + 1))
   case measure => go_light; omega
   case rel => go_light; exact ⟨k + 1, by omega, rfl, by go_num, hW5⟩
  ·go_wp2_with fail
   go_ret
   exact ⟨rfl, hW⟩

set_option maxHeartbeats 2000000 in
set_option maxRecDepth 100000 in
theorem eqDesk_yes (n : Int) (bs : List Bd) (ps : List Pl) (A A' A2 A2' : Option Addr) (b o c b' o' c' b2 o2 c2 b2' o2' c2' B : Nat) (w : World) (hn : bs.length ≤ 2000000) (hn2 : ps.length ≤ 2000000) (hn3 : ∀ x ∈ ps, x.bs.length ≤ 2000000) (hB : B ≤ w.heap.size)
  (hR : BdsR w B b o A bs) (hR' : BdsR w B b' o' A' bs) (hP : PlsR w B b2 o2 A2 ps) (hP' : PlsR w B b2' o2' A2' ps) :
  Calls Tryz.prog 13 #[.agg #[.int .i64 n, .slice A bs.length c, .slice A2 ps.length c2], .agg #[.int .i64 n, .slice A' bs.length c', .slice A2' ps.length c2']] w fun e w' => e = .returned (.bool true) ∧ Below w.heap.size w w' := by
 have hb1 : Below w.heap.size w (w.alloc (.cells #[.int .i64 n, .slice A bs.length c, .slice A2 ps.length c2] 37)) := by go_grown
 have hD1 := (dkb_new (t := 37) (n := n) (c := c) (c2 := c2) (Below.refl w.heap.size w) (hR.more hB) (hP.more hB)).alloc (.cells #[.int .i64 n, .slice A' bs.length c', .slice A2' ps.length c2'] 37)
 have hD2 := dkb_new (t := 37) (n := n) (c := c') (c2 := c2') hb1 (((hR'.more hB).below hb1).more hb1.size) ((hP'.more hB).next hb1)
 rw [World.size_alloc] at hD2
 go_enter Tryz.func13, Tryz.ntmps13
 go_upto_region 1 with fail
 generalize (w.alloc (.cells #[.int .i64 n, .slice A bs.length c, .slice A2 ps.length c2] 37)).alloc (.cells #[.int .i64 n, .slice A' bs.length c', .slice A2' ps.length c2'] 37) = W at hD1 hD2 ⊢
 have p0 := hD1.c0
 have p1 := hD1.c1
 have p2 := hD1.c2
 have q0 := hD2.c0
 have q1 := hD2.c1
 have q2 := hD2.c2
 go_wp2_with (first
  | (go_at_call 45; go_fit (eqPlan_yes n bs A A' b o c b' o' c' _ _ hn (Nat.le_refl _) hD1.rd hD2.rd); rintro e w5 ⟨rfl, hb5⟩; replace hD1 := hD1.below hb5; replace hD2 := hD2.below hb5; clear p0 p1 p2 q0 q1 q2; have p2 := hD1.c2; have q2 := hD2.c2)
  | (go_at_call 46; go_fit (eqPlanS_yes ps A2 A2' b2 o2 c2 b2' o2' c2' _ _ hn2 hn3 (Nat.le_refl _) hD1.rp hD2.rp); rintro e w6 ⟨rfl, hb6⟩; replace hD1 := hD1.below hb6))
 go_ret
 exact ⟨rfl, hD1.bel⟩
theorem toDeed_c (k a1 a2 a3 : Int) (s : ByteArray) (w : World) : Calls Tryz.prog 11 #[.agg #[.int .i64 k, .int .i64 a1, .int .i64 a2, .int .i64 a3, .string s]] w fun e w' => e = .returned (.agg #[.int .i64 k, .int .i64 a1, .int .i64 a2, .int .i64 a3, .string s]) ∧ Below w.heap.size w w' := by
 go_enter Tryz.func11, Tryz.ntmps11
 go_wp2_with fail
 refine bodyPost_ret (v := .agg #[.int .i64 k, .int .i64 a1, .int .i64 a2, .int .i64 a3, .string s]) (by simp [results, Tryz.results11, go_sem]) rfl ?_
 exact ⟨rfl, by go_grown⟩
end Go.Proofs.YtmnajkhoacogjaaGreatDoor
