/-
 Deeds that are counted, compared, made and marked.
-/
import Derived.Test.YtmnajkhoacogjaaGreatDoorE82
import Derived.Test.YtmnajkhoacogjaaGreatDoorS91
namespace Go.Proofs.YtmnajkhoacogjaaGreatDoor
set_option linter.unusedVariables false
set_option linter.unusedSimpArgs false
open Go Go.RowKit Pp

set_option maxHeartbeats 2000000 in
set_option maxRecDepth 100000 in
theorem szDeedS_c (l : Int) (A : Option Addr) (b o c B : Nat) (ds : List Dd) (w : World) (hl : 0 ≤ l ∧ l ≤ 1048576) (hn : ds.length ≤ 9223372036854775807) (hn3 : ∀ x ∈ ds, x.ws.length ≤ 9223372036854775807) (hB : B ≤ w.heap.size) (hR : DdR w B b o A ds) :
  Calls Tryz.prog 24 #[.slice A ds.length c, .int .i64 l] w fun e w' => e = .returned (.int .i64 (szQ l ds)) ∧ Below w.heap.size w w' := by
 obtain ⟨hl0, hl1⟩ := hl
 obtain ⟨r, hr⟩ : ∃ r, szQ l ds = r := ⟨_, rfl⟩
 have Hr := hide hr
 rw [hr]
 clear hr
 by_cases h : l - (ds.length : Int) < 0
 ·have H2 : r = -1 := by rw [← Hr.out]; exact if_pos (by omega)
  subst H2
  go_enter Tryz.func24, Tryz.ntmps24
  go_wp2_with fail
  go_ret
  exact ⟨rfl, Below.refl _ _⟩
 ·go_enter Tryz.func24, Tryz.ntmps24
  go_wp2_with fail
  go_loopg [1, 5] ds.length (fun gh s1 s5 wr => Below w.heap.size w wr ∧ ∃ k : Nat, ∃ v : Int, k ≤ ds.length ∧ gh = ds.length - k ∧ s1 = .int .i64 v ∧ s5 = .int .i64 k ∧ Hid (v = l - (ds.length : Int) - (sumQ (ds.take k) : Int)) ∧ 0 ≤ v ∧ v ≤ 1048576)
  case atStart => exact ⟨Below.refl _ _, 0, _, Nat.zero_le _, rfl, rfl, rfl, by simp [Hid, sumQ], by omega, by omega⟩
  case round =>
   obtain ⟨hW, k, v, hk, rfl, rfl, rfl, Hv, hv0, hv1⟩ := hrel
   by_cases hlt : k < ds.length
   ·have hlt' : (k : Int) < (ds.length : Int) := by omega
    obtain rfl := hR.addr (by omega)
    have hx := List.getElem?_eq_getElem hlt
    have hs1 := sumQ_step hx
    have hs2 := sumQ_le ds (k + 1)
    have hm := hn3 _ (List.mem_of_getElem? hx)
    obtain ⟨d0, d1, d2, d3, d4⟩ := dd_cells (CsR.below hR (hW.mono hB)) hx
    generalize ds[k] = x at d0 d1 d2 d3 d4 hs1 hm
    clear hx
    by_cases hneg : v - (x.ws.length : Int) < 0
    ·have H : Hid ((if v - (x.ws.length : Int) < 0 then -1 else v - (x.ws.length : Int)) = -1) := if_pos hneg
     have H2 : r = -1 := by have := Hv.out; rw [← Hr.out]; exact if_pos (by omega)
     subst H2
     have hs := hide (And.intro hs1 hs2)
     clear hs1 hs2 hneg
     go_wp2_with (go_at_call 8; go_fit (szDeed_c v x.k x.a x.b x.c (byts x.ws) x.ws (byts_list _) _ ⟨hv0, hv1⟩ hm); rintro e w2 ⟨rfl, hb2⟩; rw [H.out])
     go_ret
     exact ⟨rfl, bthen hW hb2⟩
    ·obtain ⟨z, hz⟩ : ∃ z, v - (x.ws.length : Int) = z := ⟨_, rfl⟩
     have H : Hid ((if v - (x.ws.length : Int) < 0 then -1 else v - (x.ws.length : Int)) = z) := by rw [← hz]; exact if_neg hneg
     have hz0 : 0 ≤ z ∧ z ≤ 1048576 := by omega
     have hz1 : ¬ z < 0 := by omega
     have Hs : Hid (z = l - (ds.length : Int) - (sumQ (ds.take (k + 1)) : Int)) := by have := Hv.out; unfold Hid; omega
     clear hs1 hs2 hneg hz
     go_wp2_with (go_at_call 8; go_fit (szDeed_c v x.k x.a x.b x.c (byts x.ws) x.ws (byts_list _) _ ⟨hv0, hv1⟩ hm); rintro e w2 ⟨rfl, hb2⟩; rw [H.out]; have hW2 := bthen hW hb2)
     go_roundg (ds.length - (k + 1))
     case measure => go_light; omega
     case rel => go_light; exact ⟨hW2, k + 1, z, by omega, rfl, rfl, by go_num, Hs, hz0.1, hz0.2⟩
   ·obtain rfl : k = ds.length := by omega
    have hrv : v = r := by
     have h1 := Hv.out
     rw [List.take_length] at h1
     rw [h1, ← Hr.out]
     unfold szQ
     rw [if_neg (by omega)]
    subst hrv
    clear Hr
    go_wp2_with fail
    go_ret
    exact ⟨rfl, hW⟩
theorem szDeedS_cases (l : Int) (ds : List Dd) (R : Int) (hl : 0 ≤ l ∧ l ≤ 1048576) (h : szQ l ds = R) : R = -1 ∨ (0 ≤ R ∧ ds.length ≤ 1048576) := by
 unfold szQ at h
 split at h
 ·exact .inl h.symm
 ·exact .inr ⟨by omega, by omega⟩

set_option maxHeartbeats 1000000 in
set_option maxRecDepth 100000 in
theorem eqDeed_yes (k a1 a2 a3 : Int) (s : ByteArray) (w : World) : Calls Tryz.prog 59 #[.agg #[.int .i64 k, .int .i64 a1, .int .i64 a2, .int .i64 a3, .string s], .agg #[.int .i64 k, .int .i64 a1, .int .i64 a2, .int .i64 a3, .string s]] w fun e w' => e = .returned (.bool true) ∧ Below w.heap.size w w' := by
 have hW : Below w.heap.size w ((w.alloc (.cells #[.int .i64 k, .int .i64 a1, .int .i64 a2, .int .i64 a3, .string s] 41)).alloc (.cells #[.int .i64 k, .int .i64 a1, .int .i64 a2, .int .i64 a3, .string s] 41)) := by go_grown
 go_enter Tryz.func59, Tryz.ntmps59
 go_wp2_with fail
 go_ret
 exact ⟨rfl, hW⟩

set_option maxHeartbeats 4000000 in
set_option maxRecDepth 100000 in
theorem eqDeedS_yes (ds : List Dd) (A A' : Option Addr) (b o c b' o' c' B : Nat) (w : World) (hn : ds.length ≤ 2000000) (hB : B ≤ w.heap.size) (hR : DdR w B b o A ds) (hR' : DdR w B b' o' A' ds) :
  Calls Tryz.prog 26 #[.slice A ds.length c, .slice A' ds.length c'] w fun e w' => e = .returned (.bool true) ∧ Below w.heap.size w w' := by
 go_enter Tryz.func26, Tryz.ntmps26
 go_wp2_with fail
 go_loopg [5] ds.length (fun gh i wr => ∃ k : Nat, k ≤ ds.length ∧ gh = ds.length - k ∧ i = .int .i64 k ∧ Below w.heap.size w wr)
 case atStart => exact ⟨0, Nat.zero_le _, rfl, rfl, Below.refl _ _⟩
 case round =>
  obtain ⟨k, hk, rfl, rfl, hW⟩ := hrel
  by_cases hlt : k < ds.length
  ·have hz : (k : Int) < (ds.length : Int) := by omega
   have hz0 : (0 : Int) ≤ (k : Int) := by omega
   obtain rfl := hR.addr (by omega)
   obtain rfl := hR'.addr (by omega)
   have hx := List.getElem?_eq_getElem hlt
   obtain ⟨d0, d1, d2, d3, d4⟩ := dd_cells (CsR.below hR (hW.mono hB)) hx
   obtain ⟨e0, e1, e2, e3, e4⟩ := dd_cells (CsR.below hR' (hW.mono hB)) hx
   have hb1 : b < wr.heap.size := Nat.lt_of_lt_of_le (hR.lt (by omega)) (Nat.le_trans hB hW.size)
   have hb2 : b' < wr.heap.size := Nat.lt_of_lt_of_le (hR'.lt (by omega)) (Nat.le_trans hB hW.size)
   generalize ds[k] = x at d0 d1 d2 d3 d4 e0 e1 e2 e3 e4
   clear hx
   go_upto_region 6 with fail
   go_region_held3 (fun w' => w'.cell? ⟨b, o + k * 5, none⟩ = some (.int .i64 x.k) ∧ w'.cell? ⟨b, o + k * 5 + 1, none⟩ = some (.int .i64 x.a) ∧ w'.cell? ⟨b, o + k * 5 + 2, none⟩ = some (.int .i64 x.b) ∧ w'.cell? ⟨b, o + k * 5 + 3, none⟩ = some (.int .i64 x.c) ∧ w'.cell? ⟨b, o + k * 5 + 4, none⟩ = some (.string (byts x.ws)) ∧ w'.cell? ⟨b', o' + k * 5, none⟩ = some (.int .i64 x.k) ∧ w'.cell? ⟨b', o' + k * 5 + 1, none⟩ = some (.int .i64 x.a) ∧ w'.cell? ⟨b', o' + k * 5 + 2, none⟩ = some (.int .i64 x.b) ∧ w'.cell? ⟨b', o' + k * 5 + 3, none⟩ = some (.int .i64 x.c) ∧ w'.cell? ⟨b', o' + k * 5 + 4, none⟩ = some (.string (byts x.ws)))
    (first
      | (go_split_ands; (repeat' apply And.intro) <;> first | assumption | exact ((bcell hb5).1 _ _ (by simp only [World.size_drew]; omega)).trans (by assumption))
      | (go_keep; done))
    ((go_at_call 59; go_fit (eqDeed_yes x.k x.a x.b x.c (byts x.ws) _); rintro e w5 ⟨rfl, hb5⟩; have hW5 : Below w.heap.size w w5 := bthen hW.drew hb5))
   go_wp2_with fail
   go_roundg (ds.length - (k + 1))
   case measure => go_light; omega
   case rel => go_light; exact ⟨k + 1, by omega, rfl, by go_num, hW5⟩
  ·go_wp2_with fail
   go_ret
   exact ⟨rfl, hW⟩

def rowD (ds : List Dd) (k : Nat) : Nat → Value := fun j => if j < k * 5 then (ddCs ds)[j]?.getD default else if j % 5 = 4 then .string ⟨#[]⟩ else .int .i64 0
theorem rowD_step {ds : List Dd} {k : Nat} {x : Dd} (hx : ds[k]? = some x) (j : Nat) :
  (if j = k * 5 + 4 then Value.string (byts x.ws) else if j = k * 5 + 3 then .int .i64 x.c else if j = k * 5 + 2 then .int .i64 x.b else if j = k * 5 + 1 then .int .i64 x.a else if j = k * 5 then .int .i64 x.k else rowD ds k j) = rowD ds (k + 1) j := by
 obtain ⟨g0, g1, g2, g3, g4⟩ := ddCs_get ds k x hx
 unfold rowD
 by_cases h4 : j = k * 5 + 4
 ·subst h4; rw [if_pos rfl, if_pos (by omega), g4]; rfl
 ·rw [if_neg h4]
  by_cases h3 : j = k * 5 + 3
  ·subst h3; rw [if_pos rfl, if_pos (by omega), g3]; rfl
  ·rw [if_neg h3]
   by_cases h2 : j = k * 5 + 2
   ·subst h2; rw [if_pos rfl, if_pos (by omega), g2]; rfl
   ·rw [if_neg h2]
    by_cases h1 : j = k * 5 + 1
    ·subst h1; rw [if_pos rfl, if_pos (by omega), g1]; rfl
    ·rw [if_neg h1]
     by_cases h0 : j = k * 5
     ·subst h0; rw [if_pos rfl, if_pos (by omega), g0]; rfl
     ·rw [if_neg h0]
      by_cases h : j < k * 5
      ·rw [if_pos h, if_pos (by omega)]
      ·rw [if_neg h, if_neg (show ¬ j < (k + 1) * 5 by omega)]

set_option maxHeartbeats 2000000 in
set_option maxRecDepth 100000 in
theorem toDeedS_c (A : Option Addr) (b o c B : Nat) (ds : List Dd) (w : World) (hl : ds.length ≤ 2000000) (hB : B ≤ w.heap.size) (hR : DdR w B b o A ds) :
  Calls Tryz.prog 25 #[.slice A ds.length c] w fun e w' => ∃ A1 c1, e = .returned (.slice A1 ds.length c1) ∧ OwnDd w.heap.size w' (.slice A1 ds.length c1) ds ∧ Below w.heap.size w w' := by
 obtain ⟨i0, hi0, hz0, hz1, hz2⟩ := info_parts infoDd
 have hmk := fun W => run_make (P := Tryz.prog) W 47 41 i0 (.agg #[.int .i64 0, .int .i64 0, .int .i64 0, .int .i64 0, .string ⟨#[]⟩]) Tryz.underlying47 hi0 hz0 .i64 .i64 ds.length ds.length (by omega) (Int.le_refl _) (by rw [hz2]; omega) (by omega)
 simp only [Int.toNat_natCast, hz1] at hmk
 have hrow : (w.alloc (.cells (madeCells #[.int .i64 0, .int .i64 0, .int .i64 0, .int .i64 0, .string ⟨#[]⟩] (ds.length * 5)) 41)).rowIs w.heap.size 41 (ds.length * 5) (rowD ds 0) := by
  have h := World.rowIs_alloc w (madeCells #[.int .i64 0, .int .i64 0, .int .i64 0, .int .i64 0, .string ⟨#[]⟩] (ds.length * 5)) 41 (rowD ds 0) (fun i hi => by
   rw [size_madeCells] at hi
   have h3 : i % 5 = 0 ∨ i % 5 = 1 ∨ i % 5 = 2 ∨ i % 5 = 3 ∨ i % 5 = 4 := by omega
   unfold rowD
   rw [if_neg (by omega)]
   simp only [madeCells, Array.getElem?_map]
   rw [Array.getElem?_eq_getElem (by simpa using hi)]
   simp
   rcases h3 with h | h | h | h | h <;> rw [h] <;> rfl)
  rwa [size_madeCells] at h
 go_enter Tryz.func25, Tryz.ntmps25
 go_wp2_with fail
 have hW0 : Below w.heap.size w (w.alloc (.cells (madeCells #[.int .i64 0, .int .i64 0, .int .i64 0, .int .i64 0, .string ⟨#[]⟩] (ds.length * 5)) 41)) := by go_grown
 generalize w.alloc (.cells (madeCells #[.int .i64 0, .int .i64 0, .int .i64 0, .int .i64 0, .string ⟨#[]⟩] (ds.length * 5)) 41) = W at hrow hW0 ⊢
 clear hmk
 go_loopg [4] ds.length (fun gh s wr => ∃ k : Nat, k ≤ ds.length ∧ gh = ds.length - k ∧ s = .int .i64 k ∧ Below w.heap.size w wr ∧ wr.rowIs w.heap.size 41 (ds.length * 5) (rowD ds k))
 case atStart => exact ⟨0, Nat.zero_le _, rfl, rfl, hW0, hrow⟩
 case round =>
  clear hW0 hrow
  obtain ⟨k, hk, rfl, rfl, hW, hrow⟩ := hrel
  by_cases hlt : k < ds.length
  ·have hlt' : (k : Int) < (ds.length : Int) := by omega
   obtain rfl := hR.addr (by omega)
   have hx := List.getElem?_eq_getElem hlt
   obtain ⟨d0, d1, d2, d3, d4⟩ := dd_cells (CsR.below hR (hW.mono hB)) hx
   have hst := rowD_step hx
   generalize ds[k] = x at d0 d1 d2 d3 d4 hst
   have hst' := hide hst
   clear hx hst
   have hHw := hrow.lt
   go_wp2_with (go_at_call 11; go_fit (toDeed_c x.k x.a x.b x.c (byts x.ws) _); rintro e w2 ⟨rfl, hb2⟩; have hrow2 := rowIs_below hrow hb2 hHw; have hW2 : Below w.heap.size w w2 := bthen hW hb2; have t0 := hrow2.cell (i := k * 5) (by omega); have t1 := hrow2.cell (i := k * 5 + 1) (by omega); have t2 := hrow2.cell (i := k * 5 + 2) (by omega); have t3 := hrow2.cell (i := k * 5 + 3) (by omega); have t4 := hrow2.cell (i := k * 5 + 4) (by omega); have tf0 := hrow2.frozen (k * 5); have tf1 := hrow2.frozen (k * 5 + 1); have tf2 := hrow2.frozen (k * 5 + 2); have tf3 := hrow2.frozen (k * 5 + 3); have tf4 := hrow2.frozen (k * 5 + 4))
   have hrow3 := (((((hrow2.set (k * 5) (.int .i64 x.k)).set (k * 5 + 1) (.int .i64 x.a)).set (k * 5 + 2) (.int .i64 x.b)).set (k * 5 + 3) (.int .i64 x.c)).set (k * 5 + 4) (.string (byts x.ws))).congr (g := rowD ds (k + 1)) (fun j _ => hst'.out j)
   have hW3 := ((((hW2.setCell (p := ⟨w.heap.size, k * 5, none⟩) (Nat.le_refl _) (.int .i64 x.k)).setCell (p := ⟨w.heap.size, k * 5 + 1, none⟩) (Nat.le_refl _) (.int .i64 x.a)).setCell (p := ⟨w.heap.size, k * 5 + 2, none⟩) (Nat.le_refl _) (.int .i64 x.b)).setCell (p := ⟨w.heap.size, k * 5 + 3, none⟩) (Nat.le_refl _) (.int .i64 x.c)).setCell (p := ⟨w.heap.size, k * 5 + 4, none⟩) (Nat.le_refl _) (.string (byts x.ws))
   go_roundg (ds.length - (k + 1))
   case measure => go_light; omega
   case rel => go_light; exact ⟨k + 1, by omega, rfl, by go_num, hW3, hrow3⟩
  ·obtain rfl : k = ds.length := by omega
   go_wp2_with fail
   go_ret
   refine ⟨_, _, rfl, row_own hrow (fun j hj => ?_) (ddCs_length ds) (Nat.le_refl _) (Nat.le_refl _) (by unfold maxLen; omega), hW⟩
   unfold rowD
   rw [if_pos hj, List.getElem?_eq_getElem (by rw [ddCs_length]; exact hj)]; rfl

namespace Pp
def IsTxt (w w' : World) (e : Ending) : Prop := ∃ s, e = .returned (.string s) ∧ Below w.heap.size w w'
end Pp
set_option maxHeartbeats 1000000 in
set_option maxRecDepth 100000 in
theorem markText_c (k : Int) (w : World) (hk : 0 ≤ k ∧ k ≤ 1000000000) : Calls Tryz.prog 60 #[.int .i64 k] w fun e w' => IsTxt w w' e := by
 obtain ⟨hk0, hk1⟩ := hk
 by_cases h0 : k ≤ 0
 ·go_enter Tryz.func60, Tryz.ntmps60
  go_wp2_with fail
  go_ret
  exact ⟨_, rfl, Below.refl _ _⟩
 ·go_enter Tryz.func60, Tryz.ntmps60
  go_wp2_with fail
  go_loopg [0, 3] k.toNat (fun gh s0 s3 wr => ∃ (v : Int) (t : ByteArray), 0 ≤ v ∧ v ≤ 1000000000 ∧ gh = v.toNat ∧ s0 = .int .i64 v ∧ s3 = .string t ∧ t.size + v.toNat ≤ 2000000000 ∧ Below w.heap.size w wr)
  case atStart => exact ⟨k, ⟨#[]⟩, hk0, hk1, rfl, rfl, rfl, by show 0 + k.toNat ≤ 2000000000; omega, Below.refl _ _⟩
  case round =>
   obtain ⟨v, t, hv0, hv1, rfl, rfl, rfl, ht, hW⟩ := hrel
   have hts : t.size ≤ 2000000000 := by omega
   have ht1 : (⟨#[109]⟩ : ByteArray).size + t.size ≤ 9223372036854775807 := by show 1 + t.size ≤ _; omega
   by_cases hz : 0 < v
   ·obtain ⟨q, hq⟩ : ∃ q, v / 10 = q := ⟨_, rfl⟩
    have hq0 : 0 ≤ q ∧ q < v ∧ q ≤ 1000000000 := by omega
    obtain ⟨d, hd⟩ : ∃ d : Nat, v % 10 = (d : Int) := Int.eq_ofNat_of_zero_le (by omega)
    have hd9 : d < 10 := by omega
    have hcv := conv1 (wr.alloc (.cells #[.int .u8 (48 + (d : Int))] 5)) wr.heap.size d hd9 (by simp [go_sem])
    have hal : Below wr.heap.size wr (wr.alloc (.cells #[.int .u8 (48 + (d : Int))] 5)) := by go_grown
    have hW2 := bthen hW hal
    have ht2 : (⟨#[dg d]⟩ : ByteArray).size + t.size ≤ 9223372036854775807 := by show 1 + t.size ≤ _; omega
    have ht3 : ((⟨#[dg d]⟩ : ByteArray) ++ t).size + q.toNat ≤ 2000000000 := by
     rw [ByteArray.size_append]
     show 1 + t.size + q.toNat ≤ _
     omega
    clear ht hts
    go_wp2_with fail
    go_roundg q.toNat
    case measure => go_light; omega
    case rel => go_light; exact ⟨q, _, hq0.1, hq0.2.2, rfl, by rw [hq], rfl, ht3, hW2⟩
   ·go_wp2_with fail
    go_ret
    exact ⟨_, rfl, hW⟩

set_option maxHeartbeats 4000000 in
set_option maxRecDepth 100000 in
theorem markDeedS_c (k0 : Int) (base n : Nat) (A : Option Addr) (c : Nat) (cs : List Value) (w : World) (hk : 0 ≤ k0 ∧ k0 ≤ 100000000) (hn : n ≤ 2000000) (hown : w.ownsRow base 41 5 (.slice A n c) n cs) :
  Calls Tryz.prog 27 #[.slice A n c, .int .i64 k0] w fun e w' => e = .returned (.int .i64 (k0 + 5 * n)) ∧ w.grownBy w' (Value.slice A n c).ownBlock := by
 obtain ⟨hk0, hk1⟩ := hk
 rcases Nat.eq_zero_or_pos n with h0 | h0
 ·subst h0
  go_enter Tryz.func27, Tryz.ntmps27
  go_wp2_with fail
  go_loopg [1, 5] 0 (fun gh s1 s5 wr => wr = w ∧ s1 = .int .i64 k0 ∧ s5 = .int .i64 0)
  case atStart => exact ⟨rfl, rfl, rfl⟩
  case round =>
   obtain ⟨rfl, rfl, rfl⟩ := hrel
   go_wp2_with fail
   go_ret
   exact ⟨by simp, World.grownBy.refl _ _⟩
 ·obtain ⟨A1, g, c1, hv, h1, h2, _⟩ := own_form hown
  injection hv with e1 _ e3
  subst e1; subst e3
  obtain rfl := h1 h0
  obtain ⟨f, hf, hx, hb, hnc, hcm⟩ := own_row hown
  have hf' : ∃ f, w.rowIs g 41 (c * 5) f := ⟨f, hf⟩
  clear hown h1 h2 hx hf
  go_enter Tryz.func27, Tryz.ntmps27
  go_wp2_with fail
  go_loopg [1, 5] n (fun gh s1 s5 wr => ∃ i : Nat, ∃ v : Int, i ≤ n ∧ gh = n - i ∧ s1 = .int .i64 v ∧ s5 = .int .i64 i ∧ Hid (v = k0 + 5 * i) ∧ w.grownBy wr (some g) ∧ ∃ f, wr.rowIs g 41 (c * 5) f)
  case atStart => exact ⟨0, k0, Nat.zero_le _, rfl, rfl, rfl, by simp [Hid], World.grownBy.refl _ _, hf'⟩
  case round =>
   clear hf'
   obtain ⟨i, v, hi, rfl, rfl, rfl, Hv, hG, F, hrow⟩ := hrel
   have hv0 : 0 ≤ v ∧ v ≤ 110000000 := by have := Hv.out; omega
   obtain ⟨hv1, hv2⟩ := hv0
   by_cases hlt : i < n
   ·have hlt' : (i : Int) < (n : Int) := by omega
    have t0 := hrow.cell (i := i * 5) (by omega)
    have t1 := hrow.cell (i := i * 5 + 1) (by omega)
    have t2 := hrow.cell (i := i * 5 + 2) (by omega)
    have t3 := hrow.cell (i := i * 5 + 3) (by omega)
    have tf0 := hrow.frozen (i * 5)
    have tf1 := hrow.frozen (i * 5 + 1)
    have tf2 := hrow.frozen (i * 5 + 2)
    have tf3 := hrow.frozen (i * 5 + 3)
    have hrow1 := (((hrow.set (i * 5) (.int .i64 v)).set (i * 5 + 1) (.int .i64 (v + 1))).set (i * 5 + 2) (.int .i64 (v + 1 + 1))).set (i * 5 + 3) (.int .i64 (v + 1 + 1 + 1))
    have hG1 : w.grownBy ((((wr.setCell ⟨g, i * 5, none⟩ (.int .i64 v)).setCell ⟨g, i * 5 + 1, none⟩ (.int .i64 (v + 1))).setCell ⟨g, i * 5 + 2, none⟩ (.int .i64 (v + 1 + 1))).setCell ⟨g, i * 5 + 3, none⟩ (.int .i64 (v + 1 + 1 + 1))) (some g) := grown_cells [.int .i64 v, .int .i64 (v + 1), .int .i64 (v + 1 + 1), .int .i64 (v + 1 + 1 + 1)] (i * 5) wr hG
    go_upto_region 12 with fail
    generalize (((wr.setCell ⟨g, i * 5, none⟩ (.int .i64 v)).setCell ⟨g, i * 5 + 1, none⟩ (.int .i64 (v + 1))).setCell ⟨g, i * 5 + 2, none⟩ (.int .i64 (v + 1 + 1))).setCell ⟨g, i * 5 + 3, none⟩ (.int .i64 (v + 1 + 1 + 1)) = W1 at hrow1 hG1 ⊢
    clear hrow hG t0 t1 t2 t3 tf0 tf1 tf2 tf3
    obtain ⟨F1, hrow1⟩ : ∃ f, W1.rowIs g 41 (c * 5) f := ⟨_, hrow1⟩
    have hgl := hrow1.lt
    go_upto_region 13 with (go_at_call 60; refine (markText_c (v + 1 + 1 + 1 + 1) W1 ⟨by omega, by omega⟩).mono ?_; rintro e w2 ⟨s, rfl, hb2⟩; have hrow2 := rowIs_below hrow1 hb2 hgl; have hG2 := gr_below hG1 hb2; have t4 := hrow2.cell (i := i * 5 + 4) (by omega); have tf4 := hrow2.frozen (i * 5 + 4))
    have hrow3 : ∃ f, (w2.setCell ⟨g, i * 5 + 4, none⟩ (.string s)).rowIs g 41 (c * 5) f := ⟨_, hrow2.set (i * 5 + 4) (.string s)⟩
    have hG3 : w.grownBy (w2.setCell ⟨g, i * 5 + 4, none⟩ (.string s)) (some g) := grown_cells [.string s] (i * 5 + 4) w2 hG2
    have Hv3 : Hid (v + 1 + 1 + 1 + 1 + 1 = k0 + 5 * ((i + 1 : Nat) : Int)) := by have := Hv.out; unfold Hid; omega
    clear t4 tf4 hrow2 hG2 hrow1 hG1
    generalize w2.setCell ⟨g, i * 5 + 4, none⟩ (.string s) = W3 at hrow3 hG3 ⊢
    go_wp2_with fail
    go_roundg (n - (i + 1))
    case measure => go_light; omega
    case rel => go_light; exact ⟨i + 1, _, by omega, rfl, rfl, by go_num, Hv3, hG3, hrow3⟩
   ·obtain rfl : i = n := by omega
    go_wp2_with fail
    go_ret
    exact ⟨by rw [Hv.out]; rfl, hG⟩
end Go.Proofs.YtmnajkhoacogjaaGreatDoor
