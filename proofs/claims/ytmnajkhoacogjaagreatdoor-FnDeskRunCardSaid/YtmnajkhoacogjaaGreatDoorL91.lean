/-
 impl: the reader takes a byte; it reads a number.
 impl: the reader reads parts: boths, thens, within.
 impl: the reader reads a part with signs for less behind it; it reads a whole text.
-/
import Derived.Test.YtmnajkhoacogjaaGreatDoorR78
import Derived.Test.YtmnajkhoacogjaaGreatDoorS91
import Derived.Test.YtmnajkhoacogjaaGreatDoorL1c
import Derived.Lib.SmallJoins
namespace Go.Proofs.YtmnajkhoacogjaaGreatDoor
set_option linter.unusedVariables false
set_option linter.unusedSimpArgs false
open Go Go.RowKit Pp

theorem atoi_q (s : ByteArray) (L : List UInt8) (hL : s.data.toList = L) (hsz : s.size ≤ 1000) (hd : ∀ c ∈ L, isDig c = true) (w : World) (hv : VR w) :
  Calls Tryz.prog 140 #[.string s] w fun e w' => ∃ v ev, e = .returned (.tuple #[.int .i64 v, ev]) ∧ AtoiV L v ev ∧ Below w.heap.size w w' := by
 have hx : ∀ x, digs L = some x → Lib.atoiAll s.data.toList = .ok x := fun x h => by
  obtain ⟨h1, h2⟩ := digs_atoi hd h
  rw [hL, Lib.atoiAll_short L (by omega), h1]
  rfl
 obtain ⟨⟨e1, k1, m1⟩, ⟨e2, k2, m2⟩⟩ := hv
 cases h : Lib.atoiAll s.data.toList with
 | ok v =>
   refine (show Calls Tryz.prog 140 #[.string s] w _ from Any.strconv_Atoi_ok laysC172 s (by omega) v h w).mono ?_
   rintro e w' ⟨rfl, hw⟩
   refine ⟨v, .nilIface, rfl, ⟨.inl rfl, fun x hd' => ⟨?_, rfl⟩⟩, ?_⟩
   ·have := hx x hd'
    rw [h] at this
    injection this
   ·rcases hw with rfl | ⟨t, rfl⟩
    ·exact Below.refl _ _
    ·exact Go.Joins.below_bytesWorld _ _ _ _ (Nat.le_refl _)
 | range =>
   refine (show Calls Tryz.prog 140 #[.string s] w _ from Any.strconv_Atoi_range laysC172 s (by omega) h e2 w k2 m2).mono ?_
   rintro e w' ⟨N, rfl, -, -, hb⟩
   refine ⟨_, _, rfl, ⟨.inr ⟨_, _, rfl⟩, fun x hd' => ?_⟩, hb⟩
   have := hx x hd'
   rw [h] at this
   cases this
 | _ =>
   refine (show Calls Tryz.prog 140 #[.string s] w _ from Any.strconv_Atoi_syntax laysC172 s (by omega) h e1 w k1 m1).mono ?_
   rintro e w' ⟨N, rfl, -, -, hb⟩
   refine ⟨_, _, rfl, ⟨.inr ⟨_, _, rfl⟩, fun x hd' => ?_⟩, hb⟩
   have := hx x hd'
   rw [h] at this
   cases this
set_option maxHeartbeats 2000000 in
theorem take_c (s : ByteArray) (L : List UInt8) (hL : s.data.toList = L) (hsz : s.size ≤ 1000) (c : UInt8) (cn : Int) (hc : (c.toNat : Int) = cn) (n : Int) (hn : 0 ≤ n ∧ n ≤ (s.size : Int)) (f : Bool) (R : Nat) (w : World) (hT : TmR w R s n f) :
  Calls Tryz.prog 120 #[.pointer (some ⟨R, 0, none⟩), .int .u8 cn] w fun e w' => e = .returned (.bool (ch L n c)) ∧ TmR w' R s (if ch L n c = true then n + 1 else n) f ∧ w.grownBy w' (some R) ∧ w'.heap.size = w.heap.size := by
 have hs := str_size hL
 obtain ⟨k, rfl⟩ := Int.eq_ofNat_of_zero_le hn.1
 have c0 := hT.c0
 have c1 := hT.c1
 have cf1 := hT.cf 1
 have Hs := hide hs
 have hb : w.grownBy w (some R) := ⟨rfl, rfl, rfl, Nat.le_refl _, fun _ _ _ => rfl⟩
 rcases ch_cases (c := c) (m := s.size) hs (.inr hn) with ⟨hch, k', d, hkk, hlt, hx, rfl⟩ | ⟨hch, hno⟩
 ·obtain rfl : k = k' := by omega
  rw [hch, if_pos rfl]
  obtain ⟨-, hget⟩ := str_get hL hx
  have hdd : ((d.toNat : Int) == cn) = true := by rw [hc]; simp
  have hz : (k : Int) < (s.size : Int) := by omega
  have hw : IntKind.i64.wrap ((k : Int) + 1) = (k : Int) + 1 := IntWalk.i64_in _ (by omega)
  clear hs hx hkk
  go_enter Tryz.func120, Tryz.ntmps120
  go_upto_region 1 with fail
  go_quiet (fail)
  go_wp2_with fail
  go_ret
  have hdq : Below w.heap.size w (w.drewN nq) := bel_drewN w nq
  exact ⟨rfl, (hT.below hdq).set1 _, grT (grB R hdq) (grown_set _ ⟨R, 1, none⟩ _), by simp⟩
 ·rw [hch, if_neg (by decide)]
  rcases hno with h | h | ⟨k', d, hkk, hlt, hx, hne⟩
  ·omega
  ·have hz : ¬ (k : Int) < (s.size : Int) := by omega
   clear hs
   go_enter Tryz.func120, Tryz.ntmps120
   go_upto_region 1 with fail
   go_quiet (fail)
   go_wp2_with fail
   go_ret
   have hdq : Below w.heap.size w (w.drewN nq) := bel_drewN w nq
   exact ⟨rfl, hT.below hdq, grB R hdq, rfl⟩
  ·obtain rfl : k = k' := by omega
   obtain ⟨-, hget⟩ := str_get hL hx
   have hdd : ((d.toNat : Int) == cn) = false := by
    rw [beq_eq_false_iff_ne]
    intro e
    exact hne (UInt8.toNat_inj.1 (by omega))
   have hz : (k : Int) < (s.size : Int) := by omega
   clear hs hx hkk
   go_enter Tryz.func120, Tryz.ntmps120
   go_upto_region 1 with fail
   go_quiet (fail)
   go_wp2_with fail
   go_ret
   have hdq : Below w.heap.size w (w.drewN nq) := bel_drewN w nq
   exact ⟨rfl, hT.below hdq, grB R hdq, rfl⟩
set_option maxHeartbeats 4000000 in
set_option maxRecDepth 100000 in
theorem number_q (s : ByteArray) (L : List UInt8) (hL : s.data.toList = L) (hl : s.size ≤ 120) (i : Nat) (hi : i ≤ s.size) (f : Bool) (R : Nat) (w : World) (hT0 : TmR w R s (i : Int) f) :
  Calls Tryz.prog 135 #[.pointer (some ⟨R, 0, none⟩)] w fun e w' => ∃ v n1 k, e = .returned (.int .i64 v) ∧ NumI L (i : Int) v n1 k ∧ TmR w' R s n1 (f && k) ∧ w.grownBy w' (some R) := by
 have Hsz := hide (str_size hL)
 obtain ⟨T, hT⟩ : ∃ T, digAt L i = T := ⟨_, rfl⟩
 have hTl : i + T.length ≤ s.size := by
  have := (List.takeWhile_sublist (l := L.drop i) isDig).length_le
  unfold digAt at hT
  rw [hT, List.length_drop] at this
  have := Hsz.out
  omega
 have hTd : ∀ c ∈ T, isDig c = true := by rw [← hT]; exact digAt_dig L i
 have hcut : (s.extract i (i + T.length)).data.toList = T := by
  rw [str_cut hL, Nat.add_sub_cancel_left, ← hT]
  exact tw_take _
 have hat := fun (wq : World) (hq : VR wq) (hz : (s.extract i (i + T.length)).size ≤ 1000) => atoi_q (s.extract i (i + T.length)) T hcut hz hTd wq hq
 have hcz : (s.extract i (i + T.length)).size ≤ 1000 := by
  rw [str_size hcut]; omega
 have hnum : ∀ v ev, AtoiV T v ev → ∀ k, (k = true ↔ ev = .nilIface) → NumI L (i : Int) v ((i : Int) + T.length) k := fun v ev h k hk => by
  unfold NumI
  rw [Int.toNat_natCast, hT]
  exact ⟨rfl, fun x hx => ⟨(h.2 x hx).1, hk.2 (h.2 x hx).2⟩⟩
 have hin : ∀ j, j < T.length → ∃ c, L[i + j]? = some c ∧ isDig c = true := fun j hj => by
  rw [← hT] at hj
  obtain ⟨c, h1, h2⟩ := tw_lt hj
  exact ⟨c, by rw [← List.getElem?_drop]; exact h1, h2⟩
 have hout : ∀ c, L[i + T.length]? = some c → isDig c = false := fun c hc => by
  rw [← List.getElem?_drop, ← hT] at hc
  exact tw_end hc
 have Hat := hide hat
 have Hnum := hide hnum
 have Hcz := hide hcz
 clear hat hnum hcut hTd hcz
 obtain ⟨m, hm⟩ : ∃ m, T.length = m := ⟨_, rfl⟩
 rw [hm] at hTl hin hout Hat Hnum Hcz
 clear hm hT
 have Hout := hide hout
 have Hin := hide hin
 clear hin hout
 go_enter Tryz.func135, Tryz.ntmps135
 have a1 := hT0.c1
 go_upto_block 0 with fail
 clear a1
 go_cut [3] (fun s3 wx => s3 = .int .i64 (i : Int) ∧ TmR wx R s ((i + m : Nat) : Int) f ∧ w.grownBy wx (some R))
 case first =>
  go_wp2_with fail
  go_loopg [] (m + 1) (fun gh wr => ∃ (k : Nat), k ≤ m ∧ gh = m + 1 - k ∧ TmR wr R s ((i + k : Nat) : Int) f ∧ w.grownBy wr (some R))
  case atStart => exact ⟨0, Nat.zero_le _, rfl, hT0, ⟨rfl, rfl, rfl, Nat.le_refl _, fun _ _ _ => rfl⟩⟩
  case round =>
   clear hT0
   obtain ⟨k, hk, rfl, hT, hG⟩ := hrel
   obtain ⟨j, hj⟩ : ∃ j, i + k = j := ⟨_, rfl⟩
   rw [hj] at hT
   have hjl : j ≤ s.size := by omega
   have c0 := hT.c0
   have c1 := hT.c1
   have cf1 := hT.cf 1
   by_cases hlt' : k < m
   ·obtain ⟨d, hx', hd'⟩ := Hin.out k hlt'
    rw [hj] at hx'
    obtain ⟨hlt2, hget'⟩ := str_get hL hx'
    unfold isDig at hd'
    rw [decide_eq_true_eq] at hd'
    have hkz : (j : Int) < (s.size : Int) := by omega
    have hq : inB (d.toNat : Int) 48 57 = true := by rw [inB_iff]; omega
    have hw : IntKind.i64.wrap ((j : Int) + 1) = (j : Int) + 1 := IntWalk.i64_in _ (by omega)
    have Hj := hide hj
    have Hwd := hide (show wrap64 (d.toNat : Int) = (d.toNat : Int) from IntWalk.wrap64_in (d.toNat : Int) (by omega))
    clear hx' hd' hj
    go_upto_region 2 with fail
    go_quiet ((go_at_call 89; rw [Hwd.out]; exact Calls.quiet_of_same (in_t hq _)))
    have hdq := bel_drewN wr nq
    have hT2 := (hT.below hdq).set1 ((j : Int) + 1)
    have hG2 := grT (grT hG (grB R hdq)) (grown_set (wr.drewN nq) ⟨R, 1, none⟩ (.int .i64 ((j : Int) + 1)))
    go_wp2_with fail
    go_roundg (m + 1 - (k + 1))
    case measure => go_light; omega
    case rel => go_light; exact ⟨k + 1, by omega, rfl, by rw [show ((i + (k + 1) : Nat) : Int) = (j : Int) + 1 by have := Hj.out; omega]; exact hT2, hG2⟩
   ·obtain rfl : k = m := by omega
    cases hx : L[j]? with
    | none =>
      have hkz : ¬ (j : Int) < (s.size : Int) := by
       have := List.getElem?_eq_none_iff.1 hx
       have := Hsz.out
       omega
      have Hj := hide hj
      clear hx hj
      go_upto_region 2 with fail
      go_quiet (fail)
      have hdq := bel_drewN wr nq
      go_wp2_with fail
      go_meet
      case rel => exact ⟨rfl, by rw [Hj.out]; exact hT.below hdq, grT hG (grB R hdq)⟩
    | some d =>
      obtain ⟨hlt2, hget'⟩ := str_get hL hx
      have hd' := Hout.out d (by rw [hj]; exact hx)
      unfold isDig at hd'
      rw [decide_eq_false_iff_not] at hd'
      have hkz : (j : Int) < (s.size : Int) := by omega
      have hq : inB (d.toNat : Int) 48 57 = false := by
       rw [Bool.eq_false_iff, Ne, inB_iff]
       omega
      have Hj := hide hj
      have Hwd := hide (show wrap64 (d.toNat : Int) = (d.toNat : Int) from IntWalk.wrap64_in (d.toNat : Int) (by have := d.toNat_lt; omega))
      clear hx hd' hj
      go_upto_region 2 with fail
      go_quiet ((go_at_call 89; rw [Hwd.out]; exact Calls.quiet_of_same (in_t hq _)))
      have hdq := bel_drewN wr nq
      go_wp2_with fail
      go_meet
      case rel => exact ⟨rfl, by rw [Hj.out]; exact hT.below hdq, grT hG (grB R hdq)⟩
 case rest =>
  clear hT0
  obtain ⟨rfl, hT, hG⟩ := hcut
  obtain ⟨j, hj⟩ : ∃ j, i + m = j := ⟨_, rfl⟩
  rw [hj] at hT hTl Hat Hcz
  unfold Hid at Hnum
  rw [show (i : Int) + (m : Int) = (j : Int) by omega] at Hnum
  replace Hnum := hide Hnum
  have hij : (i : Int) ≤ (j : Int) := by omega
  have hjz : (j : Int) ≤ (s.size : Int) := by omega
  clear hj
  go_upto_region 4 with fail
  refine wp_regionE (fun w' => w'.cell? ⟨R, 0, none⟩ = some (.string s) ∧ w'.cell? ⟨R, 1, none⟩ = some (.int .i64 (j : Int))) 15 (by kernel_rfl) ?_
  change wpE _ _ _ _ _ _ 16 #[false, false, false, false, false, false, false, false, false, false, false, false, false, false, false, false] _ _
  have hdr : Below wc.heap.size wc wc.drew := by go_grown
  replace hG := grT hG (grB R hdr)
  replace hT := hT.below hdr
  generalize wc.drew = wd at hT hG ⊢
  clear hdr
  have hS0 : wd.cell? ⟨R, 0, none⟩ = some (.string s) ∧ wd.cell? ⟨R, 1, none⟩ = some (.int .i64 (j : Int)) := ⟨hT.c0, hT.c1⟩
  refine wpE_tk (v := ?_) 0 [1, 2, 3, 9, 10, 14, 15] (hy := ?_) (hS := hS0) (h := ?_)
  rotate_left
  ·intro w' hSw
   obtain ⟨hs0, hs1⟩ := hSw
   simp only [xg0, xg1, xg2]
   go_simp
   all_goals with_reducible rfl
  simp only [xg0, xg1, xg2, Act.put, xs0, xs1, xs2]
  refine wpE_tk (v := ?_) 4 [9, 10, 14, 15] (hy := ?_) (hS := hS0) (h := ?_)
  rotate_left
  ·intro w' hSw
   obtain ⟨hs0, hs1⟩ := hSw
   simp only [xg0, xg1, xg2]
   go_simp
   all_goals with_reducible rfl
  simp only [xg0, xg1, xg2, Act.put, xs0, xs1, xs2]
  refine wpE_tk (v := ?_) 5 [6, 7, 8, 9, 10, 14, 15] (hy := ?_) (hS := hS0) (h := ?_)
  rotate_left
  ·intro w' hSw
   obtain ⟨hs0, hs1⟩ := hSw
   simp only [xg0, xg1, xg2]
   go_simp
   all_goals with_reducible rfl
  simp only [xg0, xg1, xg2, Act.put, xs0, xs1, xs2]
  refine wpE_tk (v := ?_) 1 [2, 3, 9, 10, 14, 15] (hy := ?_) (hS := hS0) (h := ?_)
  rotate_left
  ·intro w' hSw
   obtain ⟨hs0, hs1⟩ := hSw
   simp only [xg0, xg1, xg2]
   go_simp
   all_goals with_reducible rfl
  simp only [xg0, xg1, xg2, Act.put, xs0, xs1, xs2]
  refine wpE_tk (v := ?_) 2 [3, 9, 10, 14, 15] (hy := ?_) (hS := hS0) (h := ?_)
  rotate_left
  ·intro w' hSw
   obtain ⟨hs0, hs1⟩ := hSw
   simp only [xg0, xg1, xg2]
   go_simp
   all_goals with_reducible rfl
  simp only [xg0, xg1, xg2, Act.put, xs0, xs1, xs2]
  refine wpE_tk (v := ?_) 3 [9, 10, 14, 15] (hy := ?_) (hS := hS0) (h := ?_)
  rotate_left
  ·intro w' hSw
   obtain ⟨hs0, hs1⟩ := hSw
   simp only [xg0, xg1, xg2]
   go_simp
   all_goals with_reducible rfl
  simp only [xg0, xg1, xg2, Act.put, xs0, xs1, xs2]
  refine wpE_tk (v := ?_) 6 [7, 8, 9, 10, 14, 15] (hy := ?_) (hS := hS0) (h := ?_)
  rotate_left
  ·intro w' hSw
   obtain ⟨hs0, hs1⟩ := hSw
   simp only [xg0, xg1, xg2]
   go_simp
   all_goals with_reducible rfl
  simp only [xg0, xg1, xg2, Act.put, xs0, xs1, xs2]
  refine wpE_tk (v := ?_) 7 [8, 9, 10, 14, 15] (hy := ?_) (hS := hS0) (h := ?_)
  rotate_left
  ·intro w' hSw
   obtain ⟨hs0, hs1⟩ := hSw
   simp only [xg0, xg1, xg2]
   go_simp
   all_goals with_reducible rfl
  simp only [xg0, xg1, xg2, Act.put, xs0, xs1, xs2]
  refine wpE_tk (v := ?_) 8 [9, 10, 14, 15] (hy := ?_) (hS := hS0) (h := ?_)
  rotate_left
  ·intro w' hSw
   obtain ⟨hs0, hs1⟩ := hSw
   simp only [xg0, xg1, xg2]
   go_simp
   all_goals with_reducible rfl
  simp only [xg0, xg1, xg2, Act.put, xs0, xs1, xs2]
  refine wpE_tk (v := ?_) 9 [10, 14, 15] (hy := ?_) (hS := hS0) (h := ?_)
  rotate_left
  ·intro w' hSw
   obtain ⟨hs0, hs1⟩ := hSw
   simp only [xg0, xg1, xg2]
   go_simp
   all_goals with_reducible rfl
  simp only [xg0, xg1, xg2, Act.put, xs0, xs1, xs2]
  refine wpE_step' 10 (of_decide_eq_true (by kernel_rfl)) (by kernel_rfl) (by kernel_rfl) (fun K hK => ?_)
  simp only [xg0, xg1, xg2]
  go_simp
  go_at_call 140
  refine (Hat.out _ hT.vr Hcz.out).mono ?_
  rintro e w5 ⟨v, ev, rfl, hV, hb5⟩
  replace hG := grT hG (grB R hb5)
  replace hT := hT.below hb5
  refine hK.out _ _ (.inr ⟨hT.c0, hT.c1⟩) ?_
  clear hK K hS0 hb5
  simp only [Act.put, xs0, xs1, xs2]
  have hS0 : w5.cell? ⟨R, 0, none⟩ = some (.string s) ∧ w5.cell? ⟨R, 1, none⟩ = some (.int .i64 (j : Int)) := ⟨hT.c0, hT.c1⟩
  refine wpE_tk (v := ?_) 11 [13, 15] (hy := ?_) (hS := hS0) (h := ?_)
  rotate_left
  ·intro w' hSw
   obtain ⟨hs0, hs1⟩ := hSw
   simp only [xg0, xg1, xg2]
   go_simp
   all_goals with_reducible rfl
  simp only [xg0, xg1, xg2, Act.put, xs0, xs1, xs2]
  refine wpE_tk (v := ?_) 12 [14, 15] (hy := ?_) (hS := hS0) (h := ?_)
  rotate_left
  ·intro w' hSw
   obtain ⟨hs0, hs1⟩ := hSw
   simp only [xg0, xg1, xg2]
   go_simp
   all_goals with_reducible rfl
  simp only [xg0, xg1, xg2, Act.put, xs0, xs1, xs2]
  refine wpE_tk (v := ?_) 13 [15] (hy := ?_) (hS := hS0) (h := ?_)
  rotate_left
  ·intro w' hSw
   obtain ⟨hs0, hs1⟩ := hSw
   simp only [xg0, xg1, xg2]
   go_simp
   all_goals with_reducible rfl
  simp only [xg0, xg1, xg2, Act.put, xs0, xs1, xs2]
  refine wpE_tk (v := ?_) 14 [15] (hy := ?_) (hS := hS0) (h := ?_)
  rotate_left
  ·intro w' hSw
   obtain ⟨hs0, hs1⟩ := hSw
   simp only [xg0, xg1, xg2]
   go_simp
   all_goals with_reducible rfl
  simp only [xg0, xg1, xg2, Act.put, xs0, xs1, xs2]
  refine wpE_step' 15 (of_decide_eq_true (by kernel_rfl)) (by kernel_rfl) (by kernel_rfl) (fun K hK => ?_)
  simp only [xg0, xg1, xg2]
  go_simp
  refine hK.out _ _ (.inl rfl) ?_
  clear hK K
  simp only [Act.put, xs0, xs1, xs2]
  refine wpE_done (by kernel_rfl) ?_ _
  clear hS0
  have c2 := hT.c2
  have cf2 := hT.cf 2
  have hev := hV.1
  have HV := hide hV
  clear hV
  cases f
  ·have hT2 := hT.set2 false
   have hG2 := grT hG (grown_set w5 ⟨R, 2, none⟩ (.bool false))
   go_wp2_with fail
   go_ret
   rcases hev with rfl | ⟨te, pe, rfl⟩
   ·exact ⟨v, _, true, rfl, Hnum.out v _ HV.out true (by simp), hT2, hG2⟩
   ·exact ⟨v, _, false, rfl, Hnum.out v _ HV.out false (by simp), hT2, hG2⟩
  ·rcases hev with rfl | ⟨te, pe, rfl⟩
   ·have hT2 := hT.set2 true
    have hG2 := grT hG (grown_set w5 ⟨R, 2, none⟩ (.bool true))
    go_wp2_with fail
    go_ret
    exact ⟨v, _, true, rfl, Hnum.out v _ HV.out true (by simp), hT2, hG2⟩
   ·have hT2 := hT.set2 false
    have hG2 := grT hG (grown_set w5 ⟨R, 2, none⟩ (.bool false))
    go_wp2_with fail
    go_ret
    exact ⟨v, _, false, rfl, Hnum.out v _ HV.out false (by simp), hT2, hG2⟩

open Go Go.RowKit Pp

namespace Pp
def ImV (L : List UInt8) (md : Md) (i : Int) (f : Bool) (s : ByteArray) (R : Nat) (w w' : World) (v : Value) : Prop := ∃ A c, ∃ t : List Mk, ∃ n1 f1, v = .slice A t.length c ∧ OwnM w.heap.size w' (.slice A t.length c) t ∧ Im L md [] i f t n1 f1 ∧ TmR w' R s n1 f1 ∧ w.grownBy w' (some R)
def CallsIm (fn : Nat) (md : Md) (s : ByteArray) (L : List UInt8) (i : Nat) : Prop := ∀ (f : Bool) (R : Nat) (w : World), TmR w R s (i : Int) f → Calls Tryz.prog fn #[.pointer (some ⟨R, 0, none⟩)] w fun e w' => ∃ v, e = .returned v ∧ ImV L md (i : Int) f s R w w' v
end Pp
theorem ch_nat {L : List UInt8} {n : Nat} {c : UInt8} (h : ch L (n : Int) c = true) : n < L.length := by
 have := ch_lt h
 omega
theorem tm_row {w wx w' : World} {R : Nat} {s : ByteArray} {n : Int} {f : Bool} {e : TypeId} {size m : Nat} {v : Value} {xs : List Value} (h : TmR wx R s n f) (hG : w.grownBy wx (some R)) (hown : wx.ownsRow w.heap.size e size v m xs) (hg : wx.grownBy w' v.ownBlock) (hRw : R < w.heap.size) : TmR w' R s n f ∧ w.grownBy w' (some R) := by
 have hrl := h.rl
 have hlt : ∀ q, v.ownBlock = some q → w.heap.size ≤ q := fun q hq => (hown.lt q hq).1
 exact ⟨h.grown hg (fun q hq => by have := hlt q hq; omega), grRow hG hg hlt⟩
set_option maxHeartbeats 4000000 in
set_option maxRecDepth 100000 in
theorem boths_q (s : ByteArray) (L : List UInt8) (hL : s.data.toList = L) (hl : s.size ≤ 120) (i : Nat) (hi : i ≤ s.size) (HI : ∀ j : Nat, i ≤ j → j ≤ s.size → CallsIm 128 .atm s L j) : CallsIm 119 .bth s L i := by
 intro f R w hT0
 obtain ⟨i0, hi0, hz0, hz1, hz2⟩ := info_parts infoM
 have Hsz := hide (str_size hL)
 have hRl := hT0.rl
 have hRw := hT0.ex
 have HH := hide HI
 have Hc := hide (HI i (Nat.le_refl _) hi f R w hT0)
 clear HI
 go_enter Tryz.func119, Tryz.ntmps119
 go_upto_block 0 with (go_at_call 128; refine Hc.out.mono ?_; rintro e w2 ⟨v, rfl, ⟨A1, c1, t1, n1, f1, rfl, own1, hIm, hT1, hG1⟩⟩)
 have hr := hIm.rng (by have := Hsz.out; omega)
 obtain ⟨n, rfl⟩ : ∃ n : Nat, n1 = (n : Int) := ⟨n1.toNat, by omega⟩
 have HS : Hid (∀ t' n' f', Im L .bthL t1 (n : Int) f1 t' n' f' → Im L .bth [] (i : Int) f t' n' f') := fun t' n' f' h => .bth hIm h
 have hb0 : i ≤ n ∧ n ≤ s.size ∧ t1.length ≤ 2 * (n - i) + 1 := by
  have := Hsz.out
  simp only [List.length_nil] at hr
  omega
 clear hT0 Hc hIm hr
 go_wp2_with fail
 go_loopg [3] (s.size - n + 1) (fun gh s3 wr => ∃ (t : List Mk) (k : Nat) (fk : Bool) (A : Option Addr) (c : Nat), gh = s.size - k + 1 ∧ s3 = .slice A t.length c ∧ (i ≤ k ∧ k ≤ s.size ∧ t.length ≤ 2 * (k - i) + 1) ∧ Hid (∀ t' n' f', Im L .bthL t (k : Int) fk t' n' f' → Im L .bth [] (i : Int) f t' n' f') ∧ OwnM w.heap.size wr (.slice A t.length c) t ∧ TmR wr R s (k : Int) fk ∧ w.grownBy wr (some R))
 case atStart => exact ⟨t1, n, f1, A1, c1, rfl, rfl, hb0, HS, own1, hT1, hG1⟩
 case round =>
  clear HS own1 hT1 hG1 hb0
  obtain ⟨t, k, fk, A, c, rfl, rfl, hb, HS, own, hT, hG⟩ := hrel
  obtain ⟨hb1, hb2, hb3⟩ := hb
  have htk := fun (wq : World) (hq : TmR wq R s (k : Int) fk) => take_c s L hL (by omega) 38 38 rfl (k : Int) (by omega) fk R wq hq
  cases hch : ch L (k : Int) 38
  ·simp only [hch, Bool.false_eq_true, if_false] at htk
   have Htk := hide htk
   have HE := hide (HS.out t (k : Int) fk (.bthD hch))
   clear htk HS hch
   go_wp2_with (go_at_call 120; refine (Htk.out _ hT).mono ?_; rintro e w3 ⟨rfl, hT3, hG3, -⟩)
   go_ret
   exact ⟨_, rfl, ⟨A, c, t, _, _, rfl, own_farR own hG3 hRw, HE.out, hT3, grT hG hG3⟩⟩
  ·simp only [hch, if_true] at htk
   have hk1 : k < s.size := by rw [Hsz.out]; exact ch_nat hch
   rw [show (k : Int) + 1 = ((k + 1 : Nat) : Int) by omega] at htk
   have Htk := hide htk
   have Hch := hide hch
   have Hcall := hide (fun (wq : World) (hq : TmR wq R s ((k + 1 : Nat) : Int) fk) => HH.out (k + 1) (by omega) (by omega) fk R wq hq)
   clear htk hch
   go_upto_region 3 with (go_at_call 120; refine (Htk.out _ hT).mono ?_; rintro e w3 ⟨rfl, hT3, hG3, -⟩)
   replace own := own_farR own hG3 hRw
   replace hG := grT hG hG3
   clear hT hG3 Htk
   go_upto_region 2 with (first
    | (go_at_call 128; refine (Hcall.out _ hT3).mono ?_; rintro e w4 ⟨v, rfl, ⟨A4, c4, t4, n4, f4, rfl, own4, hIm4, hT4, hG4⟩⟩; have ownT := own_farR own hG4 hRw; obtain ⟨g4, hr4⟩ := OwnM.reads own4; have hGT := grT hG hG4; have hr := hIm4.rng (by have := Hsz.out; omega); obtain ⟨n, rfl⟩ : ∃ n : Nat, n4 = (n : Int) := ⟨n4.toNat, by omega⟩; simp only [List.length_nil] at hr; have hsz := Hsz.out; have hb4 : k + 1 ≤ n ∧ n ≤ s.size ∧ t4.length ≤ 2 * (n - (k + 1)) + 1 := (by omega); clear hr hsz)
    | (at_builtin; refine app_list _ rfl (.tmp 8) (.tmp 10) _ rfl w.heap.size 139 i0 _ 3 24 Tryz.underlying99 hi0 hz0 hz1 hz2 rfl (by omega) (.slice A t.length c) t.length (mkCs t) rfl ownT A4 t4.length c4 (mkCs t4) rfl (mkCs_length t4) (csr_news1 hr4) (mkCs_one t4) (by omega) (by omega) (Nat.le_trans hGT.size (Nat.le_refl _)) ?_
       intro A5 c5 w5 hown5 hg5 hat5
       obtain ⟨hT5, hG5⟩ := tm_row hT4 hGT ownT hg5 hRw
       have hal5 : Below w5.heap.size w5 (w5.alloc (.cells #[.int .i64 2, .int .i64 0, .int .i64 0] 139)) := by go_grown
       have own6 := own_below hown5 hal5
       have hnew6 : (w5.alloc (.cells #[.int .i64 2, .int .i64 0, .int .i64 0] 139)).heap[w5.heap.size]? = some (.cells #[.int .i64 2, .int .i64 0, .int .i64 0] 139 (0, 0)) := at_new rfl
       have hT6 := hT5.below hal5
       have hG6 := grT hG5 (grB R hal5))
    | (at_builtin; refine app_list _ rfl (.tmp 11) (.tmp 13) _ rfl w.heap.size 139 i0 _ 3 24 Tryz.underlying99 hi0 hz0 hz1 hz2 rfl (by omega) (.slice A5 (t.length + t4.length) c5) (t.length + t4.length) (mkCs t ++ mkCs t4) rfl own6 (some ⟨w5.heap.size, 0, none⟩) 1 _ (mkCs [⟨2, 0, 0⟩]) rfl rfl (mk_news1 hnew6) (mkCs_one _) (by omega) (by omega) hG6.size ?_
       intro A7 c7 w7 hown7 hg7 hat7
       obtain ⟨hT7, hG7⟩ := tm_row hT6 hG6 own6 hg7 hRw))
   have hl7 : (t ++ t4 ++ [(⟨2, 0, 0⟩ : Mk)]).length = t.length + t4.length + 1 := by simp; omega
   have own7 : OwnM w.heap.size w7 (.slice A7 (t.length + t4.length + 1) c7) (t ++ t4 ++ [⟨2, 0, 0⟩]) := by
    unfold OwnM
    rw [hl7, mkCs_append, mkCs_append]
    exact hown7
   have HS2 : Hid (∀ t' n' f', Im L .bthL (t ++ t4 ++ [⟨2, 0, 0⟩]) (n : Int) f4 t' n' f' → Im L .bth [] (i : Int) f t' n' f') := fun t' n' f' h => HS.out t' n' f' (.bthM Hch.out (by rw [show (k : Int) + 1 = ((k + 1 : Nat) : Int) by omega]; exact hIm4) h)
   have hb7 : i ≤ n ∧ n ≤ s.size ∧ (t ++ t4 ++ [(⟨2, 0, 0⟩ : Mk)]).length ≤ 2 * (n - i) + 1 := by rw [hl7]; omega
   have Hl7 := hide hl7
   clear hl7 hown7 hg7 hat7 hT6 hG6 hnew6 own6 hal5 hG5 hT5 hown5 hg5 hat5 hGT hT4 hG4 ownT own4 hr4 hIm4 HS hT3 hG own
   go_roundg (s.size - n + 1)
   case measure => go_light; omega
   case rel => go_light; exact ⟨t ++ t4 ++ [⟨2, 0, 0⟩], n, f4, A7, c7, rfl, by rw [Hl7.out], hb7, HS2, by rw [Hl7.out]; exact own7, hT7, hG7⟩
set_option maxHeartbeats 4000000 in
set_option maxRecDepth 100000 in
theorem thens_q (s : ByteArray) (L : List UInt8) (hL : s.data.toList = L) (hl : s.size ≤ 120) (i : Nat) (hi : i ≤ s.size) (HI : ∀ j : Nat, i ≤ j → j ≤ s.size → CallsIm 119 .bth s L j) : CallsIm 105 .thn s L i := by
 intro f R w hT0
 obtain ⟨i0, hi0, hz0, hz1, hz2⟩ := info_parts infoM
 have Hsz := hide (str_size hL)
 have hRl := hT0.rl
 have hRw := hT0.ex
 have HH := hide HI
 have Hc := hide (HI i (Nat.le_refl _) hi f R w hT0)
 clear HI
 go_enter Tryz.func105, Tryz.ntmps105
 go_upto_block 0 with (go_at_call 119; refine Hc.out.mono ?_; rintro e w2 ⟨v, rfl, ⟨A1, c1, t1, n1, f1, rfl, own1, hIm, hT1, hG1⟩⟩)
 have hr := hIm.rng (by have := Hsz.out; omega)
 obtain ⟨n, rfl⟩ : ∃ n : Nat, n1 = (n : Int) := ⟨n1.toNat, by omega⟩
 have HS : Hid (∀ t' n' f', Im L .thnL t1 (n : Int) f1 t' n' f' → Im L .thn [] (i : Int) f t' n' f') := fun t' n' f' h => .thn hIm h
 have hb0 : i ≤ n ∧ n ≤ s.size ∧ t1.length ≤ 2 * (n - i) + 1 := by
  have := Hsz.out
  simp only [List.length_nil] at hr
  omega
 clear hT0 Hc hIm hr
 go_wp2_with fail
 go_loopg [3] (s.size - n + 1) (fun gh s3 wr => ∃ (t : List Mk) (k : Nat) (fk : Bool) (A : Option Addr) (c : Nat), gh = s.size - k + 1 ∧ s3 = .slice A t.length c ∧ (i ≤ k ∧ k ≤ s.size ∧ t.length ≤ 2 * (k - i) + 1) ∧ Hid (∀ t' n' f', Im L .thnL t (k : Int) fk t' n' f' → Im L .thn [] (i : Int) f t' n' f') ∧ OwnM w.heap.size wr (.slice A t.length c) t ∧ TmR wr R s (k : Int) fk ∧ w.grownBy wr (some R))
 case atStart => exact ⟨t1, n, f1, A1, c1, rfl, rfl, hb0, HS, own1, hT1, hG1⟩
 case round =>
  clear HS own1 hT1 hG1 hb0
  obtain ⟨t, k, fk, A, c, rfl, rfl, hb, HS, own, hT, hG⟩ := hrel
  obtain ⟨hb1, hb2, hb3⟩ := hb
  have htk := fun (wq : World) (hq : TmR wq R s (k : Int) fk) => take_c s L hL (by omega) 59 59 rfl (k : Int) (by omega) fk R wq hq
  cases hch : ch L (k : Int) 59
  ·simp only [hch, Bool.false_eq_true, if_false] at htk
   have Htk := hide htk
   have HE := hide (HS.out t (k : Int) fk (.thnD hch))
   clear htk HS hch
   go_wp2_with (go_at_call 120; refine (Htk.out _ hT).mono ?_; rintro e w3 ⟨rfl, hT3, hG3, -⟩)
   go_ret
   exact ⟨_, rfl, ⟨A, c, t, _, _, rfl, own_farR own hG3 hRw, HE.out, hT3, grT hG hG3⟩⟩
  ·simp only [hch, if_true] at htk
   have hk1 : k < s.size := by rw [Hsz.out]; exact ch_nat hch
   rw [show (k : Int) + 1 = ((k + 1 : Nat) : Int) by omega] at htk
   have Htk := hide htk
   have Hch := hide hch
   have Hcall := hide (fun (wq : World) (hq : TmR wq R s ((k + 1 : Nat) : Int) fk) => HH.out (k + 1) (by omega) (by omega) fk R wq hq)
   clear htk hch
   go_upto_region 3 with (go_at_call 120; refine (Htk.out _ hT).mono ?_; rintro e w3 ⟨rfl, hT3, hG3, -⟩)
   replace own := own_farR own hG3 hRw
   replace hG := grT hG hG3
   clear hT hG3 Htk
   go_upto_region 2 with (first
    | (go_at_call 119; refine (Hcall.out _ hT3).mono ?_; rintro e w4 ⟨v, rfl, ⟨A4, c4, t4, n4, f4, rfl, own4, hIm4, hT4, hG4⟩⟩; have ownT := own_farR own hG4 hRw; obtain ⟨g4, hr4⟩ := OwnM.reads own4; have hGT := grT hG hG4; have hr := hIm4.rng (by have := Hsz.out; omega); obtain ⟨n, rfl⟩ : ∃ n : Nat, n4 = (n : Int) := ⟨n4.toNat, by omega⟩; simp only [List.length_nil] at hr; have hsz := Hsz.out; have hb4 : k + 1 ≤ n ∧ n ≤ s.size ∧ t4.length ≤ 2 * (n - (k + 1)) + 1 := (by omega); clear hr hsz)
    | (at_builtin; refine app_list _ rfl (.tmp 8) (.tmp 10) _ rfl w.heap.size 139 i0 _ 3 24 Tryz.underlying99 hi0 hz0 hz1 hz2 rfl (by omega) (.slice A t.length c) t.length (mkCs t) rfl ownT A4 t4.length c4 (mkCs t4) rfl (mkCs_length t4) (csr_news1 hr4) (mkCs_one t4) (by omega) (by omega) (Nat.le_trans hGT.size (Nat.le_refl _)) ?_
       intro A5 c5 w5 hown5 hg5 hat5
       obtain ⟨hT5, hG5⟩ := tm_row hT4 hGT ownT hg5 hRw
       have hal5 : Below w5.heap.size w5 (w5.alloc (.cells #[.int .i64 1, .int .i64 0, .int .i64 0] 139)) := by go_grown
       have own6 := own_below hown5 hal5
       have hnew6 : (w5.alloc (.cells #[.int .i64 1, .int .i64 0, .int .i64 0] 139)).heap[w5.heap.size]? = some (.cells #[.int .i64 1, .int .i64 0, .int .i64 0] 139 (0, 0)) := at_new rfl
       have hT6 := hT5.below hal5
       have hG6 := grT hG5 (grB R hal5))
    | (at_builtin; refine app_list _ rfl (.tmp 11) (.tmp 13) _ rfl w.heap.size 139 i0 _ 3 24 Tryz.underlying99 hi0 hz0 hz1 hz2 rfl (by omega) (.slice A5 (t.length + t4.length) c5) (t.length + t4.length) (mkCs t ++ mkCs t4) rfl own6 (some ⟨w5.heap.size, 0, none⟩) 1 _ (mkCs [⟨1, 0, 0⟩]) rfl rfl (mk_news1 hnew6) (mkCs_one _) (by omega) (by omega) hG6.size ?_
       intro A7 c7 w7 hown7 hg7 hat7
       obtain ⟨hT7, hG7⟩ := tm_row hT6 hG6 own6 hg7 hRw))
   have hl7 : (t ++ t4 ++ [(⟨1, 0, 0⟩ : Mk)]).length = t.length + t4.length + 1 := by simp; omega
   have own7 : OwnM w.heap.size w7 (.slice A7 (t.length + t4.length + 1) c7) (t ++ t4 ++ [⟨1, 0, 0⟩]) := by
    unfold OwnM
    rw [hl7, mkCs_append, mkCs_append]
    exact hown7
   have HS2 : Hid (∀ t' n' f', Im L .thnL (t ++ t4 ++ [⟨1, 0, 0⟩]) (n : Int) f4 t' n' f' → Im L .thn [] (i : Int) f t' n' f') := fun t' n' f' h => HS.out t' n' f' (.thnM Hch.out (by rw [show (k : Int) + 1 = ((k + 1 : Nat) : Int) by omega]; exact hIm4) h)
   have hb7 : i ≤ n ∧ n ≤ s.size ∧ (t ++ t4 ++ [(⟨1, 0, 0⟩ : Mk)]).length ≤ 2 * (n - i) + 1 := by rw [hl7]; omega
   have Hl7 := hide hl7
   clear hl7 hown7 hg7 hat7 hT6 hG6 hnew6 own6 hal5 hG5 hT5 hown5 hg5 hat5 hGT hT4 hG4 ownT own4 hr4 hIm4 HS hT3 hG own
   go_roundg (s.size - n + 1)
   case measure => go_light; omega
   case rel => go_light; exact ⟨t ++ t4 ++ [⟨1, 0, 0⟩], n, f4, A7, c7, rfl, by rw [Hl7.out], hb7, HS2, by rw [Hl7.out]; exact own7, hT7, hG7⟩

theorem numI_nat {s : List UInt8} {n : Nat} {v n1 : Int} {k : Bool} (h : NumI s (n : Int) v n1 k) (hn : n ≤ s.length) : ∃ m : Nat, n1 = (m : Int) ∧ n ≤ m ∧ m ≤ s.length := by
 have := h.rng (by omega)
 exact ⟨n1.toNat, by omega, by omega, by omega⟩
theorem own_mk {w : World} {lo : Nat} {a b c : Int} (h : lo ≤ w.heap.size) : OwnM lo (w.alloc (.cells #[.int .i64 a, .int .i64 b, .int .i64 c] 139)) (.slice (some ⟨w.heap.size, 0, none⟩) 1 1) [⟨a, b, c⟩] :=
 own_blk0 (n := 1) (cs := #[.int .i64 a, .int .i64 b, .int .i64 c]) (at_new rfl) h rfl (by decide)
theorem bel_mk (w : World) (a b c : Int) : Below w.heap.size w (w.alloc (.cells #[.int .i64 a, .int .i64 b, .int .i64 c] 139)) := by go_grown
theorem new_mk (w : World) (a b c : Int) : (w.alloc (.cells #[.int .i64 a, .int .i64 b, .int .i64 c] 139)).heap[w.heap.size]? = some (.cells #[.int .i64 a, .int .i64 b, .int .i64 c] 139 (0, 0)) := at_new rfl
set_option maxHeartbeats 4000000 in
set_option maxRecDepth 100000 in
theorem within_q (s : ByteArray) (L : List UInt8) (hL : s.data.toList = L) (hl : s.size ≤ 120) (i : Nat) (hi : i ≤ s.size) (HI : ∀ j : Nat, i < j → j ≤ s.size → CallsIm 105 .thn s L j) : CallsIm 128 .atm s L i := by
 intro f R w hT0
 obtain ⟨i0, hi0, hz0, hz1, hz2⟩ := info_parts infoM
 have Hsz := hide (str_size hL)
 have hRl := hT0.rl
 have hRw := hT0.ex
 have HH := hide HI
 clear HI
 obtain ⟨q, hq⟩ : ∃ q, ch L (i : Int) 40 = q := ⟨_, rfl⟩
 have htk := take_c s L hL (by omega) 40 40 rfl (i : Int) (by omega) f R w hT0
 rw [hq] at htk
 have Htk := hide htk
 have Hq := hide hq
 clear htk hq
 go_enter Tryz.func128, Tryz.ntmps128
 go_upto_if 7 with (go_at_call 120; refine Htk.out.mono ?_; rintro e w2 ⟨rfl, hT2, hG2, -⟩)
 clear Htk hT0
 go_cut [3] (fun s3 wx => ∃ (t : List Mk) (k : Nat) (fk : Bool) (A : Option Addr) (c : Nat), s3 = .slice A t.length c ∧ (i ≤ k ∧ k ≤ s.size ∧ t.length ≤ 2 * (k - i) + 1) ∧ Hid (∀ t' n' f', Im L .atmL t (k : Int) fk t' n' f' → Im L .atm [] (i : Int) f t' n' f') ∧ OwnM w.heap.size wx (.slice A t.length c) t ∧ TmR wx R s (k : Int) fk ∧ w.grownBy wx (some R))
 case first =>
  cases q
  ·simp only [Bool.false_eq_true, if_false] at hT2
   go_upto_region 7 with (go_at_call 135; refine (number_q s L hL hl i hi f R _ hT2).mono ?_; rintro e w3 ⟨v, n1, kk, rfl, hN, hT3, hG3⟩)
   obtain ⟨n, rfl, hn1, hn2⟩ := numI_nat hN (by have := Hsz.out; omega)
   have hn3 : n ≤ s.size := by have := Hsz.out; omega
   replace hG3 := grT hG2 hG3
   clear hT2 hG2
   obtain ⟨q2, hq2⟩ : ∃ q2, ch L (n : Int) 45 = q2 := ⟨_, rfl⟩
   have htk := take_c s L hL (by omega) 45 45 rfl (n : Int) (by omega) (f && kk) R w3 hT3
   rw [hq2] at htk
   have Htk := hide htk
   clear htk
   go_upto_if 25 with (go_at_call 120; refine Htk.out.mono ?_; rintro e w4 ⟨rfl, hT4, hG4, -⟩)
   replace hG4 := grT hG3 hG4
   clear hT3 hG3 Htk
   cases q2
   ·simp only [Bool.false_eq_true, if_false] at hT4
    have hal : Below w4.heap.size w4 (w4.alloc (.cells #[.int .i64 0, .int .i64 v, .int .i64 v] 139)) := by go_grown
    have hown := own_mk (a := 0) (b := v) (c := v) hG4.size
    have hT5 := hT4.below hal
    have hG5 := grT hG4 (grB R hal)
    have HS : Hid (∀ t' n' f', Im L .atmL [⟨0, v, v⟩] (n : Int) (f && kk) t' n' f' → Im L .atm [] (i : Int) f t' n' f') := fun t' n' f' h => .atmN Hq.out hN hq2 h
    have Hb := hide (show i ≤ n ∧ n ≤ s.size ∧ ([⟨0, v, v⟩] : List Mk).length ≤ 2 * (n - i) + 1 from ⟨hn1, hn3, by simp⟩)
    clear hN hq2
    go_wp2_with fail
    go_meet
    case rel => exact ⟨[⟨0, v, v⟩], n, f && kk, _, 1, rfl, Hb.out, HS, hown, hT5, hG5⟩
   ·simp only [if_true] at hT4
    have hk1 : n < s.size := by rw [Hsz.out]; exact ch_nat hq2
    rw [show (n : Int) + 1 = ((n + 1 : Nat) : Int) by omega] at hT4
    go_upto_region 9 with (go_at_call 135; refine (number_q s L hL hl (n + 1) (by omega) (f && kk) R _ hT4).mono ?_; rintro e w5 ⟨u, n2, jj, rfl, hM, hT5, hG5⟩)
    obtain ⟨p, rfl, hp1, hp2⟩ := numI_nat hM (by have := Hsz.out; omega)
    have hp3 : p ≤ s.size := by have := Hsz.out; omega
    replace hG5 := grT hG4 hG5
    have hal : Below w5.heap.size w5 (w5.alloc (.cells #[.int .i64 0, .int .i64 v, .int .i64 u] 139)) := by go_grown
    have hown := own_mk (a := 0) (b := v) (c := u) hG5.size
    have hT6 := hT5.below hal
    have hG6 := grT hG5 (grB R hal)
    have HS : Hid (∀ t' n' f', Im L .atmL [⟨0, v, u⟩] (p : Int) (f && kk && jj) t' n' f' → Im L .atm [] (i : Int) f t' n' f') := fun t' n' f' h => .atmH Hq.out hN hq2 (by rw [show (n : Int) + 1 = ((n + 1 : Nat) : Int) by omega]; exact hM) h
    have Hb := hide (show i ≤ p ∧ p ≤ s.size ∧ ([⟨0, v, u⟩] : List Mk).length ≤ 2 * (p - i) + 1 from ⟨by omega, hp3, by simp⟩)
    clear hN hq2 hM hT5 hG5 hT4 hG4
    go_wp2_with fail
    go_meet
    case rel => exact ⟨[⟨0, v, u⟩], p, f && kk && jj, _, 1, rfl, Hb.out, HS, hown, hT6, hG6⟩
  ·simp only [if_true] at hT2
   have hk1 : i < s.size := by rw [Hsz.out]; exact ch_nat Hq.out
   rw [show (i : Int) + 1 = ((i + 1 : Nat) : Int) by omega] at hT2
   go_upto_region 4 with (go_at_call 105; refine (HH.out (i + 1) (by omega) (by omega) f R _ hT2).mono ?_; rintro e w3 ⟨x, rfl, ⟨A1, c1, t1, n1, f1, rfl, own1, hIm, hT3, hG3⟩⟩)
   have hr := hIm.rng (by have := Hsz.out; omega)
   obtain ⟨n, rfl⟩ : ∃ n : Nat, n1 = (n : Int) := ⟨n1.toNat, by omega⟩
   have hn : i + 1 ≤ n ∧ n ≤ s.size ∧ t1.length ≤ 2 * (n - (i + 1)) + 1 := by
    have := Hsz.out
    simp only [List.length_nil] at hr
    omega
   replace own1 : OwnM w.heap.size w3 (.slice A1 t1.length c1) t1 := own_less own1 hG2.size
   replace hG3 := grT hG2 hG3
   have hIm' : Im L .thn [] ((i : Int) + 1) f t1 (n : Int) f1 := by rw [show (i : Int) + 1 = ((i + 1 : Nat) : Int) by omega]; exact hIm
   have HIm := hide hIm'
   clear hT2 hG2 hr hIm hIm'
   obtain ⟨q2, hq2⟩ : ∃ q2, ch L (n : Int) 41 = q2 := ⟨_, rfl⟩
   have htk := take_c s L hL (by omega) 41 41 rfl (n : Int) (by omega) f1 R w3 hT3
   rw [hq2] at htk
   have Htk := hide htk
   clear htk
   cases q2
   ·have HS : Hid (∀ t' n' f', Im L .atmL t1 (n : Int) false t' n' f' → Im L .atm [] (i : Int) f t' n' f') := fun t' n' f' h => .atmF Hq.out HIm.out hq2 h
    clear hq2
    go_wp2_with (go_at_call 120; refine Htk.out.mono ?_; rintro e w4 ⟨rfl, hT4, hG4, -⟩; simp only [Bool.false_eq_true, if_false] at hT4; have ct := hT4.c2; have cft := hT4.cf 2)
    have hT5 := hT4.set2 false
    have hG5 := grT (grT hG3 hG4) (grown_set w4 ⟨R, 2, none⟩ (.bool false))
    have own5 := own_farR (own_farR own1 hG4 hRw) (grown_set w4 ⟨R, 2, none⟩ (.bool false)) hRw
    go_meet
    case rel => exact ⟨t1, n, false, A1, c1, rfl, ⟨by omega, hn.2.1, by omega⟩, HS, own5, hT5, hG5⟩
   ·have HS : Hid (∀ t' n' f', Im L .atmL t1 ((n : Int) + 1) f1 t' n' f' → Im L .atm [] (i : Int) f t' n' f') := fun t' n' f' h => .atmB Hq.out HIm.out hq2 h
    have hk2 : n < s.size := by rw [Hsz.out]; exact ch_nat hq2
    clear hq2
    go_wp2_with (go_at_call 120; refine Htk.out.mono ?_; rintro e w4 ⟨rfl, hT4, hG4, -⟩; simp only [if_true] at hT4; have ct := hT4.c2; have cft := hT4.cf 2)
    have hT5 := hT4.set2 f1
    have hG5 := grT (grT hG3 hG4) (grown_set w4 ⟨R, 2, none⟩ (.bool f1))
    have own5 := own_farR (own_farR own1 hG4 hRw) (grown_set w4 ⟨R, 2, none⟩ (.bool f1)) hRw
    rw [show (n : Int) + 1 = ((n + 1 : Nat) : Int) by omega] at HS hT5
    go_meet
    case rel => exact ⟨t1, n + 1, f1, A1, c1, rfl, ⟨by omega, by omega, by omega⟩, HS, own5, hT5, hG5⟩
 case rest =>
  clear hT2 hG2
  obtain ⟨t1, n, f1, A1, c1, rfl, hb0, HS, own1, hT1, hG1⟩ := hcut
  go_wp2_with fail
  go_loopg [3] (s.size - n + 1) (fun gh s3 wr => ∃ (t : List Mk) (k : Nat) (fk : Bool) (A : Option Addr) (c : Nat), gh = s.size - k + 1 ∧ s3 = .slice A t.length c ∧ (i ≤ k ∧ k ≤ s.size ∧ t.length ≤ 2 * (k - i) + 1) ∧ Hid (∀ t' n' f', Im L .atmL t (k : Int) fk t' n' f' → Im L .atm [] (i : Int) f t' n' f') ∧ OwnM w.heap.size wr (.slice A t.length c) t ∧ TmR wr R s (k : Int) fk ∧ w.grownBy wr (some R))
  case atStart => exact ⟨t1, n, f1, A1, c1, rfl, rfl, hb0, HS, own1, hT1, hG1⟩
  case round =>
   clear HS own1 hT1 hG1 hb0
   obtain ⟨t, k, fk, A, c, rfl, rfl, hb, HS, own, hT, hG⟩ := hrel
   obtain ⟨hb1, hb2, hb3⟩ := hb
   have htk := take_c s L hL (by omega) 60 60 rfl (k : Int) (by omega) fk R _ hT
   cases hch : ch L (k : Int) 60
   ·simp only [hch, Bool.false_eq_true, if_false] at htk
    have Htk := hide htk
    have HE := hide (HS.out t (k : Int) fk (.atmD hch))
    clear htk HS hch
    go_wp2_with (go_at_call 120; refine Htk.out.mono ?_; rintro e w3 ⟨rfl, hT3, hG3, -⟩)
    go_ret
    exact ⟨_, rfl, ⟨A, c, t, _, _, rfl, own_farR own hG3 hRw, HE.out, hT3, grT hG hG3⟩⟩
   ·simp only [hch, if_true] at htk
    have hk1 : k < s.size := by rw [Hsz.out]; exact ch_nat hch
    rw [show (k : Int) + 1 = ((k + 1 : Nat) : Int) by omega] at htk
    have Htk := hide htk
    have Hch := hide hch
    clear htk hch
    go_upto_region 11 with (go_at_call 120; refine Htk.out.mono ?_; rintro e w3 ⟨rfl, hT3, hG3, -⟩)
    replace own := own_farR own hG3 hRw
    replace hG := grT hG hG3
    clear hT hG3 Htk
    go_upto_region 10 with (first
     | (go_at_call 135; refine (number_q s L hL hl (k + 1) (by omega) fk R _ hT3).mono ?_; rintro e w4 ⟨v, n1, kk, rfl, hN, hT4, hG4⟩; have ownT := own_farR own hG4 hRw; have hGT := grT hG hG4; have hal4 := bel_mk w4 3 0 v; have own5 := own_below ownT hal4; have hT5 := hT4.below hal4; have hG5 := grT hGT (grB R hal4); have hnew5 := new_mk w4 3 0 v)
     | (at_builtin; refine app_list _ rfl (.tmp 34) (.tmp 38) _ rfl w.heap.size 139 i0 _ 3 24 Tryz.underlying99 hi0 hz0 hz1 hz2 rfl (by omega) (.slice A t.length c) t.length (mkCs t) rfl own5 (some ⟨w4.heap.size, 0, none⟩) 1 _ (mkCs [⟨3, 0, v⟩]) rfl rfl (mk_news1 hnew5) (mkCs_one _) (by omega) (by omega) hG5.size ?_
        intro A7 c7 w7 hown7 hg7 hat7
        obtain ⟨hT7, hG7⟩ := tm_row hT5 hG5 own5 hg7 hRw))
    obtain ⟨n, rfl, hn1, hn2⟩ := numI_nat hN (by have := Hsz.out; omega)
    have hn3 : n ≤ s.size := by have := Hsz.out; omega
    have hl7 : (t ++ [(⟨3, 0, v⟩ : Mk)]).length = t.length + 1 := by simp
    have own7 : OwnM w.heap.size w7 (.slice A7 (t.length + 1) c7) (t ++ [⟨3, 0, v⟩]) := by
     unfold OwnM
     rw [hl7, mkCs_append]
     exact hown7
    have HS2 : Hid (∀ t' n' f', Im L .atmL (t ++ [⟨3, 0, v⟩]) (n : Int) (fk && kk) t' n' f' → Im L .atm [] (i : Int) f t' n' f') := fun t' n' f' h => HS.out t' n' f' (.atmM Hch.out (by rw [show (k : Int) + 1 = ((k + 1 : Nat) : Int) by omega]; exact hN) h)
    have hb7 : i ≤ n ∧ n ≤ s.size ∧ (t ++ [(⟨3, 0, v⟩ : Mk)]).length ≤ 2 * (n - i) + 1 := by rw [hl7]; omega
    have Hl7 := hide hl7
    clear hl7 hown7 hg7 hat7 own5 hal4 hT5 hG5 hnew5 hGT hT4 hG4 ownT hN HS hT3 hG own
    go_roundg (s.size - n + 1)
    case measure => go_light; omega
    case rel => go_light; exact ⟨t ++ [⟨3, 0, v⟩], n, fk && kk, A7, c7, rfl, by rw [Hl7.out], hb7, HS2, by rw [Hl7.out]; exact own7, hT7, hG7⟩
theorem thens_all (s : ByteArray) (L : List UInt8) (hL : s.data.toList = L) (hl : s.size ≤ 120) : ∀ (N i : Nat), s.size - i ≤ N → i ≤ s.size → CallsIm 105 .thn s L i := by
 intro N
 induction N with
 | zero => exact fun i h1 h2 => thens_q s L hL hl i h2 fun j hj hj2 => boths_q s L hL hl j hj2 fun k hk hk2 => within_q s L hL hl k hk2 fun l hl1 hl2 => absurd hl2 (by omega)
 | succ N ih => exact fun i h1 h2 => thens_q s L hL hl i h2 fun j hj hj2 => boths_q s L hL hl j hj2 fun k hk hk2 => within_q s L hL hl k hk2 fun l hl1 hl2 => ih l (by omega) hl2
end Go.Proofs.YtmnajkhoacogjaaGreatDoor
