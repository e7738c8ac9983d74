/-
 impl: the text of a part.
 impl: the text of a part, whole; TermText.
 impl: ReadTerm.
-/
import Derived.Test.YtmnajkhoacogjaaGreatDoorL80
import Derived.Test.YtmnajkhoacogjaaGreatDoorR78
import Derived.Test.YtmnajkhoacogjaaGreatDoorL1c
import Derived.Test.YtmnajkhoacogjaaGreatDoorS91
import Derived.Test.YtmnajkhoacogjaaGreatDoorD70
import Derived.Test.YtmnajkhoacogjaaGreatDoorL91
namespace Go.Proofs.YtmnajkhoacogjaaGreatDoor
set_option linter.unusedVariables false
set_option linter.unusedSimpArgs false
open Go Go.RowKit Pp

theorem dec_num (k : Nat) (hk : k < 100) : Lib.decDigits k = num (k : Int) := by
 unfold num
 rw [if_neg (by omega), Int.toNat_natCast]
 unfold num2
 by_cases h : k < 10
 ·rw [if_pos h, Lib.decDigits, dif_pos h]; rfl
 ·rw [if_neg h, Lib.decDigits, dif_neg h, Lib.decDigits, dif_pos (by omega)]; rfl
theorem itoa_c (v : Int) (hv : 0 ≤ v ∧ v ≤ 19) (w : World) : Calls Tryz.prog 130 #[.int .i64 v] w fun e w' => e = .returned (txt (num v)) ∧ w' = w := by
 obtain ⟨k, rfl⟩ := Int.eq_ofNat_of_zero_le hv.1
 refine (show Calls Tryz.prog 130 #[.int .i64 (k : Int)] w _ from Any.strconv_Itoa_small lays171 k (by omega) w).mono ?_
 rintro e w' ⟨rfl, rfl⟩
 exact ⟨by rw [dec_num k (by omega)]; rfl, rfl⟩
theorem mark_in1 (a : Tm) : decide (a.mark.k ∈ ([1] : List Int)) = decide (a.binds < 1) := by cases a <;> simp [Tm.mark, Tm.binds]
theorem mark_in2 (a : Tm) : decide (a.mark.k ∈ ([1, 2] : List Int)) = decide (a.binds < 2) := by cases a <;> simp [Tm.mark, Tm.binds]
set_option maxHeartbeats 1000000 in
theorem wrapped_of (a : Tm) (p : Nat) (ks : List Int) (A : Option Addr) (g c : Nat) (w : World) (q : Bool) (hq : decide (a.mark.k ∈ ks) = q) (hks : ks.length ≤ 10) (hl : a.text.length ≤ 1000) (hP : PtR w w.heap.size a p) (hK : IntsR w w.heap.size g 0 A ks)
  (H : Calls Tryz.prog 121 #[.pointer (some ⟨p, 0, none⟩)] w fun e w' => e = .returned (txt a.text) ∧ Below w.heap.size w w') :
  Calls Tryz.prog 129 #[.pointer (some ⟨p, 0, none⟩), .slice A ks.length c] w fun e w' => e = .returned (txt (brk q a.text)) ∧ Below w.heap.size w w' := by
 obtain ⟨A1, c1, b, o, ⟨hat, d0, d1, d2, d3⟩, -, -⟩ := hP.opened
 have hc := contains_c ks a.mark.k A g 0 c _ w (by omega) (Nat.le_refl _) hK
 rw [hq] at hc
 have HH := hide H
 have Hc := hide hc
 clear hc H d1 d2 d3
 obtain ⟨m, hm⟩ : ∃ m, a.mark.k = m := ⟨_, rfl⟩
 rw [hm] at d0 Hc
 obtain ⟨t, ht⟩ : ∃ t, a.text = t := ⟨_, rfl⟩
 rw [ht] at HH hl ⊢
 clear hm ht hq hP
 go_enter Tryz.func129, Tryz.ntmps129
 cases q
 ·go_wp2_with (first
   | (go_at_call 136; refine Hc.out.mono ?_; rintro e w2 ⟨rfl, hw2⟩; obtain rfl := hw2.symm; clear hw2)
   | (go_at_call 121; refine HH.out.mono ?_; rintro e w3 ⟨rfl, hb⟩; unfold txt))
  go_ret
  exact ⟨rfl, hb⟩
 ·go_wp2_with (first
   | (go_at_call 136; refine Hc.out.mono ?_; rintro e w2 ⟨rfl, hw2⟩; obtain rfl := hw2.symm; clear hw2)
   | (go_at_call 121; refine HH.out.mono ?_; rintro e w3 ⟨rfl, hb⟩; unfold txt))
  go_ret
  refine ⟨?_, hb⟩
  rw [show (⟨#[40]⟩ : ByteArray) = ⟨[(40 : UInt8)].toArray⟩ from rfl, show (⟨#[41]⟩ : ByteArray) = ⟨[(41 : UInt8)].toArray⟩ from rfl]
  simp only [bytes_app]
  rfl

theorem s40 : (⟨#[45]⟩ : ByteArray) = ⟨[(45 : UInt8)].toArray⟩ := rfl
theorem text_step (l h : Int) (hf : (Tm.step l h).fine) (p : Nat) (w : World) (hP : PtR w w.heap.size (.step l h) p) :
  Calls Tryz.prog 121 #[.pointer (some ⟨p, 0, none⟩)] w fun e w' => e = .returned (txt (Tm.step l h).text) ∧ Below w.heap.size w w' := by
 obtain ⟨A, c, ⟨hat, d0, d1, d2, d3⟩⟩ := hP
 dsimp only at d0 d1 d2
 obtain ⟨f1, f2, f3⟩ := hf
 have hc1 := fun wq => itoa_c l (by omega) wq
 have hc2 := fun wq => itoa_c h (by omega) wq
 have hl1 := num_len l (by omega)
 have hl2 := num_len h (by omega)
 have Hc1 := hide hc1
 have Hc2 := hide hc2
 have hat' : p < w.heap.size := hat
 clear hc1 hc2 d3 hat
 by_cases he : l = h
 ·subst he
  have e1 : (Tm.step l l).text = num l := by unfold Tm.text; rw [if_pos rfl]
  rw [e1]
  generalize num l = nl at Hc1 Hc2 hl1 hl2
  go_enter Tryz.func121, Tryz.ntmps121
  go_upto_region 9 with (go_at_call 130; refine (Hc1.out _).mono ?_; rintro e w2 ⟨rfl, hw2⟩; obtain rfl := hw2.symm; clear hw2; unfold txt)
  go_quiet (fail)
  go_wp2_with fail
  go_ret
  exact ⟨rfl, bel_drewN w _⟩
 ·have e1 : (Tm.step l h).text = num l ++ 45 :: num h := by unfold Tm.text; rw [if_neg he]
  rw [e1]
  generalize num l = nl at Hc1 hl1
  generalize num h = nh at Hc2 hl2
  have hne : (h != l) = true := by simp; exact fun e => he e.symm
  have hnf : (h == l) = false := by simp; exact fun e => he e.symm
  go_enter Tryz.func121, Tryz.ntmps121
  go_upto_region 9 with (go_at_call 130; refine (Hc1.out _).mono ?_; rintro e w2 ⟨rfl, hw2⟩; obtain rfl := hw2.symm; clear hw2; unfold txt)
  go_quiet (fail)
  have hdq := bel_drewN w nq
  have d2' := ((bcell hdq).1 p 2 hat').trans d2
  clear hne hnf
  go_wp2_with (go_at_call 130; refine (Hc2.out _).mono ?_; rintro e w3 ⟨rfl, hw3⟩; obtain rfl := hw3.symm; clear hw3; unfold txt)
  go_ret
  refine ⟨?_, hdq⟩
  rw [s40]
  simp only [bytes_app]
  simp [txt]
theorem ints1 {w : World} {lo : Nat} : ∃ g, IntsR (w.alloc (.cells #[.int .i64 1] 3)) (w.alloc (.cells #[.int .i64 1] 3)).heap.size g 0 (some ⟨w.heap.size, 0, none⟩) [1] :=
 own_IntsR (c := 1) (own_blk0 (base := 0) (n := 1) (cs := #[.int .i64 1]) (at_new rfl) (Nat.zero_le _) rfl (by decide))
theorem ints2 {w : World} {lo : Nat} : ∃ g, IntsR (w.alloc (.cells #[.int .i64 1, .int .i64 2] 3)) (w.alloc (.cells #[.int .i64 1, .int .i64 2] 3)).heap.size g 0 (some ⟨w.heap.size, 0, none⟩) [1, 2] :=
 own_IntsR (c := 2) (own_blk0 (base := 0) (n := 2) (cs := #[.int .i64 1, .int .i64 2]) (at_new rfl) (Nat.zero_le _) rfl (by decide))
set_option maxHeartbeats 4000000 in
set_option maxRecDepth 100000 in
theorem text_wth (a : Tm) (h : Int) (hf : (Tm.wth a h).fine) (hs : a.size ≤ 20) (p : Nat) (w : World) (hP : PtR w w.heap.size (.wth a h) p)
  (H : ∀ (q : Nat) (w' : World), PtR w' w'.heap.size a q → Calls Tryz.prog 121 #[.pointer (some ⟨q, 0, none⟩)] w' fun e w'' => e = .returned (txt a.text) ∧ Below w'.heap.size w' w'') :
  Calls Tryz.prog 121 #[.pointer (some ⟨p, 0, none⟩)] w fun e w' => e = .returned (txt (Tm.wth a h).text) ∧ Below w.heap.size w w' := by
 obtain ⟨A, c, b, o, q, ⟨hat, d0, d1, d2, d3⟩, rfl, hb, hq, hPa⟩ := hP
 dsimp only at d0 d1 d2
 obtain ⟨fa, f1, f2⟩ := hf
 have hc2 := fun wq => itoa_c h (by omega) wq
 have hl2 := num_len h (by omega)
 have hla := text_len fa
 have hlb := brk_len (decide (a.binds < 2)) a.text
 have e1 : (Tm.wth a h).text = brk (decide (a.binds < 2)) a.text ++ 60 :: num h := rfl
 rw [e1]
 have hw2 := fun (wq : World) (g : Nat) (A' : Option Addr) (hp : PtR wq wq.heap.size a q) (hk : IntsR wq wq.heap.size g 0 A' [1, 2]) => wrapped_of a q [1, 2] A' g 2 wq (decide (a.binds < 2)) (mark_in2 a) (by decide) (by omega) hp hk (H q wq hp)
 generalize brk (decide (a.binds < 2)) a.text = ta at hw2 hlb
 generalize num h = nh at hc2 hl2
 have Hc2 := hide hc2
 have Hw2 := hide hw2
 have hbl : b < w.heap.size := hb
 have hpl : p < w.heap.size := hat
 have hq' : w.cell? ⟨b, o, none⟩ = some (.pointer (some ⟨q, 0, none⟩)) := hq
 have hPa' : PtR w w.heap.size a q := hPa
 clear hc2 hw2 hat hb e1 H hPa hq
 go_enter Tryz.func121, Tryz.ntmps121
 go_upto_region 7 with fail
 refine wp_regionE (fun w' => w'.cell? ⟨p, 2, none⟩ = some (.int .i64 h) ∧ w'.cell? ⟨p, 3, none⟩ = some (.slice (some ⟨b, o, none⟩) 1 c) ∧ w'.cell? ⟨b, o, none⟩ = some (.pointer (some ⟨q, 0, none⟩))) 16 (by kernel_rfl) ?_
 change wpE _ _ _ _ _ _ 17 #[false, false, false, false, false, false, false, false, false, false, false, false, false, false, false, false, false] _ _
 have hdr : Below w.heap.size w w.drew := by go_grown
 generalize w.drew = wd at hdr ⊢
 have hS0 : wd.cell? ⟨p, 2, none⟩ = some (.int .i64 h) ∧ wd.cell? ⟨p, 3, none⟩ = some (.slice (some ⟨b, o, none⟩) 1 c) ∧ wd.cell? ⟨b, o, none⟩ = some (.pointer (some ⟨q, 0, none⟩)) := ⟨((bcell hdr).1 _ _ hpl).trans d2, ((bcell hdr).1 _ _ hpl).trans d3, ((bcell hdr).1 _ _ hbl).trans hq'⟩
 refine wpE_tk (v := ?_) 0 [1, 2, 3, 4, 5, 7, 14, 16] (hy := ?_) (hS := hS0) (h := ?_)
 rotate_left
 ·intro w' hSw
  obtain ⟨hs0, hs1, hs2⟩ := hSw
  simp only [xg0, xg1, xg2]
  go_simp
  try rw [if_neg (by omega)]
  all_goals with_reducible rfl
 simp only [xg0, xg1, xg2, Act.put, xs0, xs1, xs2]
 refine wpE_tk (v := ?_) 9 [10, 11, 12, 13, 14, 16] (hy := ?_) (hS := hS0) (h := ?_)
 rotate_left
 ·intro w' hSw
  obtain ⟨hs0, hs1, hs2⟩ := hSw
  simp only [xg0, xg1, xg2]
  go_simp
  try rw [if_neg (by omega)]
  all_goals with_reducible rfl
 simp only [xg0, xg1, xg2, Act.put, xs0, xs1, xs2]
 refine wpE_tk (v := ?_) 1 [2, 3, 4, 5, 7, 14, 16] (hy := ?_) (hS := hS0) (h := ?_)
 rotate_left
 ·intro w' hSw
  obtain ⟨hs0, hs1, hs2⟩ := hSw
  simp only [xg0, xg1, xg2]
  go_simp
  try rw [if_neg (by omega)]
  all_goals with_reducible rfl
 simp only [xg0, xg1, xg2, Act.put, xs0, xs1, xs2]
 refine wpE_tk (v := ?_) 2 [3, 4, 5, 7, 14, 16] (hy := ?_) (hS := hS0) (h := ?_)
 rotate_left
 ·intro w' hSw
  obtain ⟨hs0, hs1, hs2⟩ := hSw
  simp only [xg0, xg1, xg2]
  go_simp
  try rw [if_neg (by omega)]
  all_goals with_reducible rfl
 simp only [xg0, xg1, xg2, Act.put, xs0, xs1, xs2]
 refine wpE_tk (v := ?_) 3 [4, 5, 7, 14, 16] (hy := ?_) (hS := hS0) (h := ?_)
 rotate_left
 ·intro w' hSw
  obtain ⟨hs0, hs1, hs2⟩ := hSw
  simp only [xg0, xg1, xg2]
  go_simp
  try rw [if_neg (by omega)]
  all_goals with_reducible rfl
 simp only [xg0, xg1, xg2, Act.put, xs0, xs1, xs2]
 refine wpE_tk (v := ?_) 4 [5, 7, 14, 16] (hy := ?_) (hS := hS0) (h := ?_)
 rotate_left
 ·intro w' hSw
  obtain ⟨hs0, hs1, hs2⟩ := hSw
  simp only [xg0, xg1, xg2]
  go_simp
  try rw [if_neg (by omega)]
  all_goals with_reducible rfl
 simp only [xg0, xg1, xg2, Act.put, xs0, xs1, xs2]
 refine wpE_tk (v := ?_) 5 [7, 14, 16] (hy := ?_) (hS := hS0) (h := ?_)
 rotate_left
 ·intro w' hSw
  obtain ⟨hs0, hs1, hs2⟩ := hSw
  simp only [xg0, xg1, xg2]
  go_simp
  try rw [if_neg (by omega)]
  all_goals with_reducible rfl
 simp only [xg0, xg1, xg2, Act.put, xs0, xs1, xs2]
 refine wpE_tk (v := ?_) 10 [11, 12, 13, 14, 16] (hy := ?_) (hS := hS0) (h := ?_)
 rotate_left
 ·intro w' hSw
  obtain ⟨hs0, hs1, hs2⟩ := hSw
  simp only [xg0, xg1, xg2]
  go_simp
  try rw [if_neg (by omega)]
  all_goals with_reducible rfl
 simp only [xg0, xg1, xg2, Act.put, xs0, xs1, xs2]
 refine wpE_tk (v := ?_) 11 [12, 13, 14, 16] (hy := ?_) (hS := hS0) (h := ?_)
 rotate_left
 ·intro w' hSw
  obtain ⟨hs0, hs1, hs2⟩ := hSw
  simp only [xg0, xg1, xg2]
  go_simp
  try rw [if_neg (by omega)]
  all_goals with_reducible rfl
 simp only [xg0, xg1, xg2, Act.put, xs0, xs1, xs2]
 refine wpE_tk (v := ?_) 12 [13, 14, 16] (hy := ?_) (hS := hS0) (h := ?_)
 rotate_left
 ·intro w' hSw
  obtain ⟨hs0, hs1, hs2⟩ := hSw
  simp only [xg0, xg1, xg2]
  go_simp
  try rw [if_neg (by omega)]
  all_goals with_reducible rfl
 simp only [xg0, xg1, xg2, Act.put, xs0, xs1, xs2]
 refine wpE_tk (v := ?_) 13 [14, 16] (hy := ?_) (hS := hS0) (h := ?_)
 rotate_left
 ·intro w' hSw
  obtain ⟨hs0, hs1, hs2⟩ := hSw
  simp only [xg0, xg1, xg2]
  go_simp
  try rw [if_neg (by omega)]
  all_goals with_reducible rfl
 simp only [xg0, xg1, xg2, Act.put, xs0, xs1, xs2]
 refine wpE_step' 6 (of_decide_eq_true (by kernel_rfl)) (by kernel_rfl) (by kernel_rfl) (fun K hK => ?_)
 simp only [xg0, xg1, xg2]
 go_simp
 have hal : Below wd.heap.size wd (wd.alloc (.cells #[.int .i64 1, .int .i64 2] 3)) := by go_grown
 obtain ⟨g, hI⟩ := ints2 (w := wd) (lo := 0)
 have hB1 := bthen hdr hal
 refine hK.out _ _ (.inr ⟨((bcell hal).1 _ _ (Nat.lt_of_lt_of_le hpl hdr.size)).trans hS0.1, ((bcell hal).1 _ _ (Nat.lt_of_lt_of_le hpl hdr.size)).trans hS0.2.1, ((bcell hal).1 _ _ (Nat.lt_of_lt_of_le hbl hdr.size)).trans hS0.2.2⟩) ?_
 clear hK K hS0
 simp only [Act.put, xs0, xs1, xs2]
 generalize wd.alloc (.cells #[.int .i64 1, .int .i64 2] 3) = we at hB1 hI ⊢
 refine wpE_step' 7 (of_decide_eq_true (by kernel_rfl)) (by kernel_rfl) (by kernel_rfl) (fun K hK => ?_)
 simp only [xg0, xg1, xg2]
 go_simp
 go_at_call 129
 refine (Hw2.out we g _ (hPa'.next hB1) hI).mono ?_
 rintro e w3 ⟨rfl, hb3⟩
 unfold txt
 have hB3 := bthen hB1 hb3
 refine hK.out _ _ (.inr ⟨((bcell hB3).1 _ _ hpl).trans d2, ((bcell hB3).1 _ _ hpl).trans d3, ((bcell hB3).1 _ _ hbl).trans hq'⟩) ?_
 clear hK K
 simp only [Act.put, xs0, xs1, xs2]
 have hS0 : w3.cell? ⟨p, 2, none⟩ = some (.int .i64 h) ∧ w3.cell? ⟨p, 3, none⟩ = some (.slice (some ⟨b, o, none⟩) 1 c) ∧ w3.cell? ⟨b, o, none⟩ = some (.pointer (some ⟨q, 0, none⟩)) := ⟨((bcell hB3).1 _ _ hpl).trans d2, ((bcell hB3).1 _ _ hpl).trans d3, ((bcell hB3).1 _ _ hbl).trans hq'⟩
 refine wpE_tk (v := ?_) 8 [15, 16] (hy := ?_) (hS := hS0) (h := ?_)
 rotate_left
 ·intro w' hSw
  obtain ⟨hs0, hs1, hs2⟩ := hSw
  simp only [xg0, xg1, xg2]
  go_simp
  try rw [if_neg (by omega)]
  all_goals with_reducible rfl
 simp only [xg0, xg1, xg2, Act.put, xs0, xs1, xs2]
 refine wpE_step' 14 (of_decide_eq_true (by kernel_rfl)) (by kernel_rfl) (by kernel_rfl) (fun K hK => ?_)
 simp only [xg0, xg1, xg2]
 go_simp
 go_at_call 130
 refine (Hc2.out _).mono ?_
 rintro e w4 ⟨rfl, hw4⟩
 obtain rfl := hw4.symm
 clear hw4
 unfold txt
 refine hK.out _ _ (.inr hS0) ?_
 clear hK K
 simp only [Act.put, xs0, xs1, xs2]
 refine wpE_tk (v := ?_) 15 [16] (hy := ?_) (hS := hS0) (h := ?_)
 rotate_left
 ·intro w' hSw
  obtain ⟨hs0, hs1, hs2⟩ := hSw
  simp only [xg0, xg1, xg2]
  go_simp
  try rw [if_neg (by omega)]
  all_goals with_reducible rfl
 simp only [xg0, xg1, xg2, Act.put, xs0, xs1, xs2]
 refine wpE_step' 16 (of_decide_eq_true (by kernel_rfl)) (by kernel_rfl) (by kernel_rfl) (fun K hK => ?_)
 simp only [xg0, xg1, xg2]
 go_simp
 refine hK.out _ _ (.inl rfl) ?_
 clear hK K
 simp only [Act.put, xs0, xs1, xs2]
 refine wpE_done (by kernel_rfl) ?_ _
 go_wp2_with fail
 go_ret
 refine ⟨?_, hB3⟩
 rw [show (⟨#[60]⟩ : ByteArray) = ⟨[(60 : UInt8)].toArray⟩ from rfl]
 simp only [bytes_app]
 simp [txt]
def B1 (z : Value) (wx : World) : Prop := ∃ g G, z = .slice (some ⟨G, 0, none⟩) 1 1 ∧ IntsR wx wx.heap.size g 0 (some ⟨G, 0, none⟩) [1]
theorem B1.below {z : Value} {wx w' : World} (h : B1 z wx) (hb : Below wx.heap.size wx w') : B1 z w' := by
 obtain ⟨g, G, e, hI⟩ := h
 exact ⟨g, G, e, (hI.below hb).more hb.size⟩
theorem b1_new (w : World) : B1 (.slice (some ⟨w.heap.size, 0, none⟩) 1 1) (w.alloc (.cells #[.int .i64 1] 3)) := by
 obtain ⟨g, hI⟩ := ints1 (w := w) (lo := 0)
 exact ⟨g, _, rfl, hI⟩
def B2 (z : Value) (wx : World) : Prop := ∃ g G, z = .slice (some ⟨G, 0, none⟩) 2 2 ∧ IntsR wx wx.heap.size g 0 (some ⟨G, 0, none⟩) [1, 2]
theorem B2.below {z : Value} {wx w' : World} (h : B2 z wx) (hb : Below wx.heap.size wx w') : B2 z w' := by
 obtain ⟨g, G, e, hI⟩ := h
 exact ⟨g, G, e, (hI.below hb).more hb.size⟩
theorem b2_new (w : World) : B2 (.slice (some ⟨w.heap.size, 0, none⟩) 2 2) (w.alloc (.cells #[.int .i64 1, .int .i64 2] 3)) := by
 obtain ⟨g, hI⟩ := ints2 (w := w) (lo := 0)
 exact ⟨g, _, rfl, hI⟩
set_option maxHeartbeats 4000000 in
set_option maxRecDepth 100000 in
theorem text_thn (a a' : Tm) (hf : (Tm.thn a a').fine) (hs : a.size ≤ 20 ∧ a'.size ≤ 20) (p : Nat) (w : World) (hP : PtR w w.heap.size (.thn a a') p)
  (H : ∀ (q : Nat) (w' : World), PtR w' w'.heap.size a q → Calls Tryz.prog 121 #[.pointer (some ⟨q, 0, none⟩)] w' fun e w'' => e = .returned (txt a.text) ∧ Below w'.heap.size w' w'')
  (H' : ∀ (q : Nat) (w' : World), PtR w' w'.heap.size a' q → Calls Tryz.prog 121 #[.pointer (some ⟨q, 0, none⟩)] w' fun e w'' => e = .returned (txt a'.text) ∧ Below w'.heap.size w' w'') :
  Calls Tryz.prog 121 #[.pointer (some ⟨p, 0, none⟩)] w fun e w' => e = .returned (txt (Tm.thn a a').text) ∧ Below w.heap.size w w' := by
 obtain ⟨A, c, b, o, q, q', ⟨hat, d0, d1, d2, d3⟩, rfl, hb, hq, hqq, hPa, hPb⟩ := hP
 dsimp only at d0 d1 d2
 obtain ⟨fa, fb⟩ := hf
 have hla := text_len fa
 have hlb := text_len fb
 have hlc := brk_len (decide (a'.binds < 1)) a'.text
 have e1 : (Tm.thn a a').text = a.text ++ 59 :: brk (decide (a'.binds < 1)) a'.text := rfl
 rw [e1]
 have hw2 := fun (wq : World) (g : Nat) (A' : Option Addr) (hp : PtR wq wq.heap.size a' q') (hk : IntsR wq wq.heap.size g 0 A' [1]) => wrapped_of a' q' [1] A' g 1 wq (decide (a'.binds < 1)) (mark_in1 a') (by decide) (by omega) hp hk (H' q' wq hp)
 have hw1 := fun (wq : World) (hp : PtR wq wq.heap.size a q) => H q wq hp
 generalize brk (decide (a'.binds < 1)) a'.text = tb at hw2 hlc
 generalize a.text = ta at hw1 hla
 have Hw1 := hide hw1
 have Hw2 := hide hw2
 clear hw1 hw2 H H' e1
 have hbl : b < w.heap.size := hb
 have hpl : p < w.heap.size := hat
 have h1' : w.cell? ⟨b, o, none⟩ = some (.pointer (some ⟨q, 0, none⟩)) := hq
 have h2' : w.cell? ⟨b, o + 1, none⟩ = some (.pointer (some ⟨q', 0, none⟩)) := hqq
 have hPa' : PtR w w.heap.size a q := hPa
 have hPb' : PtR w w.heap.size a' q' := hPb
 have HSS : Hid (∀ wx : World, Below w.heap.size w wx → wx.cell? ⟨p, 3, none⟩ = some (.slice (some ⟨b, o, none⟩) 2 c) ∧ wx.cell? ⟨b, o, none⟩ = some (.pointer (some ⟨q, 0, none⟩)) ∧ wx.cell? ⟨b, o + 1, none⟩ = some (.pointer (some ⟨q', 0, none⟩))) := fun wx hx => ⟨((bcell hx).1 _ _ hpl).trans d3, ((bcell hx).1 _ _ hbl).trans h1', ((bcell hx).1 _ _ hbl).trans h2'⟩
 clear hat hb hPa hPb hq hqq h1' h2'
 go_enter Tryz.func121, Tryz.ntmps121
 go_upto_region 3 with fail
 refine wp_regionE (fun w' => w'.cell? ⟨p, 3, none⟩ = some (.slice (some ⟨b, o, none⟩) 2 c) ∧ w'.cell? ⟨b, o, none⟩ = some (.pointer (some ⟨q, 0, none⟩)) ∧ w'.cell? ⟨b, o + 1, none⟩ = some (.pointer (some ⟨q', 0, none⟩))) 17 (by kernel_rfl) ?_
 change wpE _ _ _ _ _ _ 18 #[false, false, false, false, false, false, false, false, false, false, false, false, false, false, false, false, false, false] _ _
 have hdr : Below w.heap.size w w.drew := by go_grown
 have hS0 := HSS.out _ hdr
 generalize w.drew = wd at hdr hS0 ⊢
 refine wpE_tk (v := ?_) 0 [1, 2, 3, 4, 5, 6, 15, 17] (hy := ?_) (hS := hS0) (h := ?_)
 rotate_left
 ·intro w' hSw
  obtain ⟨hs0, hs1, hs2⟩ := hSw
  simp only [xg0, xg1, xg2]
  go_simp
  try rw [if_neg (by omega)]
  all_goals with_reducible rfl
 simp only [xg0, xg1, xg2, Act.put, xs0, xs1, xs2]
 refine wpE_tk (v := ?_) 8 [9, 10, 11, 12, 13, 15, 17] (hy := ?_) (hS := hS0) (h := ?_)
 rotate_left
 ·intro w' hSw
  obtain ⟨hs0, hs1, hs2⟩ := hSw
  simp only [xg0, xg1, xg2]
  go_simp
  try rw [if_neg (by omega)]
  all_goals with_reducible rfl
 simp only [xg0, xg1, xg2, Act.put, xs0, xs1, xs2]
 refine wpE_tk (v := ?_) 1 [2, 3, 4, 5, 6, 15, 17] (hy := ?_) (hS := hS0) (h := ?_)
 rotate_left
 ·intro w' hSw
  obtain ⟨hs0, hs1, hs2⟩ := hSw
  simp only [xg0, xg1, xg2]
  go_simp
  try rw [if_neg (by omega)]
  all_goals with_reducible rfl
 simp only [xg0, xg1, xg2, Act.put, xs0, xs1, xs2]
 refine wpE_tk (v := ?_) 2 [3, 4, 5, 6, 15, 17] (hy := ?_) (hS := hS0) (h := ?_)
 rotate_left
 ·intro w' hSw
  obtain ⟨hs0, hs1, hs2⟩ := hSw
  simp only [xg0, xg1, xg2]
  go_simp
  try rw [if_neg (by omega)]
  all_goals with_reducible rfl
 simp only [xg0, xg1, xg2, Act.put, xs0, xs1, xs2]
 refine wpE_tk (v := ?_) 3 [4, 5, 6, 15, 17] (hy := ?_) (hS := hS0) (h := ?_)
 rotate_left
 ·intro w' hSw
  obtain ⟨hs0, hs1, hs2⟩ := hSw
  simp only [xg0, xg1, xg2]
  go_simp
  try rw [if_neg (by omega)]
  all_goals with_reducible rfl
 simp only [xg0, xg1, xg2, Act.put, xs0, xs1, xs2]
 refine wpE_tk (v := ?_) 4 [5, 6, 15, 17] (hy := ?_) (hS := hS0) (h := ?_)
 rotate_left
 ·intro w' hSw
  obtain ⟨hs0, hs1, hs2⟩ := hSw
  simp only [xg0, xg1, xg2]
  go_simp
  try rw [if_neg (by omega)]
  all_goals with_reducible rfl
 simp only [xg0, xg1, xg2, Act.put, xs0, xs1, xs2]
 refine wpE_tk (v := ?_) 5 [6, 15, 17] (hy := ?_) (hS := hS0) (h := ?_)
 rotate_left
 ·intro w' hSw
  obtain ⟨hs0, hs1, hs2⟩ := hSw
  simp only [xg0, xg1, xg2]
  go_simp
  try rw [if_neg (by omega)]
  all_goals with_reducible rfl
 simp only [xg0, xg1, xg2, Act.put, xs0, xs1, xs2]
 refine wpE_tk (v := ?_) 9 [10, 11, 12, 13, 15, 17] (hy := ?_) (hS := hS0) (h := ?_)
 rotate_left
 ·intro w' hSw
  obtain ⟨hs0, hs1, hs2⟩ := hSw
  simp only [xg0, xg1, xg2]
  go_simp
  try rw [if_neg (by omega)]
  all_goals with_reducible rfl
 simp only [xg0, xg1, xg2, Act.put, xs0, xs1, xs2]
 refine wpE_tk (v := ?_) 10 [11, 12, 13, 15, 17] (hy := ?_) (hS := hS0) (h := ?_)
 rotate_left
 ·intro w' hSw
  obtain ⟨hs0, hs1, hs2⟩ := hSw
  simp only [xg0, xg1, xg2]
  go_simp
  try rw [if_neg (by omega)]
  all_goals with_reducible rfl
 simp only [xg0, xg1, xg2, Act.put, xs0, xs1, xs2]
 refine wpE_tk (v := ?_) 11 [12, 13, 15, 17] (hy := ?_) (hS := hS0) (h := ?_)
 rotate_left
 ·intro w' hSw
  obtain ⟨hs0, hs1, hs2⟩ := hSw
  simp only [xg0, xg1, xg2]
  go_simp
  try rw [if_neg (by omega)]
  all_goals with_reducible rfl
 simp only [xg0, xg1, xg2, Act.put, xs0, xs1, xs2]
 refine wpE_tk (v := ?_) 12 [13, 15, 17] (hy := ?_) (hS := hS0) (h := ?_)
 rotate_left
 ·intro w' hSw
  obtain ⟨hs0, hs1, hs2⟩ := hSw
  simp only [xg0, xg1, xg2]
  go_simp
  try rw [if_neg (by omega)]
  all_goals with_reducible rfl
 simp only [xg0, xg1, xg2, Act.put, xs0, xs1, xs2]
 refine wpE_tk (v := ?_) 13 [15, 17] (hy := ?_) (hS := hS0) (h := ?_)
 rotate_left
 ·intro w' hSw
  obtain ⟨hs0, hs1, hs2⟩ := hSw
  simp only [xg0, xg1, xg2]
  go_simp
  try rw [if_neg (by omega)]
  all_goals with_reducible rfl
 simp only [xg0, xg1, xg2, Act.put, xs0, xs1, xs2]
 have hJ := hdr
 refine wpF_start 14 25 (fun wx => Below w.heap.size w wx) (fun z wx => B1 z wx) (of_decide_eq_true (by kernel_rfl)) rfl hJ (fun fl z hB => ?_)
 simp only [Act.put, xs0, xs1, xs2]
 apply wpF_step (f := 14) (fl := fl) (z := z) (J := fun wx => Below w.heap.size w wx) (B := fun z wx => B1 z wx) 6
 case hi => exact of_decide_eq_true (by kernel_rfl)
 case hg => kernel_rfl
 case hr0 => kernel_rfl
 case hr1 => kernel_rfl
 case hL => kernel_rfl
 case hJ => exact hJ
 case hB => exact hB
 case hF =>
  refine floats_of (of_decide_eq_true (by kernel_rfl)) (by kernel_rfl) (by kernel_rfl) (fun wx h => HSS.out wx h) ?_
  clear hJ hB hS0
  intro z wx hJ K hK
  simp only [xg0, xg1, xg2]
  go_simp
  exact hK.out _ _ (bthen hJ (by go_grown)) (b1_new wx)
 clear hJ hB hS0
 intro fl z wx hJ hB K hK
 simp only [xg0, xg1, xg2]
 go_simp
 go_at_call 121
 refine (Hw1.out wx (hPa'.next hJ)).mono ?_
 rintro e w3 ⟨rfl, hb3⟩
 unfold txt
 replace hB := fun h => (hB h).below hb3
 replace hJ := bthen hJ hb3
 refine hK.out _ _ (.inr (HSS.out _ hJ)) ?_
 clear hK K hb3
 simp only [Act.put, xs0, xs1, xs2]
 have hS0 := HSS.out _ hJ
 apply wpF_take (fl := fl) (z := z) 7 [16, 17]
 case hi => exact of_decide_eq_true (by kernel_rfl)
 case hl0 => kernel_rfl
 case hl1 => kernel_rfl
 case hs => kernel_rfl
 case hf0 => kernel_rfl
 case hf1 => kernel_rfl
 case hr0 => kernel_rfl
 case hr1 => kernel_rfl
 case hQ => exact fun _ _ _ h => h
 case hg => kernel_rfl
 case hS => exact hS0
 case hy =>
  intro w' hSw
  simp only [xg0, xg1, xg2]
  go_simp
  try rw [if_neg (by omega)]
  all_goals with_reducible rfl
 simp only [xg0, xg1, xg2, Act.put, xs0, xs1, xs2]
 apply wpF_end (f := 14) (fl := fl) (z := z) (J := fun wx => Below w.heap.size w wx) (B := fun z wx => B1 z wx)
 case hr0 => kernel_rfl
 case hL => kernel_rfl
 case hJ => exact hJ
 case hB => exact hB
 case hF =>
  refine floats_of (of_decide_eq_true (by kernel_rfl)) (by kernel_rfl) (by kernel_rfl) (fun wx h => HSS.out wx h) ?_
  clear hJ hB hS0
  intro z wx hJ K hK
  simp only [xg0, xg1, xg2]
  go_simp
  exact hK.out _ _ (bthen hJ (by go_grown)) (b1_new wx)
 clear hJ hB hS0
 intro z wx hJ hB
 obtain ⟨g, G, rfl, hI⟩ := hB
 refine wpE_step' 15 (of_decide_eq_true (by kernel_rfl)) (by kernel_rfl) (by kernel_rfl) (fun K hK => ?_)
 simp only [xg0, xg1, xg2]
 go_simp
 go_at_call 129
 refine (Hw2.out wx g _ (hPb'.next hJ) hI).mono ?_
 rintro e w4 ⟨rfl, hb4⟩
 unfold txt
 replace hJ := bthen hJ hb4
 refine hK.out _ _ (.inr (HSS.out _ hJ)) ?_
 clear hK K hb4 hI
 simp only [Act.put, xs0, xs1, xs2]
 have hS0 := HSS.out _ hJ
 refine wpE_tk (v := ?_) 16 [17] (hy := ?_) (hS := hS0) (h := ?_)
 rotate_left
 ·intro w' hSw
  obtain ⟨hs0, hs1, hs2⟩ := hSw
  simp only [xg0, xg1, xg2]
  go_simp
  try rw [if_neg (by omega)]
  all_goals with_reducible rfl
 simp only [xg0, xg1, xg2, Act.put, xs0, xs1, xs2]
 refine wpE_step' 17 (of_decide_eq_true (by kernel_rfl)) (by kernel_rfl) (by kernel_rfl) (fun K hK => ?_)
 simp only [xg0, xg1, xg2]
 go_simp
 refine hK.out _ _ (.inl rfl) ?_
 clear hK K
 simp only [Act.put, xs0, xs1, xs2]
 refine wpE_done (by kernel_rfl) ?_ _
 go_wp2_with fail
 go_ret
 refine ⟨?_, hJ⟩
 rw [show (⟨#[59]⟩ : ByteArray) = ⟨[(59 : UInt8)].toArray⟩ from rfl]
 simp only [bytes_app]
 simp [txt]
set_option maxHeartbeats 4000000 in
set_option maxRecDepth 100000 in
theorem text_bth (a a' : Tm) (hf : (Tm.bth a a').fine) (hs : a.size ≤ 20 ∧ a'.size ≤ 20) (p : Nat) (w : World) (hP : PtR w w.heap.size (.bth a a') p)
  (H : ∀ (q : Nat) (w' : World), PtR w' w'.heap.size a q → Calls Tryz.prog 121 #[.pointer (some ⟨q, 0, none⟩)] w' fun e w'' => e = .returned (txt a.text) ∧ Below w'.heap.size w' w'')
  (H' : ∀ (q : Nat) (w' : World), PtR w' w'.heap.size a' q → Calls Tryz.prog 121 #[.pointer (some ⟨q, 0, none⟩)] w' fun e w'' => e = .returned (txt a'.text) ∧ Below w'.heap.size w' w'') :
  Calls Tryz.prog 121 #[.pointer (some ⟨p, 0, none⟩)] w fun e w' => e = .returned (txt (Tm.bth a a').text) ∧ Below w.heap.size w w' := by
 obtain ⟨A, c, b, o, q, q', ⟨hat, d0, d1, d2, d3⟩, rfl, hb, hq, hqq, hPa, hPb⟩ := hP
 dsimp only at d0 d1 d2
 obtain ⟨fa, fb⟩ := hf
 have hla := text_len fa
 have hlb := text_len fb
 have hlc := brk_len (decide (a'.binds < 2)) a'.text
 have hld := brk_len (decide (a.binds < 1)) a.text
 have e1 : (Tm.bth a a').text = brk (decide (a.binds < 1)) a.text ++ 38 :: brk (decide (a'.binds < 2)) a'.text := rfl
 rw [e1]
 have hw2 := fun (wq : World) (g : Nat) (A' : Option Addr) (hp : PtR wq wq.heap.size a' q') (hk : IntsR wq wq.heap.size g 0 A' [1, 2]) => wrapped_of a' q' [1, 2] A' g 2 wq (decide (a'.binds < 2)) (mark_in2 a') (by decide) (by omega) hp hk (H' q' wq hp)
 have hw1 := fun (wq : World) (g : Nat) (A' : Option Addr) (hp : PtR wq wq.heap.size a q) (hk : IntsR wq wq.heap.size g 0 A' [1]) => wrapped_of a q [1] A' g 1 wq (decide (a.binds < 1)) (mark_in1 a) (by decide) (by omega) hp hk (H q wq hp)
 generalize brk (decide (a'.binds < 2)) a'.text = tb at hw2 hlc
 generalize brk (decide (a.binds < 1)) a.text = ta at hw1 hld
 have Hw1 := hide hw1
 have Hw2 := hide hw2
 clear hw1 hw2 H H' e1
 have hbl : b < w.heap.size := hb
 have hpl : p < w.heap.size := hat
 have h1' : w.cell? ⟨b, o, none⟩ = some (.pointer (some ⟨q, 0, none⟩)) := hq
 have h2' : w.cell? ⟨b, o + 1, none⟩ = some (.pointer (some ⟨q', 0, none⟩)) := hqq
 have hPa' : PtR w w.heap.size a q := hPa
 have hPb' : PtR w w.heap.size a' q' := hPb
 have HSS : Hid (∀ wx : World, Below w.heap.size w wx → wx.cell? ⟨p, 3, none⟩ = some (.slice (some ⟨b, o, none⟩) 2 c) ∧ wx.cell? ⟨b, o, none⟩ = some (.pointer (some ⟨q, 0, none⟩)) ∧ wx.cell? ⟨b, o + 1, none⟩ = some (.pointer (some ⟨q', 0, none⟩))) := fun wx hx => ⟨((bcell hx).1 _ _ hpl).trans d3, ((bcell hx).1 _ _ hbl).trans h1', ((bcell hx).1 _ _ hbl).trans h2'⟩
 clear hat hb hPa hPb hq hqq h1' h2'
 go_enter Tryz.func121, Tryz.ntmps121
 go_upto_region 5 with fail
 refine wp_regionE (fun w' => w'.cell? ⟨p, 3, none⟩ = some (.slice (some ⟨b, o, none⟩) 2 c) ∧ w'.cell? ⟨b, o, none⟩ = some (.pointer (some ⟨q, 0, none⟩)) ∧ w'.cell? ⟨b, o + 1, none⟩ = some (.pointer (some ⟨q', 0, none⟩))) 18 (by kernel_rfl) ?_
 change wpE _ _ _ _ _ _ 19 #[false, false, false, false, false, false, false, false, false, false, false, false, false, false, false, false, false, false, false] _ _
 have hdr : Below w.heap.size w w.drew := by go_grown
 have hS0 := HSS.out _ hdr
 generalize w.drew = wd at hdr hS0 ⊢
 refine wpE_tk (v := ?_) 0 [1, 2, 3, 4, 5, 7, 16, 18] (hy := ?_) (hS := hS0) (h := ?_)
 rotate_left
 ·intro w' hSw
  obtain ⟨hs0, hs1, hs2⟩ := hSw
  simp only [xg0, xg1, xg2]
  go_simp
  try rw [if_neg (by omega)]
  all_goals with_reducible rfl
 simp only [xg0, xg1, xg2, Act.put, xs0, xs1, xs2]
 refine wpE_tk (v := ?_) 9 [10, 11, 12, 13, 14, 16, 18] (hy := ?_) (hS := hS0) (h := ?_)
 rotate_left
 ·intro w' hSw
  obtain ⟨hs0, hs1, hs2⟩ := hSw
  simp only [xg0, xg1, xg2]
  go_simp
  try rw [if_neg (by omega)]
  all_goals with_reducible rfl
 simp only [xg0, xg1, xg2, Act.put, xs0, xs1, xs2]
 refine wpE_tk (v := ?_) 1 [2, 3, 4, 5, 7, 16, 18] (hy := ?_) (hS := hS0) (h := ?_)
 rotate_left
 ·intro w' hSw
  obtain ⟨hs0, hs1, hs2⟩ := hSw
  simp only [xg0, xg1, xg2]
  go_simp
  try rw [if_neg (by omega)]
  all_goals with_reducible rfl
 simp only [xg0, xg1, xg2, Act.put, xs0, xs1, xs2]
 refine wpE_tk (v := ?_) 2 [3, 4, 5, 7, 16, 18] (hy := ?_) (hS := hS0) (h := ?_)
 rotate_left
 ·intro w' hSw
  obtain ⟨hs0, hs1, hs2⟩ := hSw
  simp only [xg0, xg1, xg2]
  go_simp
  try rw [if_neg (by omega)]
  all_goals with_reducible rfl
 simp only [xg0, xg1, xg2, Act.put, xs0, xs1, xs2]
 refine wpE_tk (v := ?_) 3 [4, 5, 7, 16, 18] (hy := ?_) (hS := hS0) (h := ?_)
 rotate_left
 ·intro w' hSw
  obtain ⟨hs0, hs1, hs2⟩ := hSw
  simp only [xg0, xg1, xg2]
  go_simp
  try rw [if_neg (by omega)]
  all_goals with_reducible rfl
 simp only [xg0, xg1, xg2, Act.put, xs0, xs1, xs2]
 refine wpE_tk (v := ?_) 4 [5, 7, 16, 18] (hy := ?_) (hS := hS0) (h := ?_)
 rotate_left
 ·intro w' hSw
  obtain ⟨hs0, hs1, hs2⟩ := hSw
  simp only [xg0, xg1, xg2]
  go_simp
  try rw [if_neg (by omega)]
  all_goals with_reducible rfl
 simp only [xg0, xg1, xg2, Act.put, xs0, xs1, xs2]
 refine wpE_tk (v := ?_) 5 [7, 16, 18] (hy := ?_) (hS := hS0) (h := ?_)
 rotate_left
 ·intro w' hSw
  obtain ⟨hs0, hs1, hs2⟩ := hSw
  simp only [xg0, xg1, xg2]
  go_simp
  try rw [if_neg (by omega)]
  all_goals with_reducible rfl
 simp only [xg0, xg1, xg2, Act.put, xs0, xs1, xs2]
 refine wpE_tk (v := ?_) 10 [11, 12, 13, 14, 16, 18] (hy := ?_) (hS := hS0) (h := ?_)
 rotate_left
 ·intro w' hSw
  obtain ⟨hs0, hs1, hs2⟩ := hSw
  simp only [xg0, xg1, xg2]
  go_simp
  try rw [if_neg (by omega)]
  all_goals with_reducible rfl
 simp only [xg0, xg1, xg2, Act.put, xs0, xs1, xs2]
 refine wpE_tk (v := ?_) 11 [12, 13, 14, 16, 18] (hy := ?_) (hS := hS0) (h := ?_)
 rotate_left
 ·intro w' hSw
  obtain ⟨hs0, hs1, hs2⟩ := hSw
  simp only [xg0, xg1, xg2]
  go_simp
  try rw [if_neg (by omega)]
  all_goals with_reducible rfl
 simp only [xg0, xg1, xg2, Act.put, xs0, xs1, xs2]
 refine wpE_tk (v := ?_) 12 [13, 14, 16, 18] (hy := ?_) (hS := hS0) (h := ?_)
 rotate_left
 ·intro w' hSw
  obtain ⟨hs0, hs1, hs2⟩ := hSw
  simp only [xg0, xg1, xg2]
  go_simp
  try rw [if_neg (by omega)]
  all_goals with_reducible rfl
 simp only [xg0, xg1, xg2, Act.put, xs0, xs1, xs2]
 refine wpE_tk (v := ?_) 13 [14, 16, 18] (hy := ?_) (hS := hS0) (h := ?_)
 rotate_left
 ·intro w' hSw
  obtain ⟨hs0, hs1, hs2⟩ := hSw
  simp only [xg0, xg1, xg2]
  go_simp
  try rw [if_neg (by omega)]
  all_goals with_reducible rfl
 simp only [xg0, xg1, xg2, Act.put, xs0, xs1, xs2]
 refine wpE_tk (v := ?_) 14 [16, 18] (hy := ?_) (hS := hS0) (h := ?_)
 rotate_left
 ·intro w' hSw
  obtain ⟨hs0, hs1, hs2⟩ := hSw
  simp only [xg0, xg1, xg2]
  go_simp
  try rw [if_neg (by omega)]
  all_goals with_reducible rfl
 simp only [xg0, xg1, xg2, Act.put, xs0, xs1, xs2]
 have hJ := hdr
 refine wpG_start 6 36 15 45 (fun wx => Below w.heap.size w wx) (fun z wx => B1 z wx) (fun y wx => B2 y wx) (of_decide_eq_true (by kernel_rfl)) (of_decide_eq_true (by kernel_rfl)) rfl (by decide) hJ (fun fl gl z y hB hC => ?_)
 simp only [Act.put, xs0, xs1, xs2]
 apply wpG_force (f := 6) (g := 15) (fl := fl) (gl := gl) (z := z) (y := y) (J := fun wx => Below w.heap.size w wx) (B := fun z wx => B1 z wx) (C := fun y wx => B2 y wx)
 case hr0 => kernel_rfl
 case hr2 => kernel_rfl
 case he2 => kernel_rfl
 case hL0 => kernel_rfl
 case hL2 => kernel_rfl
 case hL3 => kernel_rfl
 case hJ => exact hJ
 case hB => exact hB
 case hC => exact hC
 case hF =>
  refine floats2_of (of_decide_eq_true (by kernel_rfl)) (of_decide_eq_true (by kernel_rfl)) (by kernel_rfl) (by kernel_rfl) (by kernel_rfl) (by kernel_rfl) (fun wx h => HSS.out wx h) ?_ ?_
  ·clear hS0 hJ hB hC
   intro gl z y wx hJ hC K hK
   simp only [xg0, xg1, xg2]
   go_simp
   exact hK.out _ _ (bthen hJ (by go_grown)) (b1_new wx) (fun h => (hC h).below (by go_grown))
  ·clear hS0 hJ hB hC
   intro fl z y wx hJ hB K hK
   simp only [xg0, xg1, xg2]
   go_simp
   exact hK.out _ _ (bthen hJ (by go_grown)) (b2_new wx) (fun h => (hB h).below (by go_grown))
 clear hS0 hJ hB hC
 intro gl z y wx hJ hB hC
 obtain ⟨g, G, rfl, hI⟩ := hB
 apply wpF_step (f := 15) (fl := gl) (z := y) (J := fun wx => Below w.heap.size w wx ∧ IntsR wx wx.heap.size g 0 (some ⟨G, 0, none⟩) [1]) (B := fun y wx => B2 y wx) 7
 case hi => exact of_decide_eq_true (by kernel_rfl)
 case hg => kernel_rfl
 case hr0 => kernel_rfl
 case hr1 => kernel_rfl
 case hL => kernel_rfl
 case hJ => exact ⟨hJ, hI⟩
 case hB => exact hC
 case hF =>
  refine floats_of (of_decide_eq_true (by kernel_rfl)) (by kernel_rfl) (by kernel_rfl) (fun wx h => HSS.out wx h.1) ?_
  clear hJ hC hI
  intro y wx hJ K hK
  simp only [xg0, xg1, xg2]
  go_simp
  have hal : Below wx.heap.size wx (wx.alloc (.cells #[.int .i64 1, .int .i64 2] 3)) := by go_grown
  exact hK.out _ _ ⟨bthen hJ.1 hal, (hJ.2.below hal).more hal.size⟩ (b2_new wx)
 clear hJ hC hI
 intro gl y wx hJ hC K hK
 simp only [xg0, xg1, xg2]
 go_simp
 go_at_call 129
 refine (Hw1.out wx g _ (hPa'.next hJ.1) hJ.2).mono ?_
 rintro e w3 ⟨rfl, hb3⟩
 unfold txt
 replace hC := fun h => (hC h).below hb3
 replace hJ := bthen hJ.1 hb3
 refine hK.out _ _ (.inr (HSS.out _ hJ)) ?_
 clear hK K hb3
 simp only [Act.put, xs0, xs1, xs2]
 have hS0 := HSS.out _ hJ
 apply wpF_take (fl := gl) (z := y) 8 [17, 18]
 case hi => exact of_decide_eq_true (by kernel_rfl)
 case hl0 => kernel_rfl
 case hl1 => kernel_rfl
 case hs => kernel_rfl
 case hf0 => kernel_rfl
 case hf1 => kernel_rfl
 case hr0 => kernel_rfl
 case hr1 => kernel_rfl
 case hQ => exact fun _ _ _ h => h
 case hg => kernel_rfl
 case hS => exact hS0
 case hy =>
  intro w' hSw
  simp only [xg0, xg1, xg2]
  go_simp
  try rw [if_neg (by omega)]
  all_goals with_reducible rfl
 simp only [xg0, xg1, xg2, Act.put, xs0, xs1, xs2]
 apply wpF_end (f := 15) (fl := gl) (z := y) (J := fun wx => Below w.heap.size w wx) (B := fun y wx => B2 y wx)
 case hr0 => kernel_rfl
 case hL => kernel_rfl
 case hJ => exact hJ
 case hB => exact hC
 case hF =>
  refine floats_of (of_decide_eq_true (by kernel_rfl)) (by kernel_rfl) (by kernel_rfl) (fun wx h => HSS.out wx h) ?_
  clear hJ hC hS0
  intro y wx hJ K hK
  simp only [xg0, xg1, xg2]
  go_simp
  exact hK.out _ _ (bthen hJ (by go_grown)) (b2_new wx)
 clear hJ hC hS0
 intro y wx hJ hC
 obtain ⟨g2, G2, rfl, hI⟩ := hC
 refine wpE_step' 16 (of_decide_eq_true (by kernel_rfl)) (by kernel_rfl) (by kernel_rfl) (fun K hK => ?_)
 simp only [xg0, xg1, xg2]
 go_simp
 go_at_call 129
 refine (Hw2.out wx g2 _ (hPb'.next hJ) hI).mono ?_
 rintro e w4 ⟨rfl, hb4⟩
 unfold txt
 replace hJ := bthen hJ hb4
 refine hK.out _ _ (.inr (HSS.out _ hJ)) ?_
 clear hK K hb4 hI
 simp only [Act.put, xs0, xs1, xs2]
 have hS0 := HSS.out _ hJ
 refine wpE_tk (v := ?_) 17 [18] (hy := ?_) (hS := hS0) (h := ?_)
 rotate_left
 ·intro w' hSw
  obtain ⟨hs0, hs1, hs2⟩ := hSw
  simp only [xg0, xg1, xg2]
  go_simp
  try rw [if_neg (by omega)]
  all_goals with_reducible rfl
 simp only [xg0, xg1, xg2, Act.put, xs0, xs1, xs2]
 refine wpE_step' 18 (of_decide_eq_true (by kernel_rfl)) (by kernel_rfl) (by kernel_rfl) (fun K hK => ?_)
 simp only [xg0, xg1, xg2]
 go_simp
 refine hK.out _ _ (.inl rfl) ?_
 clear hK K
 simp only [Act.put, xs0, xs1, xs2]
 refine wpE_done (by kernel_rfl) ?_ _
 go_wp2_with fail
 go_ret
 refine ⟨?_, hJ⟩
 rw [show (⟨#[38]⟩ : ByteArray) = ⟨[(38 : UInt8)].toArray⟩ from rfl]
 simp only [bytes_app]
 simp [txt]
theorem text_q : ∀ (n : Nat) (a : Tm), a.size ≤ n → n ≤ 20 → a.fine → ∀ (p : Nat) (w : World), PtR w w.heap.size a p →
  Calls Tryz.prog 121 #[.pointer (some ⟨p, 0, none⟩)] w fun e w' => e = .returned (txt a.text) ∧ Below w.heap.size w w' := by
 intro n
 induction n with
 | zero => intro a hs; cases a <;> simp [Tm.size] at hs
 | succ n ih =>
   intro a hs hn hf p w hP
   cases a with
   | step l h => exact text_step l h hf p w hP
   | wth a h =>
     simp only [Tm.size] at hs
     exact text_wth a h hf (by omega) p w hP (fun q w' hq => ih a (by omega) (by omega) hf.1 q w' hq)
   | thn a b =>
     simp only [Tm.size] at hs
     exact text_thn a b hf ⟨by omega, by omega⟩ p w hP (fun q w' hq => ih a (by omega) (by omega) hf.1 q w' hq) (fun q w' hq => ih b (by omega) (by omega) hf.2 q w' hq)
   | bth a b =>
     simp only [Tm.size] at hs
     exact text_bth a b hf ⟨by omega, by omega⟩ p w hP (fun q w' hq => ih a (by omega) (by omega) hf.1 q w' hq) (fun q w' hq => ih b (by omega) (by omega) hf.2 q w' hq)
/-- The text of a term. -/
theorem termText_q (t : List Mk) (A : Option Addr) (b o c B : Nat) (w : World) (hB : B ≤ w.heap.size) (hR : MkR w B b o A t) (hn : t.length ≤ 2000000) :
  Calls Tryz.prog 106 #[.slice A t.length c] w fun e w' => e = .returned (txt (termText t)) ∧ Below w.heap.size w w' := by
 cases ht : termOf t with
 | none =>
   have e1 : termText t = [] := by unfold termText; rw [ht]
   rw [e1]
   have Hc := hide (build_no t ht A b o c B w hB hR hn)
   clear hR ht
   go_enter Tryz.func106, Tryz.ntmps106
   go_wp2_with (go_at_call 107; refine Hc.out.mono ?_; rintro e w2 ⟨rfl, hb⟩)
   go_ret
   exact ⟨rfl, hb⟩
 | some a =>
   have e1 : termText t = a.text := by unfold termText; rw [ht]
   rw [e1]
   obtain ⟨hf, hm, h11⟩ := term_back ht
   have hsz : a.size ≤ 20 := by rw [← Tm.marks_len, hm]; omega
   have Hc := hide (build_yes t ht A b o c B w hB hR hn)
   have Htx := hide (fun (p : Nat) (wq : World) (hq : PtR wq wq.heap.size a p) => text_q 20 a hsz (Nat.le_refl _) hf p wq hq)
   clear hR ht hf hm h11 e1 hsz
   generalize a.text = ta at Htx
   go_enter Tryz.func106, Tryz.ntmps106
   go_wp2_with (first
    | (go_at_call 107; refine Hc.out.mono ?_; rintro e w2 ⟨p, rfl, hP, hb⟩; dsimp only [ptr])
    | (go_at_call 121; refine (Htx.out p _ hP).mono ?_; rintro e w3 ⟨rfl, hb3⟩; unfold txt))
   go_ret
   exact ⟨rfl, bthen hb hb3⟩

open Go Go.RowKit Pp

namespace Pp
theorem rt_nil {rt : List UInt8 → Option (List Mk)} (hrt : IsRead rt) : rt [] = none := by
 cases h : rt [] with
 | none => rfl
 | some t =>
   obtain ⟨-, a, h1, h2⟩ := (hrt [] t).1 h
   have h3 := sp_text h1
   rw [h2] at h3
   have hx : Sp [] .thn [] 0 [] (-1) := .thn (.bth (.atmX (.inr (by simp))) (.bthD (by simp [ch]))) (.thnD (by simp [ch]))
   have := (h3.det hx).2
   simp at this
theorem rt_long {rt : List UInt8 → Option (List Mk)} (hrt : IsRead rt) {L : List UInt8} (hL : ¬ L.length ≤ 120) : rt L = none := by
 cases h : rt L with
 | none => rfl
 | some t => exact absurd ((hrt L t).1 h).1 hL
theorem rt_len {rt : List UInt8 → Option (List Mk)} (hrt : IsRead rt) {L : List UInt8} {t : List Mk} (h : rt L = some t) : t.length ≤ 11 := by
 obtain ⟨-, a, h1, -⟩ := (hrt L t).1 h
 exact (term_back h1).2.2
end Pp
set_option maxHeartbeats 4000000 in
set_option maxRecDepth 100000 in
theorem readTerm_q (rt : List UInt8 → Option (List Mk)) (hrt : IsRead rt) (s : ByteArray) (L : List UInt8) (hL : s.data.toList = L) (w : World) (hv : VR w) :
  Calls Tryz.prog 80 #[.string s] w fun e w' => ∃ v, e = .returned v ∧ RtV rt L w w' v ∧ Below w.heap.size w w' := by
 by_cases h0 : L = []
 ·subst h0
  obtain rfl : s = ⟨#[]⟩ := str_eq hL
  have hno := hide (rt_nil hrt)
  have hbb := Below.refl w.heap.size w
  go_enter Tryz.func80, Tryz.ntmps80
  go_wp2_with fail
  go_ret2
  exact ⟨_, rfl, ⟨none, 0, [], by rw [hno.out]; rfl, World.ownsRow_nil _ _ _ _, by rw [hno.out]; rfl, by simp⟩, hbb⟩
 ·have hsz := str_size hL
  have hne : s.toList.isEmpty = false := by
   rw [str_list hL]
   cases L with
   | nil => exact absurd rfl h0
   | cons a l => rfl
  have hne2 : ¬ s.toList = [] := by rw [str_list hL]; exact h0
  by_cases hl : s.size ≤ 120
  ·have hz : ¬ (120 : Int) < (s.size : Int) := by omega
   have hvl := hv.lt
   have hT : TmR (w.alloc (.cells #[.string s, .int .i64 0, .bool true] 129)) w.heap.size s ((0 : Nat) : Int) true :=
    ⟨hv.below (by go_grown), by omega, by simp, by simp [go_sem], by simp [go_sem], by simp [go_sem], fun i => by simp [go_sem]⟩
   have hal : Below w.heap.size w (w.alloc (.cells #[.string s, .int .i64 0, .bool true] 129)) := by go_grown
   have hcall := fun (wq : World) (R : Nat) (hq : TmR wq R s ((0 : Nat) : Int) true) => thens_all s L hL hl s.size 0 (by omega) (by omega) true R wq hq
   have Hcall := hide hcall
   have Hsz := hide hsz
   have H0 := hide h0
   clear hcall hsz h0
   go_enter Tryz.func80, Tryz.ntmps80
   go_upto_region 4 with fail
   generalize w.alloc (.cells #[.string s, .int .i64 0, .bool true] 129) = W at hT hal ⊢
   go_upto_region 5 with (go_at_call 105; refine (Hcall.out _ _ hT).mono ?_; rintro e w3 ⟨x, rfl, ⟨A1, c1, t, n1, f1, rfl, own1, hIm, hT3, hG3⟩⟩)
   have hr := hIm.rng (by have := Hsz.out; omega)
   have htl : t.length ≤ 2000000 := by
    have := Hsz.out
    simp only [List.length_nil] at hr
    omega
   have hrd := im_read hrt (show L.length ≤ 120 by have := Hsz.out; omega) hIm
   have hbb := hal.grown hG3 hal.size (fun k hk => by injection hk with hk; omega)
   obtain ⟨g1, hr1⟩ := OwnM.reads own1
   have own2 : OwnM w.heap.size w3 (.slice A1 t.length c1) t := own_less own1 hal.size
   have c2 := hT3.c2
   clear hIm hr hT hal hG3 own1
   cases f1
   ·have hno : Hid (rt L = none) := by unfold Hid; rw [hrd, if_neg (by simp)]
    clear hrd
    go_wp2_with fail
    go_ret2
    exact ⟨_, rfl, ⟨none, 0, [], by rw [hno.out]; rfl, World.ownsRow_nil _ _ _ _, by rw [hno.out]; rfl, by simp⟩, hbb⟩
   ·have hcx := termText_q t A1 g1 0 c1 _ w3 (Nat.le_refl _) hr1 htl
    by_cases htx : termText t = L
    ·have hyes : rt L = some t := by rw [hrd, if_pos ⟨rfl, H0.out, htx⟩]
     have htl2 := rt_len hrt hyes
     have hcmp : (termText t == s.toList) = true := by rw [str_list hL, htx]; simp
     have HV : ∀ w', Hid (OwnM w.heap.size w' (.slice A1 t.length c1) t) → Hid (RtV rt L w w' (.tuple #[.slice A1 t.length c1, .bool true])) := fun w' h => ⟨_, _, t, by rw [hyes]; rfl, h.out, by rw [hyes]; rfl, by omega⟩
     clear hrd hyes htx
     generalize termText t = tx at hcx hcmp
     have Hcx := hide hcx
     clear hcx hr1
     go_wp2_with (go_at_call 106; refine Hcx.out.mono ?_; rintro e w4 ⟨rfl, hb4⟩; unfold txt)
     go_ret2
     exact ⟨_, rfl, (HV _ (own_below own2 hb4)).out, bthen hbb hb4⟩
    ·have hno : Hid (rt L = none) := by unfold Hid; rw [hrd, if_neg (fun h => htx h.2.2)]
     have hcmp : (termText t == s.toList) = false := by rw [str_list hL]; simpa using htx
     clear hrd htx
     generalize termText t = tx at hcx hcmp
     have Hcx := hide hcx
     clear hcx hr1
     go_wp2_with (go_at_call 106; refine Hcx.out.mono ?_; rintro e w4 ⟨rfl, hb4⟩; unfold txt; replace hbb := bthen hbb hb4)
     go_ret2
     exact ⟨_, rfl, ⟨none, 0, [], by rw [hno.out]; rfl, World.ownsRow_nil _ _ _ _, by rw [hno.out]; rfl, by simp⟩, hbb⟩
  ·have hz : (120 : Int) < (s.size : Int) := by omega
   have hno := hide (rt_long hrt (show ¬ L.length ≤ 120 by omega))
   have hbb := Below.refl w.heap.size w
   clear hsz
   go_enter Tryz.func80, Tryz.ntmps80
   go_wp2_with fail
   go_ret2
   exact ⟨_, rfl, ⟨none, 0, [], by rw [hno.out]; rfl, World.ownsRow_nil _ _ _ _, by rw [hno.out]; rfl, by simp⟩, hbb⟩
end Go.Proofs.YtmnajkhoacogjaaGreatDoor
