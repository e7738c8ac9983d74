/-
 spec: l1Number.
 spec: l11Binds, l11Held, l11Text, TermText.
 spec: l11Text, TermText.
 spec: l1Digits (of digits), l11Number.
 spec: l11Number.
 spec: l11Both, l11Then.
 spec: l11Atom.
 spec: ReadTerm.
 spec: PlanText.
-/
import Derived.Test.YtmnajkhoacogjaaGreatDoorP60
import Derived.Test.YtmnajkhoacogjaaGreatDoorI1
import Derived.Test.YtmnajkhoacogjaaGreatDoorZ1
import Derived.Test.YtmnajkhoacogjaaGreatDoorS1
import Derived.Test.YtmnajkhoacogjaaGreatDoorS80
import Derived.Test.YtmnajkhoacogjaaGreatDoorD70
namespace Go.Proofs.YtmnajkhoacogjaaGreatDoor
set_option linter.unusedVariables false
set_option linter.unusedSimpArgs false
open Go Go.RowKit Pp

/-- Bytes as a string's. -/
def txt (l : List UInt8) : Value := .string ⟨l.toArray⟩
theorem conv1 (w : World) (g k : Nat) (hk : k < 10) (h : w.cell? ⟨g, 0, none⟩ = some (.int .u8 (48 + (k : Int)))) :
  Sem.run Tryz.prog (convert 46 9 (Value.slice (some { block := g, off := 0 }) 1 1)) w = .ok (.string ⟨#[dg k]⟩) w := by
 have hd : (dg k).toNat = 48 + k := by
  unfold dg
  rw [UInt8.toNat_ofNat']
  omega
 exact run_convert_bytes_back w 46 9 5 ⟨g, 0, none⟩ 1 [dg k] Tryz.underlying46 Tryz.underlying5 Tryz.underlying9 (fun j hj => by
  have e : j = 0 := by simpa using hj
  subst e
  rw [add_zero_off]
  simp only [Nat.add_zero, List.getElem_cons_zero, hd]
  rw [h]
  congr 2)
set_option maxHeartbeats 1000000 in
theorem num1_c (k : Nat) (hk : k < 10) (w : World) : Calls Tryz.prog 72 #[.int .i64 (k : Int)] w fun e w' => e = .returned (txt (num k)) ∧ Below w.heap.size w w' := by
 have h0 : ¬ ((k : Int) < 0) := by omega
 have h1 : (k : Int) < 10 := by omega
 have hn : num k = [dg k] := by unfold num num2; rw [if_neg h0, Int.toNat_natCast, if_pos hk]
 rw [hn]
 have hb : Below w.heap.size w (w.alloc (.cells #[.int .u8 (48 + (k : Int))] 5)) := by go_grown
 have hcv := conv1 (w.alloc (.cells #[.int .u8 (48 + (k : Int))] 5)) w.heap.size k hk (by simp [go_sem])
 clear hn
 go_enter Tryz.func72, Tryz.ntmps72
 go_wp2_with fail
 go_ret
 exact ⟨rfl, hb⟩
theorem bytes_app (a b : List UInt8) : (⟨a.toArray⟩ : ByteArray) ++ (⟨b.toArray⟩ : ByteArray) = ⟨(a ++ b).toArray⟩ := by
 apply ByteArray.ext
 simp
set_option maxHeartbeats 1000000 in
set_option maxRecDepth 100000 in
theorem num2_c (k a b : Nat) (ha : a < 10) (ha1 : 1 ≤ a) (hb : b < 10) (hk : k = 10 * a + b) (w : World) : Calls Tryz.prog 72 #[.int .i64 (k : Int)] w fun e w' => e = .returned (txt (num k)) ∧ Below w.heap.size w w' := by
 have h0 : ¬ ((k : Int) < 0) := by omega
 have h1 : ¬ (k : Int) < 10 := by omega
 have hn : num k = [dg a, dg b] := by
  unfold num num2
  rw [if_neg h0, Int.toNat_natCast, if_neg (by omega)]
  rw [show k / 10 = a by omega, show k % 10 = b by omega]
 have hna : num a = [dg a] := by unfold num num2; rw [if_neg (by omega), Int.toNat_natCast, if_pos ha]
 have hq : IntKind.i64.wrap ((k : Int) / 10) = (a : Int) := by rw [show (k : Int) / 10 = a by omega]; exact IntWalk.i64_in _ (by omega)
 have hr : Int.tmod (k : Int) 10 = (b : Int) := by rw [Int.tmod_eq_emod_of_nonneg (by omega), show (k : Int) % 10 = b by omega]
 have hr1 : IntKind.i64.wrap (48 + (b : Int)) = 48 + (b : Int) := IntWalk.i64_in _ (by omega)
 have hr2 : IntKind.u8.wrap (48 + (b : Int)) = 48 + (b : Int) := by unfold IntKind.wrap; simp [IntKind.bits, IntKind.signed]; omega
 rw [hn]
 have hc := fun wq => num1_c a ha wq
 rw [hna] at hc
 have Hc := hide hc
 have Hk : k ≤ 99 := by omega
 clear hn hna hk hc
 go_enter Tryz.func72, Tryz.ntmps72
 go_upto_region 7 with fail
 refine wp_regionE (fun w' => True) 10 (by kernel_rfl) ?_
 change wpE _ _ _ _ _ _ 11 #[false, false, false, false, false, false, false, false, false, false, false] _ _
 have hdr : Below w.heap.size w w.drew := by go_grown
 generalize w.drew = wd at hdr ⊢
 have hS0 := trivial
 refine wpE_tk (v := ?_) 0 [10] (hy := ?_) (hS := hS0) (h := ?_)
 rotate_left
 ·intro w' hSw
  simp only [xg0, xg1, xg2]
  go_simp
  all_goals with_reducible rfl
 simp only [xg0, xg1, xg2, Act.put, xs0, xs1, xs2]
 refine wpE_tk (v := ?_) 1 [10] (hy := ?_) (hS := hS0) (h := ?_)
 rotate_left
 ·intro w' hSw
  simp only [xg0, xg1, xg2]
  go_simp
  all_goals with_reducible rfl
 simp only [xg0, xg1, xg2, Act.put, xs0, xs1, xs2]
 refine wpE_tk (v := ?_) 3 [10] (hy := ?_) (hS := hS0) (h := ?_)
 rotate_left
 ·intro w' hSw
  simp only [xg0, xg1, xg2]
  go_simp
  all_goals with_reducible rfl
 simp only [xg0, xg1, xg2, Act.put, xs0, xs1, xs2]
 refine wpE_tk (v := ?_) 4 [10] (hy := ?_) (hS := hS0) (h := ?_)
 rotate_left
 ·intro w' hSw
  simp only [xg0, xg1, xg2]
  go_simp
  all_goals with_reducible rfl
 simp only [xg0, xg1, xg2, Act.put, xs0, xs1, xs2]
 refine wpE_tk (v := ?_) 5 [10] (hy := ?_) (hS := hS0) (h := ?_)
 rotate_left
 ·intro w' hSw
  simp only [xg0, xg1, xg2]
  go_simp
  all_goals with_reducible rfl
 simp only [xg0, xg1, xg2, Act.put, xs0, xs1, xs2]
 refine wpE_tk (v := ?_) 6 [10] (hy := ?_) (hS := hS0) (h := ?_)
 rotate_left
 ·intro w' hSw
  simp only [xg0, xg1, xg2]
  go_simp
  all_goals with_reducible rfl
 simp only [xg0, xg1, xg2, Act.put, xs0, xs1, xs2]
 refine wpE_two 2 7 (of_decide_eq_true (by kernel_rfl)) (of_decide_eq_true (by kernel_rfl)) (by kernel_rfl) (by kernel_rfl) (by kernel_rfl) (fun K hK => ?_) (fun K hK => ?_)
 ·simp only [xg0, xg1, xg2]
  go_simp
  go_at_call 72
  refine (Hc.out _).mono ?_
  rintro e w2 ⟨rfl, hb2⟩
  unfold txt
  refine hK.out _ _ (.inr trivial) ?_
  clear hK K
  simp only [Act.put, xs0, xs1, xs2]
  refine wpE_step' 7 (of_decide_eq_true (by kernel_rfl)) (by kernel_rfl) (by kernel_rfl) (fun K hK => ?_)
  simp only [xg0, xg1, xg2]
  go_simp
  refine hK.out _ _ (.inr trivial) ?_
  clear hK K
  simp only [Act.put, xs0, xs1, xs2]
  have hcv := conv1 (w2.alloc (.cells #[.int .u8 (48 + (b : Int))] 5)) w2.heap.size b hb (by simp [go_sem])
  refine wpE_step' 8 (of_decide_eq_true (by kernel_rfl)) (by kernel_rfl) (by kernel_rfl) (fun K hK => ?_)
  simp only [xg0, xg1, xg2]
  go_simp
  refine hK.out _ _ (.inr trivial) ?_
  clear hK K
  simp only [Act.put, xs0, xs1, xs2]
  refine wpE_step' 9 (of_decide_eq_true (by kernel_rfl)) (by kernel_rfl) (by kernel_rfl) (fun K hK => ?_)
  simp only [xg0, xg1, xg2]
  go_simp
  refine hK.out _ _ (.inr trivial) ?_
  clear hK K
  simp only [Act.put, xs0, xs1, xs2]
  refine wpE_step' 10 (of_decide_eq_true (by kernel_rfl)) (by kernel_rfl) (by kernel_rfl) (fun K hK => ?_)
  simp only [xg0, xg1, xg2]
  go_simp
  refine hK.out _ _ (.inl rfl) ?_
  clear hK K
  simp only [Act.put, xs0, xs1, xs2]
  refine wpE_done (by kernel_rfl) ?_ _
  have HB := hide (bthen hdr (bthen hb2 (show Below w2.heap.size w2 (w2.alloc (.cells #[.int .u8 (48 + (b : Int))] 5)) by go_grown)))
  go_wp2_with fail
  go_ret
  exact ⟨by unfold txt; rw [bytes_app [dg a] [dg b]]; rfl, HB.out⟩
 ·simp only [xg0, xg1, xg2]
  go_simp
  refine hK.out _ _ (.inr trivial) ?_
  clear hK K
  simp only [Act.put, xs0, xs1, xs2]
  have hcv := conv1 (wd.alloc (.cells #[.int .u8 (48 + (b : Int))] 5)) wd.heap.size b hb (by simp [go_sem])
  have hal : Below wd.heap.size wd (wd.alloc (.cells #[.int .u8 (48 + (b : Int))] 5)) := by go_grown
  refine wpE_two 2 8 (of_decide_eq_true (by kernel_rfl)) (of_decide_eq_true (by kernel_rfl)) (by kernel_rfl) (by kernel_rfl) (by kernel_rfl) (fun K hK => ?_) (fun K hK => ?_)
  ·simp only [xg0, xg1, xg2]
   go_simp
   go_at_call 72
   refine (Hc.out _).mono ?_
   rintro e w2 ⟨rfl, hb2⟩
   unfold txt
   refine hK.out _ _ (.inr trivial) ?_
   clear hK K
   simp only [Act.put, xs0, xs1, xs2]
   clear hcv
   have hcv := conv1 w2 wd.heap.size b hb (((bcell hb2).1 _ _ (by simp)).trans (by simp [go_sem]))
   refine wpE_step' 8 (of_decide_eq_true (by kernel_rfl)) (by kernel_rfl) (by kernel_rfl) (fun K hK => ?_)
   simp only [xg0, xg1, xg2]
   go_simp
   refine hK.out _ _ (.inr trivial) ?_
   clear hK K
   simp only [Act.put, xs0, xs1, xs2]
   refine wpE_step' 9 (of_decide_eq_true (by kernel_rfl)) (by kernel_rfl) (by kernel_rfl) (fun K hK => ?_)
   simp only [xg0, xg1, xg2]
   go_simp
   refine hK.out _ _ (.inr trivial) ?_
   clear hK K
   simp only [Act.put, xs0, xs1, xs2]
   refine wpE_step' 10 (of_decide_eq_true (by kernel_rfl)) (by kernel_rfl) (by kernel_rfl) (fun K hK => ?_)
   simp only [xg0, xg1, xg2]
   go_simp
   refine hK.out _ _ (.inl rfl) ?_
   clear hK K
   simp only [Act.put, xs0, xs1, xs2]
   refine wpE_done (by kernel_rfl) ?_ _
   have HB := hide (bthen hdr (bthen hal hb2))
   go_wp2_with fail
   go_ret
   exact ⟨by unfold txt; rw [bytes_app [dg a] [dg b]]; rfl, HB.out⟩
  ·simp only [xg0, xg1, xg2]
   go_simp
   refine hK.out _ _ (.inr trivial) ?_
   clear hK K
   simp only [Act.put, xs0, xs1, xs2]
   refine wpE_step' 2 (of_decide_eq_true (by kernel_rfl)) (by kernel_rfl) (by kernel_rfl) (fun K hK => ?_)
   simp only [xg0, xg1, xg2]
   go_simp
   go_at_call 72
   refine (Hc.out _).mono ?_
   rintro e w2 ⟨rfl, hb2⟩
   unfold txt
   refine hK.out _ _ (.inr trivial) ?_
   clear hK K
   simp only [Act.put, xs0, xs1, xs2]
   refine wpE_step' 9 (of_decide_eq_true (by kernel_rfl)) (by kernel_rfl) (by kernel_rfl) (fun K hK => ?_)
   simp only [xg0, xg1, xg2]
   go_simp
   refine hK.out _ _ (.inr trivial) ?_
   clear hK K
   simp only [Act.put, xs0, xs1, xs2]
   refine wpE_step' 10 (of_decide_eq_true (by kernel_rfl)) (by kernel_rfl) (by kernel_rfl) (fun K hK => ?_)
   simp only [xg0, xg1, xg2]
   go_simp
   refine hK.out _ _ (.inl rfl) ?_
   clear hK K
   simp only [Act.put, xs0, xs1, xs2]
   refine wpE_done (by kernel_rfl) ?_ _
   have HB := hide (bthen hdr (bthen hal hb2))
   go_wp2_with fail
   go_ret
   exact ⟨by unfold txt; rw [bytes_app [dg a] [dg b]]; rfl, HB.out⟩
theorem num_len (n : Int) (hn : -99 ≤ n ∧ n ≤ 99) : (num n).length ≤ 3 := by
 have h2 : ∀ k, (num2 k).length ≤ 2 := fun k => by unfold num2; split <;> simp
 unfold num
 split
 ·have := h2 (-n).toNat; simp; omega
 ·have := h2 n.toNat; omega
theorem num12_c (k : Nat) (hk : k ≤ 99) (w : World) : Calls Tryz.prog 72 #[.int .i64 (k : Int)] w fun e w' => e = .returned (txt (num k)) ∧ Below w.heap.size w w' := by
 by_cases h : k < 10
 ·exact num1_c k h w
 ·exact num2_c k (k / 10) (k % 10) (by omega) (by omega) (by omega) (by omega) w
set_option maxHeartbeats 1000000 in
theorem num_c (n : Int) (hn : -99 ≤ n ∧ n ≤ 99) (w : World) : Calls Tryz.prog 72 #[.int .i64 n] w fun e w' => e = .returned (txt (num n)) ∧ Below w.heap.size w w' := by
 by_cases h0 : n < 0
 ·have hk : -n = (((-n).toNat : Nat) : Int) := by omega
  have hm : num n = 45 :: num ((-n).toNat : Nat) := by
   unfold num
   rw [if_pos h0, if_neg (by omega), Int.toNat_natCast]
  obtain ⟨k, hkk⟩ : ∃ k, (-n).toNat = k := ⟨_, rfl⟩
  rw [hkk] at hk hm
  have hw : IntKind.i64.wrap (-n) = (k : Int) := by rw [hk]; exact IntWalk.i64_in _ (by omega)
  have hne : (n == (k : Int)) = false := by simp; omega
  rw [hm]
  obtain ⟨ds, hds⟩ : ∃ ds, num (k : Int) = ds := ⟨_, rfl⟩
  rw [hds]
  have hc := fun wq => num12_c k (by omega) wq
  rw [hds] at hc
  have Hc := hide hc
  have hdl : ds.length ≤ 3 := by rw [← hds]; exact num_len _ (by omega)
  clear hm hds hk hkk hc
  go_enter Tryz.func72, Tryz.ntmps72
  go_wp2_with (go_at_call 72; refine (Hc.out _).mono ?_; rintro e w2 ⟨rfl, hb2⟩; unfold txt)
  go_ret
  exact ⟨by unfold txt; rw [show (⟨#[45]⟩ : ByteArray) = ⟨[(45 : UInt8)].toArray⟩ from rfl, bytes_app [45] ds]; rfl, hb2⟩
 ·have := num12_c n.toNat (by omega) w
  rw [show ((n.toNat : Nat) : Int) = n by omega] at this
  exact this

theorem text_len : ∀ {a : Tm}, a.fine → a.text.length ≤ 10 * a.size := by
 intro a
 induction a with
 | step l h =>
   intro hf
   obtain ⟨f0, f1, f2⟩ := hf
   have h1 := num_len l (by omega)
   have h2 := num_len h (by omega)
   simp only [Tm.text, Tm.size]
   split
   ·omega
   ·simp only [List.length_append, List.length_cons]; omega
 | wth a h ih =>
   intro hf
   have h1 := ih hf.1
   have h2 := num_len h (by have := hf.2; omega)
   simp only [Tm.text, Tm.size, brk]
   split <;> simp only [List.length_append, List.length_cons, List.length_nil] <;> omega
 | thn a b iha ihb =>
   intro hf
   have h1 := iha hf.1
   have h2 := ihb hf.2
   simp only [Tm.text, Tm.size, brk]
   split <;> simp only [List.length_append, List.length_cons, List.length_nil] <;> omega
 | bth a b iha ihb =>
   intro hf
   have h1 := iha hf.1
   have h2 := ihb hf.2
   simp only [Tm.text, Tm.size, brk]
   split <;> split <;> simp only [List.length_append, List.length_cons, List.length_nil] <;> omega
theorem brk_len (q : Bool) (l : List UInt8) : (brk q l).length ≤ l.length + 2 := by
 unfold brk; split <;> simp
/-- The last mark of a part. -/
theorem tm_last (a : Tm) : ∃ m t, a.marks = t ++ [m] ∧ (m.k = 1 ↔ a.binds = 0) ∧ (m.k = 2 ↔ a.binds = 1) := by
 cases a with
 | step l h => exact ⟨_, [], rfl, by simp [Tm.binds], by simp [Tm.binds]⟩
 | wth a h => exact ⟨_, _, rfl, by simp [Tm.binds], by simp [Tm.binds]⟩
 | thn a b => exact ⟨_, _, rfl, by simp [Tm.binds], by simp [Tm.binds]⟩
 | bth a b => exact ⟨_, _, rfl, by simp [Tm.binds], by simp [Tm.binds]⟩
theorem binds_le (a : Tm) : a.binds ≤ 2 := by cases a <;> simp [Tm.binds]
set_option maxHeartbeats 1000000 in
theorem l11Binds_q (a : Tm) (A : Option Addr) (b o c : Nat) (w : World) (hs : a.size ≤ 20) (hR : MkR w w.heap.size b o A a.marks) :
  Calls Tryz.prog 126 #[.slice A a.marks.length c] w fun e w' => e = .returned (.int .i64 (a.binds : Int)) ∧ w' = w := by
 have hml := a.marks_len
 obtain ⟨m, t, hm, k1, k2⟩ := tm_last a
 have hb := binds_le a
 rw [hm] at hR hml ⊢
 obtain ⟨rfl, hbl, d0, d1, d2⟩ := mk_end hR
 have hl : (t ++ [m]).length = t.length + 1 := by simp
 rw [hl] at hml ⊢
 obtain ⟨n, hn⟩ : ∃ n, t.length = n := ⟨_, rfl⟩
 rw [hn] at d0 hml ⊢
 have hn20 : n ≤ 20 := by omega
 clear hR hl hm hn d1 d2 hml hs
 by_cases h1 : a.binds = 0
 ·have e1 : (m.k == 1) = true := by simp [k1.2 h1]
  rw [h1]
  clear k1 k2 h1
  go_enter Tryz.func126, Tryz.ntmps126
  go_wp2_with fail
  go_ret
  exact ⟨rfl, rfl⟩
 ·have e1 : (m.k == 1) = false := by simp; exact fun e => h1 (k1.1 e)
  by_cases h2 : a.binds = 1
  ·have e2 : (m.k == 2) = true := by simp [k2.2 h2]
   rw [h2]
   clear k1 k2 h1 h2
   go_enter Tryz.func126, Tryz.ntmps126
   go_wp2_with fail
   go_ret
   exact ⟨rfl, rfl⟩
  ·have e2 : (m.k == 2) = false := by simp; exact fun e => h2 (k2.1 e)
   have h3 : a.binds = 2 := by omega
   rw [h3]
   clear k1 k2 h1 h2 h3
   go_enter Tryz.func126, Tryz.ntmps126
   go_wp2_with fail
   go_ret
   exact ⟨rfl, rfl⟩
set_option maxHeartbeats 1000000 in
theorem l11Held_q (a : Tm) (q : Nat) (hq : q ≤ 2) (A : Option Addr) (b o c : Nat) (w : World) (hf : a.fine) (hs : a.size ≤ 20) (hR : MkR w w.heap.size b o A a.marks)
  (hT : ∀ wq, MkR wq wq.heap.size b o A a.marks → Calls Tryz.prog 99 #[.slice A a.marks.length c] wq fun e w' => e = .returned (txt a.text) ∧ Below wq.heap.size wq w') :
  Calls Tryz.prog 116 #[.slice A a.marks.length c, .int .i64 (q : Int)] w fun e w' => e = .returned (txt (brk (decide (a.binds < q)) a.text)) ∧ Below w.heap.size w w' := by
 have hB := l11Binds_q a A b o c w hs hR
 have hl := text_len hf
 obtain ⟨ds, hds⟩ : ∃ ds, a.text = ds := ⟨_, rfl⟩
 obtain ⟨n, hn⟩ : ∃ n, a.marks.length = n := ⟨_, rfl⟩
 obtain ⟨k, hk⟩ : ∃ k, a.binds = k := ⟨_, rfl⟩
 rw [hds] at hl hT ⊢
 rw [hn] at hB hT ⊢
 rw [hk] at hB ⊢
 have hb := binds_le a
 rw [hk] at hb
 have hT2 := hT w hR
 have hdl : ds.length ≤ 200 := by omega
 clear hds hn hT hR hl hk
 by_cases h : k < q
 ·have hz : (k : Int) < (q : Int) := by omega
  rw [decide_eq_true h]
  go_enter Tryz.func116, Tryz.ntmps116
  go_wp2_with (first
   | (go_at_call 126; refine hB.mono ?_; rintro e w2 ⟨rfl, rfl⟩)
   | (go_at_call 99; refine hT2.mono ?_; rintro e w3 ⟨rfl, hb3⟩; unfold txt))
  go_ret
  exact ⟨by unfold txt; rw [show (⟨#[40]⟩ : ByteArray) = ⟨[(40 : UInt8)].toArray⟩ from rfl, show (⟨#[41]⟩ : ByteArray) = ⟨[(41 : UInt8)].toArray⟩ from rfl, bytes_app, bytes_app]; rfl, hb3⟩
 ·have hz : ¬ (k : Int) < (q : Int) := by omega
  rw [decide_eq_false h]
  go_enter Tryz.func116, Tryz.ntmps116
  go_wp2_with (first
   | (go_at_call 126; refine hB.mono ?_; rintro e w2 ⟨rfl, rfl⟩)
   | (go_at_call 99; refine hT2.mono ?_; rintro e w3 ⟨rfl, hb3⟩))
  go_ret
  exact ⟨rfl, hb3⟩

set_option maxHeartbeats 4000000 in
set_option maxRecDepth 100000 in
theorem l11Text_q : ∀ (a : Tm) (A : Option Addr) (b o c : Nat) (w : World), a.fine → a.size ≤ 20 → a.marks.length ≤ c → MkR w w.heap.size b o A a.marks →
  Calls Tryz.prog 99 #[.slice A a.marks.length c] w fun e w' => e = .returned (txt a.text) ∧ Below w.heap.size w w' := by
 intro a
 induction a with
 | step l h =>
   intro A b o c w hf hs hc hR
   obtain ⟨f0, f1, f2⟩ := hf
   have hR' : MkR w w.heap.size b o A ([] ++ [⟨0, l, h⟩]) := hR
   obtain ⟨rfl, hbl, d0, d1, d2⟩ := mk_end hR'
   simp only [List.length_nil, Nat.zero_mul, Nat.add_zero] at d0 d1 d2
   rw [show (Tm.step l h).marks.length = 0 + 1 from rfl]
   clear hR hR' hc
   have hal : Below w.heap.size w (w.alloc (.cells #[.int .i64 0, .int .i64 l, .int .i64 h] 139)) := by go_grown
   have hM := mb_new w ⟨0, l, h⟩ 139
   have hRs : True := trivial
   have hl1 := num_len l (by omega)
   have hl2 := num_len h (by omega)
   obtain ⟨x, hx⟩ : ∃ x, num l = x := ⟨_, rfl⟩
   obtain ⟨y, hy⟩ : ∃ y, num h = y := ⟨_, rfl⟩
   rw [hx] at hl1
   rw [hy] at hl2
   have hcx := fun wq => num_c l (by omega) wq
   have hcy := fun wq => num_c h (by omega) wq
   rw [hx] at hcx
   rw [hy] at hcy
   have Hcx := hide hcx
   have Hcy := hide hcy
   by_cases hlh : l = h
   ·have ht : (Tm.step l h).text = x := by simp [Tm.text, hlh]; rw [← hlh, hx]
    rw [ht]
    subst hlh
    clear hx hy hcx hcy ht
    go_enter Tryz.func99, Tryz.ntmps99
    go_upto_region 3 with fail
    generalize w.alloc (.cells #[.int .i64 0, .int .i64 l, .int .i64 l] 139) = W at hal hM hRs ⊢
    generalize w.heap.size = V at hM ⊢
    have v0 := hM.c0
    have v1 := hM.c1
    have v2 := hM.c2
    dsimp only at v0 v1 v2
    go_wp2_with (go_at_call 72; refine (Hcx.out _).mono ?_; rintro e w2 ⟨rfl, hb2⟩)
    go_ret
    exact ⟨rfl, bthen hal hb2⟩
   ·have ht : (Tm.step l h).text = x ++ 45 :: y := by simp [Tm.text, hlh, hx, hy]
    have hz : (l == h) = false := by simpa using hlh
    rw [ht]
    clear hx hy hcx hcy ht hlh
    go_enter Tryz.func99, Tryz.ntmps99
    go_upto_region 3 with fail
    generalize w.alloc (.cells #[.int .i64 0, .int .i64 l, .int .i64 h] 139) = W at hal hM hRs ⊢
    generalize w.heap.size = V at hM ⊢
    have v0 := hM.c0
    have v1 := hM.c1
    have v2 := hM.c2
    dsimp only at v0 v1 v2
    go_upto_region 7 with fail
    refine wp_regionE (fun w' => w'.cell? ⟨V, 1, none⟩ = some (.int .i64 l) ∧ w'.cell? ⟨V, 2, none⟩ = some (.int .i64 h)) 8 (by kernel_rfl) ?_
    change wpE _ _ _ _ _ _ (8 + 1) #[false, false, false, false, false, false, false, false, false] _ _
    have hdr : Below W.heap.size W W.drew := by go_grown
    have hMd := hM.below hdr
    generalize W.drew = wd at hdr hMd ⊢
    have hS0 : wd.cell? ⟨V, 1, none⟩ = some (.int .i64 l) ∧ wd.cell? ⟨V, 2, none⟩ = some (.int .i64 h) := ⟨hMd.c1, hMd.c2⟩
    refine wpE_tk (v := ?_) 0 [8] (hy := ?_) (hS := hS0) (h := ?_)
    rotate_left
    ·intro w' hSw
     obtain ⟨hs0, hs1⟩ := hSw
     simp only [xg0, xg1, xg2]
     go_simp
     try simp only [if_pos kk1, if_pos kk2, if_pos kk3, if_neg kk4, kk5]
     all_goals with_reducible rfl
    simp only [xg0, xg1, xg2, Act.put, xs0, xs1, xs2]
    refine wpE_tk (v := ?_) 1 [8] (hy := ?_) (hS := hS0) (h := ?_)
    rotate_left
    ·intro w' hSw
     obtain ⟨hs0, hs1⟩ := hSw
     simp only [xg0, xg1, xg2]
     go_simp
     try simp only [if_pos kk1, if_pos kk2, if_pos kk3, if_neg kk4, kk5]
     all_goals with_reducible rfl
    simp only [xg0, xg1, xg2, Act.put, xs0, xs1, xs2]
    refine wpE_tk (v := ?_) 4 [8] (hy := ?_) (hS := hS0) (h := ?_)
    rotate_left
    ·intro w' hSw
     obtain ⟨hs0, hs1⟩ := hSw
     simp only [xg0, xg1, xg2]
     go_simp
     try simp only [if_pos kk1, if_pos kk2, if_pos kk3, if_neg kk4, kk5]
     all_goals with_reducible rfl
    simp only [xg0, xg1, xg2, Act.put, xs0, xs1, xs2]
    refine wpE_tk (v := ?_) 5 [8] (hy := ?_) (hS := hS0) (h := ?_)
    rotate_left
    ·intro w' hSw
     obtain ⟨hs0, hs1⟩ := hSw
     simp only [xg0, xg1, xg2]
     go_simp
     try simp only [if_pos kk1, if_pos kk2, if_pos kk3, if_neg kk4, kk5]
     all_goals with_reducible rfl
    simp only [xg0, xg1, xg2, Act.put, xs0, xs1, xs2]
    refine wpE_step' 2 (of_decide_eq_true (by kernel_rfl)) (by kernel_rfl) (by kernel_rfl) (fun K hK => ?_)
    simp only [xg0, xg1, xg2]
    go_simp
    go_at_call 72
    refine (Hcx.out _).mono ?_
    rintro e w2 ⟨rfl, hb2⟩
    unfold txt
    replace hMd := hMd.below hb2
    replace hdr := bthen hdr hb2
    refine hK.out _ _ (.inr ⟨hMd.c1, hMd.c2⟩) ?_
    clear hK K hS0
    simp only [Act.put, xs0, xs1, xs2]
    have hS0 : w2.cell? ⟨V, 1, none⟩ = some (.int .i64 l) ∧ w2.cell? ⟨V, 2, none⟩ = some (.int .i64 h) := ⟨hMd.c1, hMd.c2⟩
    clear hb2
    refine wpE_tk (v := ?_) 3 [7, 8] (hy := ?_) (hS := hS0) (h := ?_)
    rotate_left
    ·intro w' hSw
     obtain ⟨hs0, hs1⟩ := hSw
     simp only [xg0, xg1, xg2]
     go_simp
     try rw [if_neg (by omega)]
     all_goals with_reducible rfl
    simp only [xg0, xg1, xg2, Act.put, xs0, xs1, xs2]
    refine wpE_step' 6 (of_decide_eq_true (by kernel_rfl)) (by kernel_rfl) (by kernel_rfl) (fun K hK => ?_)
    simp only [xg0, xg1, xg2]
    go_simp
    go_at_call 72
    refine (Hcy.out _).mono ?_
    rintro e w2 ⟨rfl, hb2⟩
    unfold txt
    replace hMd := hMd.below hb2
    replace hdr := bthen hdr hb2
    refine hK.out _ _ (.inr ⟨hMd.c1, hMd.c2⟩) ?_
    clear hK K hS0
    simp only [Act.put, xs0, xs1, xs2]
    have hS0 : w2.cell? ⟨V, 1, none⟩ = some (.int .i64 l) ∧ w2.cell? ⟨V, 2, none⟩ = some (.int .i64 h) := ⟨hMd.c1, hMd.c2⟩
    clear hb2
    refine wpE_tk (v := ?_) 7 [8] (hy := ?_) (hS := hS0) (h := ?_)
    rotate_left
    ·intro w' hSw
     obtain ⟨hs0, hs1⟩ := hSw
     simp only [xg0, xg1, xg2]
     go_simp
     try rw [if_neg (by omega)]
     all_goals with_reducible rfl
    simp only [xg0, xg1, xg2, Act.put, xs0, xs1, xs2]
    refine wpE_step' 8 (of_decide_eq_true (by kernel_rfl)) (by kernel_rfl) (by kernel_rfl) (fun K hK => ?_)
    simp only [xg0, xg1, xg2]
    go_simp
    refine hK.out _ _ (.inl rfl) ?_
    clear hK K
    simp only [Act.put, xs0, xs1, xs2]
    refine wpE_done (by kernel_rfl) ?_ _
    go_wp2_with fail
    go_ret
    exact ⟨by unfold txt; rw [show (⟨#[45]⟩ : ByteArray) = ⟨[(45 : UInt8)].toArray⟩ from rfl, bytes_app, bytes_app]; simp, bthen hal hdr⟩
 | wth a h ih0 =>
   intro A b o c w hf hs hc hR
   obtain ⟨hf0, hh1, hh2⟩ := hf
   have hR' : MkR w w.heap.size b o A (a.marks ++ [⟨3, 0, h⟩]) := hR
   obtain ⟨rfl, hbl, d0, d1, d2⟩ := mk_end hR'
   have hRa := (mk_app hR').1
   have hml := a.marks_len
   obtain ⟨n, hn⟩ : ∃ n, a.marks.length = n := ⟨_, rfl⟩
   simp only [Tm.size] at hs
   have hn20 : n ≤ 20 := by rw [← hn, hml]; omega
   have hlen : (Tm.wth a h).marks.length = n + 1 := by simp [Tm.marks, hn]
   rw [hlen] at hc ⊢
   rw [hn] at d0 d1 d2
   have hh0 := fun wq hq => l11Held_q a 2 (by omega) (some ⟨b, o, none⟩) b o c wq hf0 (by omega) hq (fun wp hp => ih0 (some ⟨b, o, none⟩) b o c wp hf0 (by omega) (by omega) hp)
   obtain ⟨x, hx⟩ : ∃ x, brk (decide (a.binds < 2)) a.text = x := ⟨_, rfl⟩
   obtain ⟨y, hy⟩ : ∃ y, num h = y := ⟨_, rfl⟩
   have ht : (Tm.wth a h).text = x ++ 60 :: y := by rw [← hx, ← hy]; rfl
   have hxl : x.length ≤ 300 := by rw [← hx]; have := brk_len (decide (a.binds < 2)) a.text; have := text_len hf0; omega
   have hyl : y.length ≤ 3 := by rw [← hy]; exact num_len h (by omega)
   rw [hx, hn] at hh0
   have hcy := fun wq => num_c h (by omega) wq
   rw [hy] at hcy
   have kk1 : n ≤ c := by omega
   have Hc := hide hh0
   have Hcy := hide hcy
   rw [ht]
   have hal : Below w.heap.size w (w.alloc (.cells #[.int .i64 3, .int .i64 0, .int .i64 h] 139)) := by go_grown
   have hM := mb_new w ⟨3, 0, h⟩ 139
   have hRs := (hRa.below hal).more hal.size
   clear hR hR' hml hn hlen hh0 ih0 hRa hx hy ht hcy
   go_enter Tryz.func99, Tryz.ntmps99
   go_upto_region 3 with fail
   generalize w.alloc (.cells #[.int .i64 3, .int .i64 0, .int .i64 h] 139) = W at hal hM hRs ⊢
   generalize w.heap.size = V at hM ⊢
   have v0 := hM.c0
   have v1 := hM.c1
   have v2 := hM.c2
   dsimp only at v0 v1 v2
   go_upto_region 9 with fail
   refine wp_regionE (fun w' => w'.cell? ⟨V, 1, none⟩ = some (.int .i64 0) ∧ w'.cell? ⟨V, 2, none⟩ = some (.int .i64 h)) 9 (by kernel_rfl) ?_
   change wpE _ _ _ _ _ _ (9 + 1) #[false, false, false, false, false, false, false, false, false, false] _ _
   have hdr : Below W.heap.size W W.drew := by go_grown
   have hMd := hM.below hdr
   generalize W.drew = wd at hdr hMd ⊢
   have hS0 : wd.cell? ⟨V, 1, none⟩ = some (.int .i64 0) ∧ wd.cell? ⟨V, 2, none⟩ = some (.int .i64 h) := ⟨hMd.c1, hMd.c2⟩
   replace hRs := (CsR.below hRs hdr).more hdr.size
   refine wpE_tk (v := ?_) 0 [9] (hy := ?_) (hS := hS0) (h := ?_)
   rotate_left
   ·intro w' hSw
    obtain ⟨hs0, hs1⟩ := hSw
    simp only [xg0, xg1, xg2]
    go_simp
    try simp only [if_pos kk1, if_pos kk2, if_pos kk3, if_neg kk4, kk5]
    all_goals with_reducible rfl
   simp only [xg0, xg1, xg2, Act.put, xs0, xs1, xs2]
   refine wpE_tk (v := ?_) 1 [9] (hy := ?_) (hS := hS0) (h := ?_)
   rotate_left
   ·intro w' hSw
    obtain ⟨hs0, hs1⟩ := hSw
    simp only [xg0, xg1, xg2]
    go_simp
    try simp only [if_pos kk1, if_pos kk2, if_pos kk3, if_neg kk4, kk5]
    all_goals with_reducible rfl
   simp only [xg0, xg1, xg2, Act.put, xs0, xs1, xs2]
   refine wpE_tk (v := ?_) 2 [9] (hy := ?_) (hS := hS0) (h := ?_)
   rotate_left
   ·intro w' hSw
    obtain ⟨hs0, hs1⟩ := hSw
    simp only [xg0, xg1, xg2]
    go_simp
    try simp only [if_pos kk1, if_pos kk2, if_pos kk3, if_neg kk4, kk5]
    all_goals with_reducible rfl
   simp only [xg0, xg1, xg2, Act.put, xs0, xs1, xs2]
   refine wpE_tk (v := ?_) 5 [9] (hy := ?_) (hS := hS0) (h := ?_)
   rotate_left
   ·intro w' hSw
    obtain ⟨hs0, hs1⟩ := hSw
    simp only [xg0, xg1, xg2]
    go_simp
    try simp only [if_pos kk1, if_pos kk2, if_pos kk3, if_neg kk4, kk5]
    all_goals with_reducible rfl
   simp only [xg0, xg1, xg2, Act.put, xs0, xs1, xs2]
   refine wpE_tk (v := ?_) 6 [9] (hy := ?_) (hS := hS0) (h := ?_)
   rotate_left
   ·intro w' hSw
    obtain ⟨hs0, hs1⟩ := hSw
    simp only [xg0, xg1, xg2]
    go_simp
    try simp only [if_pos kk1, if_pos kk2, if_pos kk3, if_neg kk4, kk5]
    all_goals with_reducible rfl
   simp only [xg0, xg1, xg2, Act.put, xs0, xs1, xs2]
   refine wpE_step' 3 (of_decide_eq_true (by kernel_rfl)) (by kernel_rfl) (by kernel_rfl) (fun K hK => ?_)
   simp only [xg0, xg1, xg2]
   go_simp
   go_at_call 116
   refine (Hc.out _ hRs).mono ?_
   rintro e w2 ⟨rfl, hb2⟩
   unfold txt
   replace hMd := hMd.below hb2
   replace hdr := bthen hdr hb2
   refine hK.out _ _ (.inr ⟨hMd.c1, hMd.c2⟩) ?_
   clear hK K hS0
   simp only [Act.put, xs0, xs1, xs2]
   have hS0 : w2.cell? ⟨V, 1, none⟩ = some (.int .i64 0) ∧ w2.cell? ⟨V, 2, none⟩ = some (.int .i64 h) := ⟨hMd.c1, hMd.c2⟩
   clear hb2
   refine wpE_tk (v := ?_) 4 [8, 9] (hy := ?_) (hS := hS0) (h := ?_)
   rotate_left
   ·intro w' hSw
    obtain ⟨hs0, hs1⟩ := hSw
    simp only [xg0, xg1, xg2]
    go_simp
    try rw [if_neg (by omega)]
    all_goals with_reducible rfl
   simp only [xg0, xg1, xg2, Act.put, xs0, xs1, xs2]
   refine wpE_step' 7 (of_decide_eq_true (by kernel_rfl)) (by kernel_rfl) (by kernel_rfl) (fun K hK => ?_)
   simp only [xg0, xg1, xg2]
   go_simp
   go_at_call 72
   refine (Hcy.out _).mono ?_
   rintro e w2 ⟨rfl, hb2⟩
   unfold txt
   replace hMd := hMd.below hb2
   replace hdr := bthen hdr hb2
   refine hK.out _ _ (.inr ⟨hMd.c1, hMd.c2⟩) ?_
   clear hK K hS0
   simp only [Act.put, xs0, xs1, xs2]
   have hS0 : w2.cell? ⟨V, 1, none⟩ = some (.int .i64 0) ∧ w2.cell? ⟨V, 2, none⟩ = some (.int .i64 h) := ⟨hMd.c1, hMd.c2⟩
   clear hb2
   refine wpE_tk (v := ?_) 8 [9] (hy := ?_) (hS := hS0) (h := ?_)
   rotate_left
   ·intro w' hSw
    obtain ⟨hs0, hs1⟩ := hSw
    simp only [xg0, xg1, xg2]
    go_simp
    try rw [if_neg (by omega)]
    all_goals with_reducible rfl
   simp only [xg0, xg1, xg2, Act.put, xs0, xs1, xs2]
   refine wpE_step' 9 (of_decide_eq_true (by kernel_rfl)) (by kernel_rfl) (by kernel_rfl) (fun K hK => ?_)
   simp only [xg0, xg1, xg2]
   go_simp
   refine hK.out _ _ (.inl rfl) ?_
   clear hK K
   simp only [Act.put, xs0, xs1, xs2]
   refine wpE_done (by kernel_rfl) ?_ _
   go_wp2_with fail
   go_ret
   exact ⟨by unfold txt; rw [show (⟨#[60]⟩ : ByteArray) = ⟨[(60 : UInt8)].toArray⟩ from rfl, bytes_app, bytes_app]; simp, bthen hal hdr⟩
 | thn a a' ih0 ih1 =>
   intro A b o c w hf hs hc hR
   obtain ⟨hf0, hf1⟩ := hf
   have hR' : MkR w w.heap.size b o A ((a.marks ++ a'.marks) ++ [⟨1, 0, 0⟩]) := hR
   obtain ⟨rfl, hbl, d0, d1, d2⟩ := mk_end hR'
   obtain ⟨hRa, hRb⟩ := mk_app (mk_app hR').1
   have hml := a.marks_len
   have hml' := a'.marks_len
   obtain ⟨n, hn⟩ : ∃ n, a.marks.length = n := ⟨_, rfl⟩
   obtain ⟨n', hn'⟩ : ∃ n, a'.marks.length = n := ⟨_, rfl⟩
   simp only [Tm.size] at hs
   have hn20 : n + n' ≤ 20 := by rw [← hn, hml, ← hn', hml']; omega
   have hn1 : 1 ≤ n ∧ 1 ≤ n' := by rw [← hn, hml, ← hn', hml']; cases a <;> cases a' <;> simp [Tm.size]
   have hlen : (Tm.thn a a').marks.length = n + n' + 1 := by simp [Tm.marks, hn, hn']; omega
   rw [hlen] at hc ⊢
   rw [List.length_append, hn, hn'] at d0 d1 d2
   rw [hn] at hRb
   have hh0 := fun wq hq => l11Held_q a 0 (by omega) (some ⟨b, o, none⟩) b o c wq hf0 (by omega) hq (fun wp hp => ih0 (some ⟨b, o, none⟩) b o c wp hf0 (by omega) (by omega) hp)
   have hh1 := fun wq hq => l11Held_q a' 1 (by omega) (some ⟨b, o + n * 3, none⟩) b (o + n * 3) (c - n) wq hf1 (by omega) hq (fun wp hp => ih1 (some ⟨b, o + n * 3, none⟩) b (o + n * 3) (c - n) wp hf1 (by omega) (by omega) hp)
   obtain ⟨x, hx⟩ : ∃ x, brk (decide (a.binds < 0)) a.text = x := ⟨_, rfl⟩
   obtain ⟨y, hy⟩ : ∃ y, brk (decide (a'.binds < 1)) a'.text = y := ⟨_, rfl⟩
   have ht : (Tm.thn a a').text = x ++ 59 :: y := by rw [← hx, ← hy]; simp [Tm.text, brk]
   have hxl : x.length ≤ 300 := by rw [← hx]; have := brk_len (decide (a.binds < 0)) a.text; have := text_len hf0; omega
   have hyl : y.length ≤ 300 := by rw [← hy]; have := brk_len (decide (a'.binds < 1)) a'.text; have := text_len hf1; omega
   rw [hx, hn] at hh0
   rw [hy, hn'] at hh1
   have hst := fun wq hq => l11Starts_c a' (Tm.thn a a').marks n (fun j x hx => by
    show ((a.marks ++ a'.marks) ++ [_])[n + j]? = some x
    rw [List.append_assoc, List.getElem?_append_right (by omega), hn, Nat.add_sub_cancel_left, List.getElem?_append_left (List.getElem?_eq_some_iff.1 hx).1]; exact hx) (by omega) (((n + n' : Nat) : Int) - 1) (by rw [← hml', hn']; omega) (some ⟨b, o, none⟩) b o c _ wq (Nat.le_refl _) hq (by rw [hlen]; omega)
   rw [hlen] at hst
   obtain ⟨hn1a, hn1b⟩ := hn1
   have kk1 : n ≤ c := by omega
   have kk2 : 0 ≤ (n : Int) + (n' : Int) ∧ (n : Int) + (n' : Int) ≤ (c : Int) := by omega
   have kk3 : n ≤ ((n : Int) + (n' : Int)).toNat := by omega
   have kk4 : ¬ c = n := by omega
   have kk5 : ((n : Int) + (n' : Int)).toNat - n = n' := by omega
   have Hst := hide hst
   have Hc := hide hh0
   have Hc1 := hide hh1
   rw [ht]
   have hal : Below w.heap.size w (w.alloc (.cells #[.int .i64 1, .int .i64 0, .int .i64 0] 139)) := by go_grown
   have hM := mb_new w ⟨1, 0, 0⟩ 139
   have hRs := And.intro ((hRa.below hal).more hal.size) (And.intro ((hRb.below hal).more hal.size) ((hR.below hal).more hal.size))
   clear hR hR' hml hml' hn hn' hlen hh0 hh1 hst ih0 ih1 hRa hRb hx hy ht
   go_enter Tryz.func99, Tryz.ntmps99
   go_upto_region 3 with fail
   generalize w.alloc (.cells #[.int .i64 1, .int .i64 0, .int .i64 0] 139) = W at hal hM hRs ⊢
   generalize w.heap.size = V at hM ⊢
   have v0 := hM.c0
   have v1 := hM.c1
   have v2 := hM.c2
   dsimp only at v0 v1 v2
   obtain ⟨hRa2, hRb2, hRt2⟩ := hRs
   go_upto_region 12 with (go_at_call 117; refine (Hst.out _ hRt2).mono ?_; rintro e w9 ⟨rfl, hw9⟩; obtain rfl := hw9.symm; clear hw9)
   refine wp_regionE (fun w' => w'.cell? ⟨V, 1, none⟩ = some (.int .i64 0) ∧ w'.cell? ⟨V, 2, none⟩ = some (.int .i64 0)) 11 (by kernel_rfl) ?_
   change wpE _ _ _ _ _ _ (11 + 1) #[false, false, false, false, false, false, false, false, false, false, false, false] _ _
   have hdr : Below W.heap.size W W.drew := by go_grown
   have hMd := hM.below hdr
   generalize W.drew = wd at hdr hMd ⊢
   have hS0 : wd.cell? ⟨V, 1, none⟩ = some (.int .i64 0) ∧ wd.cell? ⟨V, 2, none⟩ = some (.int .i64 0) := ⟨hMd.c1, hMd.c2⟩
   replace hRa2 := (CsR.below hRa2 hdr).more hdr.size
   replace hRb2 := (CsR.below hRb2 hdr).more hdr.size
   refine wpE_tk (v := ?_) 0 [11] (hy := ?_) (hS := hS0) (h := ?_)
   rotate_left
   ·intro w' hSw
    obtain ⟨hs0, hs1⟩ := hSw
    simp only [xg0, xg1, xg2]
    go_simp
    try simp only [if_pos kk1, if_pos kk2, if_pos kk3, if_neg kk4, kk5]
    all_goals with_reducible rfl
   simp only [xg0, xg1, xg2, Act.put, xs0, xs1, xs2]
   refine wpE_tk (v := ?_) 1 [11] (hy := ?_) (hS := hS0) (h := ?_)
   rotate_left
   ·intro w' hSw
    obtain ⟨hs0, hs1⟩ := hSw
    simp only [xg0, xg1, xg2]
    go_simp
    try simp only [if_pos kk1, if_pos kk2, if_pos kk3, if_neg kk4, kk5]
    all_goals with_reducible rfl
   simp only [xg0, xg1, xg2, Act.put, xs0, xs1, xs2]
   refine wpE_tk (v := ?_) 2 [11] (hy := ?_) (hS := hS0) (h := ?_)
   rotate_left
   ·intro w' hSw
    obtain ⟨hs0, hs1⟩ := hSw
    simp only [xg0, xg1, xg2]
    go_simp
    try simp only [if_pos kk1, if_pos kk2, if_pos kk3, if_neg kk4, kk5]
    all_goals with_reducible rfl
   simp only [xg0, xg1, xg2, Act.put, xs0, xs1, xs2]
   refine wpE_tk (v := ?_) 5 [11] (hy := ?_) (hS := hS0) (h := ?_)
   rotate_left
   ·intro w' hSw
    obtain ⟨hs0, hs1⟩ := hSw
    simp only [xg0, xg1, xg2]
    go_simp
    try simp only [if_pos kk1, if_pos kk2, if_pos kk3, if_neg kk4, kk5]
    all_goals with_reducible rfl
   simp only [xg0, xg1, xg2, Act.put, xs0, xs1, xs2]
   refine wpE_tk (v := ?_) 6 [11] (hy := ?_) (hS := hS0) (h := ?_)
   rotate_left
   ·intro w' hSw
    obtain ⟨hs0, hs1⟩ := hSw
    simp only [xg0, xg1, xg2]
    go_simp
    try simp only [if_pos kk1, if_pos kk2, if_pos kk3, if_neg kk4, kk5]
    all_goals with_reducible rfl
   simp only [xg0, xg1, xg2, Act.put, xs0, xs1, xs2]
   refine wpE_tk (v := ?_) 7 [11] (hy := ?_) (hS := hS0) (h := ?_)
   rotate_left
   ·intro w' hSw
    obtain ⟨hs0, hs1⟩ := hSw
    simp only [xg0, xg1, xg2]
    go_simp
    try simp only [if_pos kk1, if_pos kk2, if_pos kk3, if_neg kk4, kk5]
    all_goals with_reducible rfl
   simp only [xg0, xg1, xg2, Act.put, xs0, xs1, xs2]
   refine wpE_tk (v := ?_) 8 [11] (hy := ?_) (hS := hS0) (h := ?_)
   rotate_left
   ·intro w' hSw
    obtain ⟨hs0, hs1⟩ := hSw
    simp only [xg0, xg1, xg2]
    go_simp
    try simp only [if_pos kk1, if_pos kk2, if_pos kk3, if_neg kk4, kk5]
    all_goals with_reducible rfl
   simp only [xg0, xg1, xg2, Act.put, xs0, xs1, xs2]
   refine wpE_step' 3 (of_decide_eq_true (by kernel_rfl)) (by kernel_rfl) (by kernel_rfl) (fun K hK => ?_)
   simp only [xg0, xg1, xg2]
   go_simp
   go_at_call 116
   refine (Hc.out _ hRa2).mono ?_
   rintro e w2 ⟨rfl, hb2⟩
   unfold txt
   replace hMd := hMd.below hb2
   replace hdr := bthen hdr hb2
   refine hK.out _ _ (.inr ⟨hMd.c1, hMd.c2⟩) ?_
   clear hK K hS0
   simp only [Act.put, xs0, xs1, xs2]
   have hS0 : w2.cell? ⟨V, 1, none⟩ = some (.int .i64 0) ∧ w2.cell? ⟨V, 2, none⟩ = some (.int .i64 0) := ⟨hMd.c1, hMd.c2⟩
   replace hRb2 := (CsR.below hRb2 hb2).more hb2.size
   clear hb2
   refine wpE_tk (v := ?_) 4 [10, 11] (hy := ?_) (hS := hS0) (h := ?_)
   rotate_left
   ·intro w' hSw
    obtain ⟨hs0, hs1⟩ := hSw
    simp only [xg0, xg1, xg2]
    go_simp
    try rw [if_neg (by omega)]
    all_goals with_reducible rfl
   simp only [xg0, xg1, xg2, Act.put, xs0, xs1, xs2]
   refine wpE_step' 9 (of_decide_eq_true (by kernel_rfl)) (by kernel_rfl) (by kernel_rfl) (fun K hK => ?_)
   simp only [xg0, xg1, xg2]
   go_simp
   go_at_call 116
   refine (Hc1.out _ hRb2).mono ?_
   rintro e w2 ⟨rfl, hb2⟩
   unfold txt
   replace hMd := hMd.below hb2
   replace hdr := bthen hdr hb2
   refine hK.out _ _ (.inr ⟨hMd.c1, hMd.c2⟩) ?_
   clear hK K hS0
   simp only [Act.put, xs0, xs1, xs2]
   have hS0 : w2.cell? ⟨V, 1, none⟩ = some (.int .i64 0) ∧ w2.cell? ⟨V, 2, none⟩ = some (.int .i64 0) := ⟨hMd.c1, hMd.c2⟩
   clear hb2
   refine wpE_tk (v := ?_) 10 [11] (hy := ?_) (hS := hS0) (h := ?_)
   rotate_left
   ·intro w' hSw
    obtain ⟨hs0, hs1⟩ := hSw
    simp only [xg0, xg1, xg2]
    go_simp
    try rw [if_neg (by omega)]
    all_goals with_reducible rfl
   simp only [xg0, xg1, xg2, Act.put, xs0, xs1, xs2]
   refine wpE_step' 11 (of_decide_eq_true (by kernel_rfl)) (by kernel_rfl) (by kernel_rfl) (fun K hK => ?_)
   simp only [xg0, xg1, xg2]
   go_simp
   refine hK.out _ _ (.inl rfl) ?_
   clear hK K
   simp only [Act.put, xs0, xs1, xs2]
   refine wpE_done (by kernel_rfl) ?_ _
   go_wp2_with fail
   go_ret
   exact ⟨by unfold txt; rw [show (⟨#[59]⟩ : ByteArray) = ⟨[(59 : UInt8)].toArray⟩ from rfl, bytes_app, bytes_app]; simp, bthen hal hdr⟩
 | bth a a' ih0 ih1 =>
   intro A b o c w hf hs hc hR
   obtain ⟨hf0, hf1⟩ := hf
   have hR' : MkR w w.heap.size b o A ((a.marks ++ a'.marks) ++ [⟨2, 0, 0⟩]) := hR
   obtain ⟨rfl, hbl, d0, d1, d2⟩ := mk_end hR'
   obtain ⟨hRa, hRb⟩ := mk_app (mk_app hR').1
   have hml := a.marks_len
   have hml' := a'.marks_len
   obtain ⟨n, hn⟩ : ∃ n, a.marks.length = n := ⟨_, rfl⟩
   obtain ⟨n', hn'⟩ : ∃ n, a'.marks.length = n := ⟨_, rfl⟩
   simp only [Tm.size] at hs
   have hn20 : n + n' ≤ 20 := by rw [← hn, hml, ← hn', hml']; omega
   have hn1 : 1 ≤ n ∧ 1 ≤ n' := by rw [← hn, hml, ← hn', hml']; cases a <;> cases a' <;> simp [Tm.size]
   have hlen : (Tm.bth a a').marks.length = n + n' + 1 := by simp [Tm.marks, hn, hn']; omega
   rw [hlen] at hc ⊢
   rw [List.length_append, hn, hn'] at d0 d1 d2
   rw [hn] at hRb
   have hh0 := fun wq hq => l11Held_q a 1 (by omega) (some ⟨b, o, none⟩) b o c wq hf0 (by omega) hq (fun wp hp => ih0 (some ⟨b, o, none⟩) b o c wp hf0 (by omega) (by omega) hp)
   have hh1 := fun wq hq => l11Held_q a' 2 (by omega) (some ⟨b, o + n * 3, none⟩) b (o + n * 3) (c - n) wq hf1 (by omega) hq (fun wp hp => ih1 (some ⟨b, o + n * 3, none⟩) b (o + n * 3) (c - n) wp hf1 (by omega) (by omega) hp)
   obtain ⟨x, hx⟩ : ∃ x, brk (decide (a.binds < 1)) a.text = x := ⟨_, rfl⟩
   obtain ⟨y, hy⟩ : ∃ y, brk (decide (a'.binds < 2)) a'.text = y := ⟨_, rfl⟩
   have ht : (Tm.bth a a').text = x ++ 38 :: y := by rw [← hx, ← hy]; simp [Tm.text, brk]
   have hxl : x.length ≤ 300 := by rw [← hx]; have := brk_len (decide (a.binds < 1)) a.text; have := text_len hf0; omega
   have hyl : y.length ≤ 300 := by rw [← hy]; have := brk_len (decide (a'.binds < 2)) a'.text; have := text_len hf1; omega
   rw [hx, hn] at hh0
   rw [hy, hn'] at hh1
   have hst := fun wq hq => l11Starts_c a' (Tm.bth a a').marks n (fun j x hx => by
    show ((a.marks ++ a'.marks) ++ [_])[n + j]? = some x
    rw [List.append_assoc, List.getElem?_append_right (by omega), hn, Nat.add_sub_cancel_left, List.getElem?_append_left (List.getElem?_eq_some_iff.1 hx).1]; exact hx) (by omega) (((n + n' : Nat) : Int) - 1) (by rw [← hml', hn']; omega) (some ⟨b, o, none⟩) b o c _ wq (Nat.le_refl _) hq (by rw [hlen]; omega)
   rw [hlen] at hst
   obtain ⟨hn1a, hn1b⟩ := hn1
   have kk1 : n ≤ c := by omega
   have kk2 : 0 ≤ (n : Int) + (n' : Int) ∧ (n : Int) + (n' : Int) ≤ (c : Int) := by omega
   have kk3 : n ≤ ((n : Int) + (n' : Int)).toNat := by omega
   have kk4 : ¬ c = n := by omega
   have kk5 : ((n : Int) + (n' : Int)).toNat - n = n' := by omega
   have Hst := hide hst
   have Hc := hide hh0
   have Hc1 := hide hh1
   rw [ht]
   have hal : Below w.heap.size w (w.alloc (.cells #[.int .i64 2, .int .i64 0, .int .i64 0] 139)) := by go_grown
   have hM := mb_new w ⟨2, 0, 0⟩ 139
   have hRs := And.intro ((hRa.below hal).more hal.size) (And.intro ((hRb.below hal).more hal.size) ((hR.below hal).more hal.size))
   clear hR hR' hml hml' hn hn' hlen hh0 hh1 hst ih0 ih1 hRa hRb hx hy ht
   go_enter Tryz.func99, Tryz.ntmps99
   go_upto_region 3 with fail
   generalize w.alloc (.cells #[.int .i64 2, .int .i64 0, .int .i64 0] 139) = W at hal hM hRs ⊢
   generalize w.heap.size = V at hM ⊢
   have v0 := hM.c0
   have v1 := hM.c1
   have v2 := hM.c2
   dsimp only at v0 v1 v2
   obtain ⟨hRa2, hRb2, hRt2⟩ := hRs
   go_upto_region 13 with (go_at_call 117; refine (Hst.out _ hRt2).mono ?_; rintro e w9 ⟨rfl, hw9⟩; obtain rfl := hw9.symm; clear hw9)
   refine wp_regionE (fun w' => w'.cell? ⟨V, 1, none⟩ = some (.int .i64 0) ∧ w'.cell? ⟨V, 2, none⟩ = some (.int .i64 0)) 11 (by kernel_rfl) ?_
   change wpE _ _ _ _ _ _ (11 + 1) #[false, false, false, false, false, false, false, false, false, false, false, false] _ _
   have hdr : Below W.heap.size W W.drew := by go_grown
   have hMd := hM.below hdr
   generalize W.drew = wd at hdr hMd ⊢
   have hS0 : wd.cell? ⟨V, 1, none⟩ = some (.int .i64 0) ∧ wd.cell? ⟨V, 2, none⟩ = some (.int .i64 0) := ⟨hMd.c1, hMd.c2⟩
   replace hRa2 := (CsR.below hRa2 hdr).more hdr.size
   replace hRb2 := (CsR.below hRb2 hdr).more hdr.size
   refine wpE_tk (v := ?_) 0 [11] (hy := ?_) (hS := hS0) (h := ?_)
   rotate_left
   ·intro w' hSw
    obtain ⟨hs0, hs1⟩ := hSw
    simp only [xg0, xg1, xg2]
    go_simp
    try simp only [if_pos kk1, if_pos kk2, if_pos kk3, if_neg kk4, kk5]
    all_goals with_reducible rfl
   simp only [xg0, xg1, xg2, Act.put, xs0, xs1, xs2]
   refine wpE_tk (v := ?_) 1 [11] (hy := ?_) (hS := hS0) (h := ?_)
   rotate_left
   ·intro w' hSw
    obtain ⟨hs0, hs1⟩ := hSw
    simp only [xg0, xg1, xg2]
    go_simp
    try simp only [if_pos kk1, if_pos kk2, if_pos kk3, if_neg kk4, kk5]
    all_goals with_reducible rfl
   simp only [xg0, xg1, xg2, Act.put, xs0, xs1, xs2]
   refine wpE_tk (v := ?_) 2 [11] (hy := ?_) (hS := hS0) (h := ?_)
   rotate_left
   ·intro w' hSw
    obtain ⟨hs0, hs1⟩ := hSw
    simp only [xg0, xg1, xg2]
    go_simp
    try simp only [if_pos kk1, if_pos kk2, if_pos kk3, if_neg kk4, kk5]
    all_goals with_reducible rfl
   simp only [xg0, xg1, xg2, Act.put, xs0, xs1, xs2]
   refine wpE_tk (v := ?_) 5 [11] (hy := ?_) (hS := hS0) (h := ?_)
   rotate_left
   ·intro w' hSw
    obtain ⟨hs0, hs1⟩ := hSw
    simp only [xg0, xg1, xg2]
    go_simp
    try simp only [if_pos kk1, if_pos kk2, if_pos kk3, if_neg kk4, kk5]
    all_goals with_reducible rfl
   simp only [xg0, xg1, xg2, Act.put, xs0, xs1, xs2]
   refine wpE_tk (v := ?_) 6 [11] (hy := ?_) (hS := hS0) (h := ?_)
   rotate_left
   ·intro w' hSw
    obtain ⟨hs0, hs1⟩ := hSw
    simp only [xg0, xg1, xg2]
    go_simp
    try simp only [if_pos kk1, if_pos kk2, if_pos kk3, if_neg kk4, kk5]
    all_goals with_reducible rfl
   simp only [xg0, xg1, xg2, Act.put, xs0, xs1, xs2]
   refine wpE_tk (v := ?_) 7 [11] (hy := ?_) (hS := hS0) (h := ?_)
   rotate_left
   ·intro w' hSw
    obtain ⟨hs0, hs1⟩ := hSw
    simp only [xg0, xg1, xg2]
    go_simp
    try simp only [if_pos kk1, if_pos kk2, if_pos kk3, if_neg kk4, kk5]
    all_goals with_reducible rfl
   simp only [xg0, xg1, xg2, Act.put, xs0, xs1, xs2]
   refine wpE_tk (v := ?_) 8 [11] (hy := ?_) (hS := hS0) (h := ?_)
   rotate_left
   ·intro w' hSw
    obtain ⟨hs0, hs1⟩ := hSw
    simp only [xg0, xg1, xg2]
    go_simp
    try simp only [if_pos kk1, if_pos kk2, if_pos kk3, if_neg kk4, kk5]
    all_goals with_reducible rfl
   simp only [xg0, xg1, xg2, Act.put, xs0, xs1, xs2]
   refine wpE_step' 3 (of_decide_eq_true (by kernel_rfl)) (by kernel_rfl) (by kernel_rfl) (fun K hK => ?_)
   simp only [xg0, xg1, xg2]
   go_simp
   go_at_call 116
   refine (Hc.out _ hRa2).mono ?_
   rintro e w2 ⟨rfl, hb2⟩
   unfold txt
   replace hMd := hMd.below hb2
   replace hdr := bthen hdr hb2
   refine hK.out _ _ (.inr ⟨hMd.c1, hMd.c2⟩) ?_
   clear hK K hS0
   simp only [Act.put, xs0, xs1, xs2]
   have hS0 : w2.cell? ⟨V, 1, none⟩ = some (.int .i64 0) ∧ w2.cell? ⟨V, 2, none⟩ = some (.int .i64 0) := ⟨hMd.c1, hMd.c2⟩
   replace hRb2 := (CsR.below hRb2 hb2).more hb2.size
   clear hb2
   refine wpE_tk (v := ?_) 4 [10, 11] (hy := ?_) (hS := hS0) (h := ?_)
   rotate_left
   ·intro w' hSw
    obtain ⟨hs0, hs1⟩ := hSw
    simp only [xg0, xg1, xg2]
    go_simp
    try rw [if_neg (by omega)]
    all_goals with_reducible rfl
   simp only [xg0, xg1, xg2, Act.put, xs0, xs1, xs2]
   refine wpE_step' 9 (of_decide_eq_true (by kernel_rfl)) (by kernel_rfl) (by kernel_rfl) (fun K hK => ?_)
   simp only [xg0, xg1, xg2]
   go_simp
   go_at_call 116
   refine (Hc1.out _ hRb2).mono ?_
   rintro e w2 ⟨rfl, hb2⟩
   unfold txt
   replace hMd := hMd.below hb2
   replace hdr := bthen hdr hb2
   refine hK.out _ _ (.inr ⟨hMd.c1, hMd.c2⟩) ?_
   clear hK K hS0
   simp only [Act.put, xs0, xs1, xs2]
   have hS0 : w2.cell? ⟨V, 1, none⟩ = some (.int .i64 0) ∧ w2.cell? ⟨V, 2, none⟩ = some (.int .i64 0) := ⟨hMd.c1, hMd.c2⟩
   clear hb2
   refine wpE_tk (v := ?_) 10 [11] (hy := ?_) (hS := hS0) (h := ?_)
   rotate_left
   ·intro w' hSw
    obtain ⟨hs0, hs1⟩ := hSw
    simp only [xg0, xg1, xg2]
    go_simp
    try rw [if_neg (by omega)]
    all_goals with_reducible rfl
   simp only [xg0, xg1, xg2, Act.put, xs0, xs1, xs2]
   refine wpE_step' 11 (of_decide_eq_true (by kernel_rfl)) (by kernel_rfl) (by kernel_rfl) (fun K hK => ?_)
   simp only [xg0, xg1, xg2]
   go_simp
   refine hK.out _ _ (.inl rfl) ?_
   clear hK K
   simp only [Act.put, xs0, xs1, xs2]
   refine wpE_done (by kernel_rfl) ?_ _
   go_wp2_with fail
   go_ret
   exact ⟨by unfold txt; rw [show (⟨#[38]⟩ : ByteArray) = ⟨[(38 : UInt8)].toArray⟩ from rfl, bytes_app, bytes_app]; simp, bthen hal hdr⟩
set_option maxHeartbeats 1000000 in
theorem sTermText_q (t : List Mk) (A : Option Addr) (b o c B : Nat) (w : World) (hc : t.length ≤ c) (hB : B ≤ w.heap.size) (hR : MkR w B b o A t) (hn : t.length ≤ 2000000) :
  Calls Tryz.prog 93 #[.slice A t.length c] w fun e w' => e = .returned (txt (termText t)) ∧ Below w.heap.size w w' := by
 cases ht : termOf t with
 | none =>
   have hl : termText t = [] := by unfold termText; rw [ht]
   have hk : termOk t = false := by unfold termOk; rw [ht]; rfl
   rw [hl]
   have Hk := hide hk
   clear ht hl hk
   go_enter Tryz.func93, Tryz.ntmps93
   go_wp2_with (go_at_call 98; go_fit (sTermOk_c t A b o c B w hB hR hn); rintro e w2 ⟨rfl, hb⟩; rw [Hk.out])
   go_ret
   exact ⟨rfl, hb⟩
 | some a =>
   have hl : termText t = a.text := by unfold termText; rw [ht]
   have hk : termOk t = true := by unfold termOk; rw [ht]; rfl
   rw [hl]
   obtain ⟨hf, hm, h11⟩ := term_back ht
   have hsz : a.size ≤ 20 := by rw [← Tm.marks_len, hm]; omega
   have hcall := fun wq hq => l11Text_q a A b o c wq hf hsz (by rw [hm]; exact hc) hq
   rw [hm] at hcall
   have Hc := hide hcall
   have Hk := hide hk
   clear ht hl hm h11 hk hcall
   go_enter Tryz.func93, Tryz.ntmps93
   go_wp2_with (first
    | (go_at_call 98; go_fit (sTermOk_c t A b o c B w hB hR hn); rintro e w2 ⟨rfl, hb⟩; rw [Hk.out])
    | (go_at_call 99; refine (Hc.out _ (((hR.more hB).below hb).more hb.size)).mono ?_; rintro e w3 ⟨rfl, hb3⟩))
   go_ret
   exact ⟨rfl, bthen hb hb3⟩

theorem valD_snoc (c : UInt8) : ∀ (l : List UInt8) (n : Int), valD n (l ++ [c]) = 10 * valD n l + ((c.toNat : Int) - 48)
 | [], n => rfl
 | d :: l, n => by simp only [List.cons_append, valD]; exact valD_snoc c l _
theorem valD_small : ∀ (l : List UInt8) (n : Int), (∀ c ∈ l, isDig c = true) → 0 ≤ n → 0 ≤ valD n l ∧ valD n l < (n + 1) * 10 ^ l.length
 | [], n, _, h => by simp [valD]; omega
 | c :: l, n, hd, h => by
   have hc := hd c (by simp)
   unfold isDig at hc
   rw [decide_eq_true_eq] at hc
   have ih := valD_small l (10 * n + ((c.toNat : Int) - 48)) (fun x hx => hd x (by simp [hx])) (by omega)
   simp only [valD, List.length_cons]
   refine ⟨ih.1, Int.lt_of_lt_of_le ih.2 ?_⟩
   rw [Int.pow_succ', ← Int.mul_assoc]
   exact Int.mul_le_mul_of_nonneg_right (by omega) (Int.pow_nonneg (by omega))
/-- A string's bytes. -/
theorem str_get {s : ByteArray} {L : List UInt8} (hL : s.data.toList = L) {k : Nat} {c : UInt8} (hc : L[k]? = some c) : k < s.size ∧ ∀ h : k < s.size, s[k]'h = c := by
 subst hL
 obtain ⟨h1, h2⟩ := List.getElem?_eq_some_iff.1 hc
 refine ⟨by simpa using h1, fun h => ?_⟩
 rw [← h2]
 rfl
theorem str_size {s : ByteArray} {L : List UInt8} (hL : s.data.toList = L) : s.size = L.length := by
 subst hL; simp
theorem l1In_t {n lo hi : Int} {q : Bool} (h : inB n lo hi = q) (w : World) : Calls Tryz.prog 71 #[.int .i64 n, .int .i64 lo, .int .i64 hi] w fun e w' => e = .returned (.bool q) ∧ w' = w := by
 subst h
 exact (l1In_c n lo hi w).mono (fun e w' h => ⟨h.1, h.2.symm⟩)
theorem valD_nat (l : List UInt8) (hd : ∀ c ∈ l, isDig c = true) (h6 : l.length ≤ 6) : 0 ≤ valD 0 l ∧ valD 0 l < 1000000 := by
 obtain ⟨h1, h2⟩ := valD_small l 0 hd (Int.le_refl 0)
 refine ⟨h1, Int.lt_of_lt_of_le h2 ?_⟩
 have : ∀ k : Fin 7, ((0 : Int) + 1) * 10 ^ k.1 ≤ 1000000 := by decide
 exact this ⟨l.length, by omega⟩
set_option maxHeartbeats 1000000 in
theorem digits_c (s : ByteArray) (L : List UInt8) (hL : s.data.toList = L) (hd : ∀ c ∈ L, isDig c = true) (hl : L.length ≤ 200) (w : World) :
  Calls Tryz.prog 139 #[.string s] w fun e w' => e = .returned (.tuple #[.int .i64 ((digs L).getD 0), .bool (digs L).isSome]) ∧ w' = w := by
 have hsz := str_size hL
 obtain ⟨n, hn⟩ : ∃ n, s.size = n := ⟨_, rfl⟩
 have hnl : n ≤ 200 := by omega
 obtain ⟨qi, hqi⟩ : ∃ q, inB (s.size : Int) 1 6 = q := ⟨_, rfl⟩
 have Hin := hide hqi
 cases hx : L[0]? with
 | none =>
   have h0 : L = [] := by cases L <;> simp_all
   have hdg : digs L = none := by rw [h0]; rfl
   have hs0 : s.size = 0 := by rw [hsz, h0]; rfl
   obtain rfl : qi = false := by rw [← hqi, hs0]; rfl
   rw [hdg]
   have hs1 : ¬ (1 : Int) < (s.size : Int) := by omega
   clear hL hd hsz hn hqi hx h0 hdg hs0
   go_enter Tryz.func139, Tryz.ntmps139
   go_wp2_with (go_at_call 71; refine (l1In_t Hin.out _).mono ?_; rintro e w4 ⟨rfl, hw4⟩; obtain rfl := hw4.symm; clear hw4)
   go_ret2
   exact ⟨rfl, rfl⟩
 | some c =>
   obtain ⟨hlt, hget⟩ := str_get hL hx
   have hc := hd c (List.mem_of_getElem? hx)
   unfold isDig at hc
   rw [decide_eq_true_eq] at hc
   obtain ⟨hc1, hc2⟩ := hc
   have h45 : ((c.toNat : Int) == 45) = false := by simp; omega
   by_cases hin : s.size ≤ 6
   ·obtain rfl : qi = true := by rw [← hqi, inB_iff]; omega
    by_cases h48 : c = 48
    ·subst h48
     by_cases h1 : 1 < s.size
     ·have hdg : digs L = none := by
       unfold digs; rw [if_neg]
       rintro ⟨-, -, h⟩
       exact h ⟨by rw [List.head?_eq_getElem?, hx], by omega⟩
      rw [hdg]
      have hs1 : (1 : Int) < (s.size : Int) := by omega
      clear hL hd hsz hn hqi hx hdg
      go_enter Tryz.func139, Tryz.ntmps139
      go_wp2_with (go_at_call 71; refine (l1In_t Hin.out _).mono ?_; rintro e w4 ⟨rfl, hw4⟩; obtain rfl := hw4.symm; clear hw4)
      go_ret2
      exact ⟨rfl, rfl⟩
     ·have hdg : digs L = some (valD 0 L) := by
       unfold digs; rw [if_pos]
       exact ⟨by omega, by omega, fun h => by omega⟩
      have Hdg := hide hdg
      have hs1 : ¬ (1 : Int) < (s.size : Int) := by omega
      clear hn hqi hx hdg h45 hc1 hc2
      have Hsz := hide hsz
      clear hsz
      go_enter Tryz.func139, Tryz.ntmps139
      go_wp2_with (go_at_call 71; refine (l1In_t Hin.out _).mono ?_; rintro e w4 ⟨rfl, hw4⟩; obtain rfl := hw4.symm; clear hw4)
      go_loopg [5, 6] s.size (fun gh s5 s6 wr => ∃ (k : Nat), k ≤ s.size ∧ gh = s.size - k ∧ s6 = .int .i64 k ∧ s5 = .int .i64 (valD 0 (L.take k)) ∧ wr = w)
      case atStart => exact ⟨0, Nat.zero_le _, rfl, rfl, rfl, rfl⟩
      case round =>
       obtain ⟨k, hk, rfl, rfl, rfl, rfl⟩ := hrel
       by_cases hlt' : k < s.size
       ·obtain ⟨d, hx'⟩ : ∃ d, L[k]? = some d := ⟨L[k]'(by have := Hsz.out; omega), List.getElem?_eq_getElem _⟩
        obtain ⟨-, hget'⟩ := str_get hL hx'
        have hd' := hd d (List.mem_of_getElem? hx')
        unfold isDig at hd'
        rw [decide_eq_true_eq] at hd'
        obtain ⟨hd1, hd2⟩ := hd'
        have hv := valD_snoc d (L.take k) 0
        have htk : L.take (k + 1) = L.take k ++ [d] := by rw [List.take_add_one, hx']; rfl
        rw [← htk] at hv
        have hb0 := valD_nat (L.take k) (fun x hx => hd x (List.mem_of_mem_take hx)) (by rw [List.length_take]; have := Hsz.out; omega)
        have hb1 := valD_nat (L.take (k + 1)) (fun x hx => hd x (List.mem_of_mem_take hx)) (by rw [List.length_take]; have := Hsz.out; omega)
        generalize valD 0 (L.take k) = v0 at hv hb0 ⊢
        have Hv := hide hv
        have hkz : (k : Int) < (s.size : Int) := by omega
        have hn1 : ¬ (d.toNat : Int) < 48 := by omega
        have hn2 : ¬ (57 : Int) < (d.toNat : Int) := by omega
        have hu : IntKind.u8.wrap ((d.toNat : Int) - 48) = (d.toNat : Int) - 48 := IntWalk.u8_in _ (by omega)
        have hu2 : IntKind.i64.wrap ((d.toNat : Int) - 48) = (d.toNat : Int) - 48 := IntWalk.i64_in _ (by omega)
        have hu3 : IntKind.i64.wrap (10 * v0) = 10 * v0 := IntWalk.i64_in _ (by omega)
        have hu4 : IntKind.i64.wrap (10 * v0 + ((d.toNat : Int) - 48)) = 10 * v0 + ((d.toNat : Int) - 48) := IntWalk.i64_in _ (by omega)
        clear hv htk hb1 hx'
        go_wp2_with fail
        go_roundg (s.size - (k + 1))
        case measure => go_light; omega
        case rel => go_light; exact ⟨k + 1, by omega, rfl, by go_num, by rw [Hv.out], rfl⟩
       ·obtain rfl : k = s.size := by omega
        rw [show L.take s.size = L by rw [Hsz.out, List.take_length]]
        have hkz : ¬ (s.size : Int) < (s.size : Int) := by omega
        have hb0 := valD_nat L hd (by have := Hsz.out; omega)
        obtain ⟨v0, hv0⟩ : ∃ v, valD 0 L = v := ⟨_, rfl⟩
        rw [hv0] at hb0 ⊢
        rw [hv0] at Hdg
        have hu5 : IntKind.i64.wrap v0 = v0 := IntWalk.i64_in _ (by omega)
        clear hv0
        go_wp2_with fail
        go_ret2
        exact ⟨by rw [Hdg.out]; rfl, rfl⟩
    ·have hc48 : ((c.toNat : Int) == 48) = false := by
      simp
      intro e
      exact h48 (UInt8.toNat_inj.1 (show c.toNat = 48 by omega))
     have hdg : digs L = some (valD 0 L) := by
      unfold digs; rw [if_pos]
      refine ⟨by omega, by omega, fun h => h48 ?_⟩
      have := h.1
      rw [List.head?_eq_getElem?, hx] at this
      injection this
     have Hdg := hide hdg
     clear hn hqi hx hdg h48
     by_cases h1 : 1 < s.size
     ·have hs1 : (1 : Int) < (s.size : Int) := by omega
      have Hsz := hide hsz
      clear hsz
      go_enter Tryz.func139, Tryz.ntmps139
      go_wp2_with (go_at_call 71; refine (l1In_t Hin.out _).mono ?_; rintro e w4 ⟨rfl, hw4⟩; obtain rfl := hw4.symm; clear hw4)
      go_loopg [5, 6] s.size (fun gh s5 s6 wr => ∃ (k : Nat), k ≤ s.size ∧ gh = s.size - k ∧ s6 = .int .i64 k ∧ s5 = .int .i64 (valD 0 (L.take k)) ∧ wr = w)
      case atStart => exact ⟨0, Nat.zero_le _, rfl, rfl, rfl, rfl⟩
      case round =>
       obtain ⟨k, hk, rfl, rfl, rfl, rfl⟩ := hrel
       by_cases hlt' : k < s.size
       ·obtain ⟨d, hx'⟩ : ∃ d, L[k]? = some d := ⟨L[k]'(by have := Hsz.out; omega), List.getElem?_eq_getElem _⟩
        obtain ⟨-, hget'⟩ := str_get hL hx'
        have hd' := hd d (List.mem_of_getElem? hx')
        unfold isDig at hd'
        rw [decide_eq_true_eq] at hd'
        obtain ⟨hd1, hd2⟩ := hd'
        have hv := valD_snoc d (L.take k) 0
        have htk : L.take (k + 1) = L.take k ++ [d] := by rw [List.take_add_one, hx']; rfl
        rw [← htk] at hv
        have hb0 := valD_nat (L.take k) (fun x hx => hd x (List.mem_of_mem_take hx)) (by rw [List.length_take]; have := Hsz.out; omega)
        have hb1 := valD_nat (L.take (k + 1)) (fun x hx => hd x (List.mem_of_mem_take hx)) (by rw [List.length_take]; have := Hsz.out; omega)
        generalize valD 0 (L.take k) = v0 at hv hb0 ⊢
        have Hv := hide hv
        have hkz : (k : Int) < (s.size : Int) := by omega
        have hn1 : ¬ (d.toNat : Int) < 48 := by omega
        have hn2 : ¬ (57 : Int) < (d.toNat : Int) := by omega
        have hu : IntKind.u8.wrap ((d.toNat : Int) - 48) = (d.toNat : Int) - 48 := IntWalk.u8_in _ (by omega)
        have hu2 : IntKind.i64.wrap ((d.toNat : Int) - 48) = (d.toNat : Int) - 48 := IntWalk.i64_in _ (by omega)
        have hu3 : IntKind.i64.wrap (10 * v0) = 10 * v0 := IntWalk.i64_in _ (by omega)
        have hu4 : IntKind.i64.wrap (10 * v0 + ((d.toNat : Int) - 48)) = 10 * v0 + ((d.toNat : Int) - 48) := IntWalk.i64_in _ (by omega)
        clear hv htk hb1 hx'
        go_wp2_with fail
        go_roundg (s.size - (k + 1))
        case measure => go_light; omega
        case rel => go_light; exact ⟨k + 1, by omega, rfl, by go_num, by rw [Hv.out], rfl⟩
       ·obtain rfl : k = s.size := by omega
        rw [show L.take s.size = L by rw [Hsz.out, List.take_length]]
        have hkz : ¬ (s.size : Int) < (s.size : Int) := by omega
        have hb0 := valD_nat L hd (by have := Hsz.out; omega)
        obtain ⟨v0, hv0⟩ : ∃ v, valD 0 L = v := ⟨_, rfl⟩
        rw [hv0] at hb0 ⊢
        rw [hv0] at Hdg
        have hu5 : IntKind.i64.wrap v0 = v0 := IntWalk.i64_in _ (by omega)
        clear hv0
        go_wp2_with fail
        go_ret2
        exact ⟨by rw [Hdg.out]; rfl, rfl⟩
     ·have hs1 : ¬ (1 : Int) < (s.size : Int) := by omega
      have Hsz := hide hsz
      clear hsz
      go_enter Tryz.func139, Tryz.ntmps139
      go_wp2_with (go_at_call 71; refine (l1In_t Hin.out _).mono ?_; rintro e w4 ⟨rfl, hw4⟩; obtain rfl := hw4.symm; clear hw4)
      go_loopg [5, 6] s.size (fun gh s5 s6 wr => ∃ (k : Nat), k ≤ s.size ∧ gh = s.size - k ∧ s6 = .int .i64 k ∧ s5 = .int .i64 (valD 0 (L.take k)) ∧ wr = w)
      case atStart => exact ⟨0, Nat.zero_le _, rfl, rfl, rfl, rfl⟩
      case round =>
       obtain ⟨k, hk, rfl, rfl, rfl, rfl⟩ := hrel
       by_cases hlt' : k < s.size
       ·obtain ⟨d, hx'⟩ : ∃ d, L[k]? = some d := ⟨L[k]'(by have := Hsz.out; omega), List.getElem?_eq_getElem _⟩
        obtain ⟨-, hget'⟩ := str_get hL hx'
        have hd' := hd d (List.mem_of_getElem? hx')
        unfold isDig at hd'
        rw [decide_eq_true_eq] at hd'
        obtain ⟨hd1, hd2⟩ := hd'
        have hv := valD_snoc d (L.take k) 0
        have htk : L.take (k + 1) = L.take k ++ [d] := by rw [List.take_add_one, hx']; rfl
        rw [← htk] at hv
        have hb0 := valD_nat (L.take k) (fun x hx => hd x (List.mem_of_mem_take hx)) (by rw [List.length_take]; have := Hsz.out; omega)
        have hb1 := valD_nat (L.take (k + 1)) (fun x hx => hd x (List.mem_of_mem_take hx)) (by rw [List.length_take]; have := Hsz.out; omega)
        generalize valD 0 (L.take k) = v0 at hv hb0 ⊢
        have Hv := hide hv
        have hkz : (k : Int) < (s.size : Int) := by omega
        have hn1 : ¬ (d.toNat : Int) < 48 := by omega
        have hn2 : ¬ (57 : Int) < (d.toNat : Int) := by omega
        have hu : IntKind.u8.wrap ((d.toNat : Int) - 48) = (d.toNat : Int) - 48 := IntWalk.u8_in _ (by omega)
        have hu2 : IntKind.i64.wrap ((d.toNat : Int) - 48) = (d.toNat : Int) - 48 := IntWalk.i64_in _ (by omega)
        have hu3 : IntKind.i64.wrap (10 * v0) = 10 * v0 := IntWalk.i64_in _ (by omega)
        have hu4 : IntKind.i64.wrap (10 * v0 + ((d.toNat : Int) - 48)) = 10 * v0 + ((d.toNat : Int) - 48) := IntWalk.i64_in _ (by omega)
        clear hv htk hb1 hx'
        go_wp2_with fail
        go_roundg (s.size - (k + 1))
        case measure => go_light; omega
        case rel => go_light; exact ⟨k + 1, by omega, rfl, by go_num, by rw [Hv.out], rfl⟩
       ·obtain rfl : k = s.size := by omega
        rw [show L.take s.size = L by rw [Hsz.out, List.take_length]]
        have hkz : ¬ (s.size : Int) < (s.size : Int) := by omega
        have hb0 := valD_nat L hd (by have := Hsz.out; omega)
        obtain ⟨v0, hv0⟩ : ∃ v, valD 0 L = v := ⟨_, rfl⟩
        rw [hv0] at hb0 ⊢
        rw [hv0] at Hdg
        have hu5 : IntKind.i64.wrap v0 = v0 := IntWalk.i64_in _ (by omega)
        clear hv0
        go_wp2_with fail
        go_ret2
        exact ⟨by rw [Hdg.out]; rfl, rfl⟩
   ·obtain rfl : qi = false := by rw [← hqi]; simp [inB]; omega
    have hdg : digs L = none := by unfold digs; rw [if_neg (by omega)]
    rw [hdg]
    have hs1 : (1 : Int) < (s.size : Int) := by omega
    clear hL hd hsz hn hqi hx hdg
    go_enter Tryz.func139, Tryz.ntmps139
    go_wp2_with (go_at_call 71; refine (l1In_t Hin.out _).mono ?_; rintro e w4 ⟨rfl, hw4⟩; obtain rfl := hw4.symm; clear hw4)
    go_ret2
    exact ⟨rfl, rfl⟩

theorem tw_lt {p : UInt8 → Bool} : ∀ {l : List UInt8} {j : Nat}, j < (l.takeWhile p).length → ∃ c, l[j]? = some c ∧ p c = true
 | [], j, h => by simp at h
 | c :: l, j, h => by
   by_cases hp : p c = true
   ·rw [List.takeWhile_cons_of_pos hp] at h
    cases j with
    | zero => exact ⟨c, rfl, hp⟩
    | succ j => exact tw_lt (l := l) (by simpa using h)
   ·rw [List.takeWhile_cons_of_neg hp] at h; simp at h
theorem tw_end {p : UInt8 → Bool} : ∀ {l : List UInt8} {c : UInt8}, l[(l.takeWhile p).length]? = some c → p c = false
 | [], c, h => by simp at h
 | d :: l, c, h => by
   by_cases hp : p d = true
   ·rw [List.takeWhile_cons_of_pos hp] at h
    exact tw_end (l := l) (by simpa using h)
   ·rw [List.takeWhile_cons_of_neg hp] at h
    simp at h
    rw [← h]
    simpa using hp
theorem tw_take {p : UInt8 → Bool} : ∀ (l : List UInt8), l.take (l.takeWhile p).length = l.takeWhile p
 | [] => rfl
 | d :: l => by
   by_cases hp : p d = true
   ·rw [List.takeWhile_cons_of_pos hp]; simp [tw_take l]
   ·rw [List.takeWhile_cons_of_neg hp]; rfl
theorem str_cut {s : ByteArray} {L : List UInt8} (hL : s.data.toList = L) (i j : Nat) : (s.extract i j).data.toList = (L.drop i).take (j - i) := by
 subst hL
 rw [ByteArray.data_extract, Array.toList_extract, List.extract_eq_take_drop]
theorem sub_add (i m : Nat) : ((i + m : Nat) : Int) = (i : Int) + m := by omega
set_option maxHeartbeats 1000000 in
theorem number_c (s : ByteArray) (L : List UInt8) (hL : s.data.toList = L) (hl : s.size ≤ 120) (i : Nat) (hi : i ≤ s.size) (w : World) :
  Calls Tryz.prog 134 #[.string s, .int .i64 (i : Int)] w fun e w' => e = .returned (.tuple #[.int .i64 (numA L (i : Int)).1, .int .i64 (numA L (i : Int)).2]) ∧ w' = w := by
 have Hsz := hide (str_size hL)
 obtain ⟨T, hT⟩ : ∃ T, digAt L i = T := ⟨_, rfl⟩
 have hTl : i + T.length ≤ s.size := by
  have := (List.takeWhile_sublist (l := L.drop i) isDig).length_le
  unfold digAt at hT
  rw [hT, List.length_drop] at this
  have := Hsz.out
  omega
 have hTd : ∀ c ∈ T, isDig c = true := fun c hc => by
  obtain ⟨j, hj⟩ := List.mem_iff_getElem?.1 hc
  have hj' := (List.getElem?_eq_some_iff.1 hj).1
  rw [← hT] at hj'
  obtain ⟨d, h1, h2⟩ := tw_lt hj'
  rw [← hT] at hj
  have := tw_take (p := isDig) (L.drop i)
  unfold digAt at hj hj'
  rw [← this, List.getElem?_take, if_pos hj'] at hj
  rw [h1] at hj
  injection hj with hj
  rw [← hj]; exact h2
 have hcut : (s.extract i (i + T.length)).data.toList = T := by
  rw [str_cut hL, Nat.add_sub_cancel_left, ← hT]
  exact tw_take _
 have hdg := fun wq => digits_c (s.extract i (i + T.length)) T hcut hTd (by omega) wq
 have hnum : numA L (i : Int) = (match digs T with | some v => (v, (i : Int) + T.length) | none => (0, -1)) := by
  unfold numA
  rw [Int.toNat_natCast, hT]
  cases digs T <;> rfl
 have hin : ∀ j, j < T.length → ∃ c, L[i + j]? = some c ∧ isDig c = true := fun j hj => by
  rw [← hT] at hj
  obtain ⟨c, h1, h2⟩ := tw_lt hj
  exact ⟨c, by rw [← List.getElem?_drop]; exact h1, h2⟩
 have hout : ∀ c, L[i + T.length]? = some c → isDig c = false := fun c hc => by
  rw [← List.getElem?_drop, ← hT] at hc
  exact tw_end hc
 obtain ⟨v, hv⟩ : ∃ v, (digs T).getD 0 = v := ⟨_, rfl⟩
 obtain ⟨q, hq⟩ : ∃ q, (digs T).isSome = q := ⟨_, rfl⟩
 rw [hv, hq] at hdg
 have HV := hide (And.intro hv (And.intro hq hnum))
 obtain ⟨r1, hr1⟩ : ∃ r, (numA L (i : Int)).1 = r := ⟨_, rfl⟩
 obtain ⟨r2, hr2⟩ : ∃ r, (numA L (i : Int)).2 = r := ⟨_, rfl⟩
 rw [hr1, hr2]
 have HN := hide (And.intro hr1 hr2)
 clear hr1 hr2
 clear hv hq
 have Hdg := hide hdg
 clear hnum hTd hT hdg hcut
 obtain ⟨m, hm⟩ : ∃ m, T.length = m := ⟨_, rfl⟩
 rw [hm] at hTl hin hout Hdg
 unfold Hid at HV
 rw [hm] at HV
 replace HV := hide HV
 clear hm
 go_enter Tryz.func134, Tryz.ntmps134
 go_wp2_with fail
 go_loopg [6] (m + 1) (fun gh s6 wr => ∃ (k : Nat), k ≤ m ∧ gh = m + 1 - k ∧ s6 = .int .i64 ((i + k : Nat) : Int) ∧ wr = w)
 case atStart => exact ⟨0, Nat.zero_le _, rfl, rfl, rfl⟩
 case round =>
  obtain ⟨k, hk, rfl, rfl, rfl⟩ := hrel
  by_cases hlt' : k < m
  ·obtain ⟨d, hx', hd'⟩ := hin k hlt'
   obtain ⟨-, hget'⟩ := str_get hL hx'
   unfold isDig at hd'
   rw [decide_eq_true_eq] at hd'
   obtain ⟨hd1, hd2⟩ := hd'
   have hkz : ((i + k : Nat) : Int) < (s.size : Int) := by omega
   have hn1 : (48 : Int) ≤ (d.toNat : Int) := by omega
   have hn2 : (d.toNat : Int) ≤ 57 := by omega
   clear hx' hin hout
   go_wp2_with fail
   go_roundg (m + 1 - (k + 1))
   case measure => go_light; omega
   case rel => go_light; exact ⟨k + 1, by omega, rfl, by go_num, rfl⟩
  ·obtain rfl : k = m := by omega
   clear hin
   have hkl : i + k ≤ s.size := hTl
   cases hx : L[i + k]? with
   | none =>
     have hkz : ¬ ((i + k : Nat) : Int) < (s.size : Int) := by
      have := List.getElem?_eq_none_iff.1 hx
      have := Hsz.out
      omega
     clear hx hout
     cases q
     all_goals
      go_wp2_with (go_at_call 139; refine (Hdg.out _).mono ?_; rintro e w4 ⟨rfl, hw4⟩; obtain rfl := hw4.symm; clear hw4)
      go_ret2
      refine ⟨?_, rfl⟩
      obtain ⟨h1, h2, h3⟩ := HV.out
      obtain ⟨n1, n2⟩ := HN.out
      cases hdv : digs T
      all_goals rw [hdv] at h1 h2 h3
      all_goals first
       | (cases h2; done)
       | (rw [← n1, ← n2, h3]; simp only [Option.getD] at h1; subst h1; rfl)
       | (rw [← n1, ← n2, h3]; simp only [Option.getD] at h1; rfl)
   | some d =>
     obtain ⟨hlt2, hget'⟩ := str_get hL hx
     have hd' := hout d hx
     unfold isDig at hd'
     rw [decide_eq_false_iff_not] at hd'
     have hkz : ((i + k : Nat) : Int) < (s.size : Int) := by omega
     clear hx hout
     by_cases h48 : (48 : Int) ≤ (d.toNat : Int)
     ·have h57 : ¬ (d.toNat : Int) ≤ 57 := by omega
      clear hd'
      cases q
      all_goals
       go_wp2_with (go_at_call 139; refine (Hdg.out _).mono ?_; rintro e w4 ⟨rfl, hw4⟩; obtain rfl := hw4.symm; clear hw4)
       go_ret2
       refine ⟨?_, rfl⟩
       obtain ⟨h1, h2, h3⟩ := HV.out
       obtain ⟨n1, n2⟩ := HN.out
       cases hdv : digs T
       all_goals rw [hdv] at h1 h2 h3
       all_goals first
        | (cases h2; done)
        | (rw [← n1, ← n2, h3]; simp only [Option.getD] at h1; subst h1; rfl)
        | (rw [← n1, ← n2, h3]; simp only [Option.getD] at h1; rfl)
     ·clear hd'
      cases q
      all_goals
       go_wp2_with (go_at_call 139; refine (Hdg.out _).mono ?_; rintro e w4 ⟨rfl, hw4⟩; obtain rfl := hw4.symm; clear hw4)
       go_ret2
       refine ⟨?_, rfl⟩
       obtain ⟨h1, h2, h3⟩ := HV.out
       obtain ⟨n1, n2⟩ := HN.out
       cases hdv : digs T
       all_goals rw [hdv] at h1 h2 h3
       all_goals first
        | (cases h2; done)
        | (rw [← n1, ← n2, h3]; simp only [Option.getD] at h1; subst h1; rfl)
        | (rw [← n1, ← n2, h3]; simp only [Option.getD] at h1; rfl)

open Go Go.RowKit Pp

open Go Go.RowKit Pp

namespace Pp
/-- What a reader of the reference returns. -/
def RdV (L : List UInt8) (md : Md) (w w' : World) (n : Int) (v : Value) : Prop := ∃ A1 c1, ∃ t : List Mk, ∃ n' : Int, v = .tuple #[.slice A1 t.length c1, .int .i64 n'] ∧ OwnM w.heap.size w' (.slice A1 t.length c1) t ∧ Sp L md [] n t n'
def CallsRd (f : FuncId) (md : Md) (s : ByteArray) (L : List UInt8) (i : Nat) : Prop := ∀ w : World, Calls Tryz.prog f #[.string s, .int .i64 (i : Int)] w fun e w' => ∃ v, e = .returned v ∧ RdV L md w w' (i : Int) v ∧ Below w.heap.size w w'
/-- How far a loop has come. -/
def lefts (n : Int) (m : Nat) : Nat := if n < 0 then 0 else m + 1 - n.toNat
def rngP (i m : Nat) (n : Int) (l : Nat) : Prop := (n = -1 ∧ l ≤ m - i) ∨ ((i : Int) ≤ n ∧ n ≤ m ∧ (l : Int) ≤ n - i)
end Pp
theorem ch_cases {L : List UInt8} {m : Nat} {n : Int} {c : UInt8} (hm : m = L.length) (hn : n = -1 ∨ (0 ≤ n ∧ n ≤ (m : Int))) :
  (ch L n c = true ∧ ∃ (k : Nat) (d : UInt8), n = k ∧ k < m ∧ L[k]? = some d ∧ d = c) ∨ (ch L n c = false ∧ ((n < 0) ∨ (0 ≤ n ∧ (m : Int) ≤ n) ∨ ∃ (k : Nat) (d : UInt8), n = k ∧ k < m ∧ L[k]? = some d ∧ d ≠ c)) := by
 subst hm
 by_cases h : ch L n c = true
 ·left
  refine ⟨h, ?_⟩
  unfold ch at h
  obtain ⟨h0, h1⟩ := of_decide_eq_true h
  exact ⟨n.toNat, c, by omega, (List.getElem?_eq_some_iff.1 h1).1, h1, rfl⟩
 ·right
  refine ⟨by simpa using h, ?_⟩
  rcases hn with hn | hn
  ·exact .inl (by omega)
  ·by_cases h2 : n < (L.length : Int)
   ·right; right
    have hk : n.toNat < L.length := by omega
    refine ⟨n.toNat, L[n.toNat], by omega, hk, List.getElem?_eq_getElem hk, fun e => h ?_⟩
    unfold ch
    rw [decide_eq_true_eq]
    exact ⟨by omega, by rw [List.getElem?_eq_getElem hk, e]⟩
   ·exact .inr (.inl (by omega))
theorem toNat_is {d c : UInt8} {k : Nat} (h : d = c) (hk : c.toNat = k) : ((d.toNat : Int) == (k : Int)) = true := by subst h; simp [hk]
theorem toNat_not {d c : UInt8} {k : Nat} (h : d ≠ c) (hk : c.toNat = k) : ((d.toNat : Int) == (k : Int)) = false := by
 simp
 intro e
 exact h (UInt8.toNat_inj.1 (by omega))
set_option maxHeartbeats 2000000 in
set_option maxRecDepth 100000 in
theorem both_q (s : ByteArray) (L : List UInt8) (hL : s.data.toList = L) (hl : s.size ≤ 120) (i : Nat) (hi : i ≤ s.size) (hI : ∀ j, i ≤ j → j ≤ s.size → CallsRd 125 .atm s L j) : CallsRd 114 .bth s L i := by
 intro w
 have Hsz := hide (str_size hL)
 obtain ⟨i0, hi0, hz0, hz1, hz2⟩ := info_parts infoM
 have HI := hide hI
 clear hI
 go_enter Tryz.func114, Tryz.ntmps114
 go_upto_region 2 with (go_at_call 125; refine (HI.out i (Nat.le_refl _) hi w).mono ?_; rintro e w2 ⟨v, rfl, ⟨A1, c1, t, n1, rfl, own1, hSp⟩, hb⟩)
 have hr := hSp.rng (by have := Hsz.out; omega)
 have hrng : Hid (rngP i s.size n1 t.length) := by
  unfold Hid rngP
  have := Hsz.out
  simp only [List.length_nil] at hr
  omega
 have HS : Hid (∀ t' n', Sp L .bthL t n1 t' n' → Sp L .bth [] i t' n') := fun t' n' h => .bth hSp h
 clear hr hSp
 go_loopg [6, 7] (lefts n1 s.size) (fun gh s6 s7 wr => ∃ (t : List Mk) (n : Int) (A : Option Addr) (c : Nat), gh = lefts n s.size ∧ s6 = .slice A t.length c ∧ s7 = .int .i64 n ∧ Hid (rngP i s.size n t.length) ∧ Hid (∀ t' n', Sp L .bthL t n t' n' → Sp L .bth [] i t' n') ∧ OwnM w.heap.size wr (.slice A t.length c) t ∧ Below w.heap.size w wr)
 case atStart => exact ⟨t, n1, A1, c1, rfl, rfl, rfl, hrng, HS, own1, hb⟩
 case round =>
  clear hrng HS own1 hb
  obtain ⟨t, n, A, c, rfl, rfl, rfl, hrng, HS, own, hb⟩ := hrel
  have hrn := hrng.out
  unfold rngP at hrn
  rcases ch_cases (c := 38) (m := s.size) Hsz.out (show n = -1 ∨ (0 ≤ n ∧ n ≤ (s.size : Int)) by omega) with ⟨hch, k, d, rfl, hk, hx, hd⟩ | ⟨hch, hcs⟩
  ·obtain ⟨-, hget'⟩ := str_get hL hx
   have hdd : ((d.toNat : Int) == 38) = true := toNat_is (k := 38) hd rfl
   have hkz : (k : Int) < (s.size : Int) := by omega
   have hw : IntKind.i64.wrap ((k : Int) + 1) = (k : Int) + 1 := IntWalk.i64_in _ (by omega)
   have hc1 := HI.out (k + 1) (by omega) (by omega)
   unfold CallsRd at hc1
   rw [show ((k + 1 : Nat) : Int) = (k : Int) + 1 by omega] at hc1
   have Hc1 := hide hc1
   clear hc1
   have htl : t.length ≤ 200 := by omega
   have Hch := hide hch
   clear hx hd hch hrn
   go_upto_region 4 with (go_at_call 125; refine (Hc1.out wr).mono ?_; rintro e w3 ⟨v, rfl, ⟨A1, c1, t1, n1, rfl, own1, hSp⟩, hb3⟩)
   have hr := hSp.rng (by have := Hsz.out; omega)
   have hl1 : t1.length ≤ 200 := by have := Hsz.out; simp only [List.length_nil] at hr; omega
   have hrng2 : Hid (rngP i s.size n1 (t ++ t1 ++ [(⟨2, 0, 0⟩ : Mk)]).length) := by
    have h1 := hrng.out
    unfold Hid
    unfold rngP at h1 ⊢
    have := Hsz.out
    simp only [List.length_append, List.length_cons, List.length_nil] at hr ⊢
    omega
   have hlf : lefts n1 s.size < lefts (k : Int) s.size := by
    have := Hsz.out
    unfold lefts
    split <;> split <;> omega
   have HS2 : Hid (∀ t' n', Sp L .bthL (t ++ t1 ++ [⟨2, 0, 0⟩]) n1 t' n' → Sp L .bth [] i t' n') := fun t' n' h => HS.out t' n' (.bthM Hch.out hSp h)
   have own3 := own_below own hb3
   obtain ⟨g3, hr3⟩ := OwnM.reads own3
   obtain ⟨g1, hr1⟩ := OwnM.reads own1
   have hB3 := bthen hb hb3
   have hal4 : Below w3.heap.size w3 (w3.alloc (.cells #[] 139)) := by go_grown
   have own4 : (w3.alloc (.cells #[] 139)).ownsRow w3.heap.size 139 3 (.slice (some ⟨w3.heap.size, 0, none⟩) 0 0) 0 [] := own_empty (at_new rfl) (Nat.le_refl _)
   have hr4 := CsR.below hr3 hal4
   clear own own1 own3 hb hrng HS Hch hr hSp hr3
   go_upto_region 5 with (first
    | (at_builtin; refine app_list _ rfl (.tmp 37) (.tmp 38) _ rfl w3.heap.size 139 i0 _ 3 24 Tryz.underlying99 hi0 hz0 hz1 hz2 rfl (by omega) (.slice (some ⟨w3.heap.size, 0, none⟩) 0 0) 0 [] rfl own4 A t.length c (mkCs t) rfl (mkCs_length t) (csr_news1 hr4) (mkCs_one t) (by omega) (by omega) hal4.size ?_
       intro A5 c5 w5 hown5 hg5 hat5
       simp only [Nat.zero_add, List.nil_append] at hown5 hat5 ⊢
       have hb5 : Below w3.heap.size w3 w5 := below_app hal4 own4 hg5 (Nat.le_refl _) hal4.size)
    | (at_builtin; refine app_list _ rfl (.tmp 39) (.tmp 40) _ rfl w3.heap.size 139 i0 _ 3 24 Tryz.underlying99 hi0 hz0 hz1 hz2 rfl (by omega) (.slice A5 t.length c5) t.length (mkCs t) rfl hown5 A1 t1.length c1 (mkCs t1) rfl (mkCs_length t1) (csr_news1 (CsR.below hr1 hb5)) (mkCs_one t1) (by omega) (by omega) hb5.size ?_
       intro A6 c6 w6 hown6 hg6 hat6
       have hb6 : Below w3.heap.size w3 w6 := below_app hb5 hown5 hg6 (Nat.le_refl _) hb5.size
       have hal8 : Below w6.heap.size w6 (w6.alloc (.cells #[.int .i64 2, .int .i64 0, .int .i64 0] 139)) := by go_grown
       have own8 := own_below hown6 hal8
       have hnew8 : (w6.alloc (.cells #[.int .i64 2, .int .i64 0, .int .i64 0] 139)).heap[w6.heap.size]? = some (.cells #[.int .i64 2, .int .i64 0, .int .i64 0] 139 (0, 0)) := at_new rfl
       have hb8 := bthen hb6 hal8)
    | (at_builtin; refine app_list _ rfl (.tmp 41) (.tmp 43) _ rfl w3.heap.size 139 i0 _ 3 24 Tryz.underlying99 hi0 hz0 hz1 hz2 rfl (by omega) (.slice A6 (t.length + t1.length) c6) (t.length + t1.length) (mkCs t ++ mkCs t1) rfl own8 (some ⟨w6.heap.size, 0, none⟩) 1 _ (mkCs [⟨2, 0, 0⟩]) rfl rfl (mk_news1 hnew8) (mkCs_one _) (by omega) (by omega) hb8.size ?_
       intro A9 c9 w9 hown9 hg9 hat9
       have hb9 : Below w3.heap.size w3 w9 := below_app hb8 own8 hg9 (Nat.le_refl _) hb8.size))
   have hl9 : (t ++ t1 ++ [(⟨2, 0, 0⟩ : Mk)]).length = t.length + t1.length + 1 := by simp; omega
   have own9 : OwnM w.heap.size w9 (.slice A9 (t.length + t1.length + 1) c9) (t ++ t1 ++ [⟨2, 0, 0⟩]) := by
    unfold OwnM
    rw [hl9, mkCs_append, mkCs_append]
    exact own_less hown9 hB3.size
   have Hl9 := hide hl9
   have hB9 := bthen hB3 hb9
   clear hl9 hown9 hg9 hat9 hb9 own8 hnew8 hal8 hb8 hown6 hg6 hat6 hb6 hown5 hg5 hat5 hb5 hr4 own4 hal4 hr1 hb3 hB3
   go_wp2_with fail
   go_roundg (lefts n1 s.size)
   case measure => go_light; exact hlf
   case rel => go_light; exact ⟨t ++ t1 ++ [⟨2, 0, 0⟩], n1, A9, c9, rfl, by rw [Hl9.out], rfl, hrng2, HS2, by rw [Hl9.out]; exact own9, hB9⟩
  ·have HE := hide (HS.out t n (.bthD hch))
   clear HS hrng
   rcases hcs with hn | ⟨hn0, hn⟩ | ⟨k, d, rfl, hk, hx, hd⟩
   ·clear hch
    go_wp2_with fail
    go_ret2
    exact ⟨_, rfl, ⟨A, c, t, n, rfl, own, HE.out⟩, hb⟩
   ·clear hch
    go_wp2_with fail
    go_ret2
    exact ⟨_, rfl, ⟨A, c, t, n, rfl, own, HE.out⟩, hb⟩
   ·obtain ⟨-, hget'⟩ := str_get hL hx
    have hdd : ((d.toNat : Int) == 38) = false := toNat_not (k := 38) hd rfl
    have hkz : (k : Int) < (s.size : Int) := by omega
    clear hx hd hch
    go_wp2_with fail
    go_ret2
    exact ⟨_, rfl, ⟨A, c, t, (k : Int), rfl, own, HE.out⟩, hb⟩
set_option maxHeartbeats 2000000 in
set_option maxRecDepth 100000 in
theorem then_q (s : ByteArray) (L : List UInt8) (hL : s.data.toList = L) (hl : s.size ≤ 120) (i : Nat) (hi : i ≤ s.size) (hI : ∀ j, i ≤ j → j ≤ s.size → CallsRd 114 .bth s L j) : CallsRd 97 .thn s L i := by
 intro w
 have Hsz := hide (str_size hL)
 obtain ⟨i0, hi0, hz0, hz1, hz2⟩ := info_parts infoM
 have HI := hide hI
 clear hI
 go_enter Tryz.func97, Tryz.ntmps97
 go_upto_region 2 with (go_at_call 114; refine (HI.out i (Nat.le_refl _) hi w).mono ?_; rintro e w2 ⟨v, rfl, ⟨A1, c1, t, n1, rfl, own1, hSp⟩, hb⟩)
 have hr := hSp.rng (by have := Hsz.out; omega)
 have hrng : Hid (rngP i s.size n1 t.length) := by
  unfold Hid rngP
  have := Hsz.out
  simp only [List.length_nil] at hr
  omega
 have HS : Hid (∀ t' n', Sp L .thnL t n1 t' n' → Sp L .thn [] i t' n') := fun t' n' h => .thn hSp h
 clear hr hSp
 go_loopg [6, 7] (lefts n1 s.size) (fun gh s6 s7 wr => ∃ (t : List Mk) (n : Int) (A : Option Addr) (c : Nat), gh = lefts n s.size ∧ s6 = .slice A t.length c ∧ s7 = .int .i64 n ∧ Hid (rngP i s.size n t.length) ∧ Hid (∀ t' n', Sp L .thnL t n t' n' → Sp L .thn [] i t' n') ∧ OwnM w.heap.size wr (.slice A t.length c) t ∧ Below w.heap.size w wr)
 case atStart => exact ⟨t, n1, A1, c1, rfl, rfl, rfl, hrng, HS, own1, hb⟩
 case round =>
  clear hrng HS own1 hb
  obtain ⟨t, n, A, c, rfl, rfl, rfl, hrng, HS, own, hb⟩ := hrel
  have hrn := hrng.out
  unfold rngP at hrn
  rcases ch_cases (c := 59) (m := s.size) Hsz.out (show n = -1 ∨ (0 ≤ n ∧ n ≤ (s.size : Int)) by omega) with ⟨hch, k, d, rfl, hk, hx, hd⟩ | ⟨hch, hcs⟩
  ·obtain ⟨-, hget'⟩ := str_get hL hx
   have hdd : ((d.toNat : Int) == 59) = true := toNat_is (k := 59) hd rfl
   have hkz : (k : Int) < (s.size : Int) := by omega
   have hw : IntKind.i64.wrap ((k : Int) + 1) = (k : Int) + 1 := IntWalk.i64_in _ (by omega)
   have hc1 := HI.out (k + 1) (by omega) (by omega)
   unfold CallsRd at hc1
   rw [show ((k + 1 : Nat) : Int) = (k : Int) + 1 by omega] at hc1
   have Hc1 := hide hc1
   clear hc1
   have htl : t.length ≤ 200 := by omega
   have Hch := hide hch
   clear hx hd hch hrn
   go_upto_region 4 with (go_at_call 114; refine (Hc1.out wr).mono ?_; rintro e w3 ⟨v, rfl, ⟨A1, c1, t1, n1, rfl, own1, hSp⟩, hb3⟩)
   have hr := hSp.rng (by have := Hsz.out; omega)
   have hl1 : t1.length ≤ 200 := by have := Hsz.out; simp only [List.length_nil] at hr; omega
   have hrng2 : Hid (rngP i s.size n1 (t ++ t1 ++ [(⟨1, 0, 0⟩ : Mk)]).length) := by
    have h1 := hrng.out
    unfold Hid
    unfold rngP at h1 ⊢
    have := Hsz.out
    simp only [List.length_append, List.length_cons, List.length_nil] at hr ⊢
    omega
   have hlf : lefts n1 s.size < lefts (k : Int) s.size := by
    have := Hsz.out
    unfold lefts
    split <;> split <;> omega
   have HS2 : Hid (∀ t' n', Sp L .thnL (t ++ t1 ++ [⟨1, 0, 0⟩]) n1 t' n' → Sp L .thn [] i t' n') := fun t' n' h => HS.out t' n' (.thnM Hch.out hSp h)
   have own3 := own_below own hb3
   obtain ⟨g3, hr3⟩ := OwnM.reads own3
   obtain ⟨g1, hr1⟩ := OwnM.reads own1
   have hB3 := bthen hb hb3
   have hal4 : Below w3.heap.size w3 (w3.alloc (.cells #[] 139)) := by go_grown
   have own4 : (w3.alloc (.cells #[] 139)).ownsRow w3.heap.size 139 3 (.slice (some ⟨w3.heap.size, 0, none⟩) 0 0) 0 [] := own_empty (at_new rfl) (Nat.le_refl _)
   have hr4 := CsR.below hr3 hal4
   clear own own1 own3 hb hrng HS Hch hr hSp hr3
   go_upto_region 5 with (first
    | (at_builtin; refine app_list _ rfl (.tmp 37) (.tmp 38) _ rfl w3.heap.size 139 i0 _ 3 24 Tryz.underlying99 hi0 hz0 hz1 hz2 rfl (by omega) (.slice (some ⟨w3.heap.size, 0, none⟩) 0 0) 0 [] rfl own4 A t.length c (mkCs t) rfl (mkCs_length t) (csr_news1 hr4) (mkCs_one t) (by omega) (by omega) hal4.size ?_
       intro A5 c5 w5 hown5 hg5 hat5
       simp only [Nat.zero_add, List.nil_append] at hown5 hat5 ⊢
       have hb5 : Below w3.heap.size w3 w5 := below_app hal4 own4 hg5 (Nat.le_refl _) hal4.size)
    | (at_builtin; refine app_list _ rfl (.tmp 39) (.tmp 40) _ rfl w3.heap.size 139 i0 _ 3 24 Tryz.underlying99 hi0 hz0 hz1 hz2 rfl (by omega) (.slice A5 t.length c5) t.length (mkCs t) rfl hown5 A1 t1.length c1 (mkCs t1) rfl (mkCs_length t1) (csr_news1 (CsR.below hr1 hb5)) (mkCs_one t1) (by omega) (by omega) hb5.size ?_
       intro A6 c6 w6 hown6 hg6 hat6
       have hb6 : Below w3.heap.size w3 w6 := below_app hb5 hown5 hg6 (Nat.le_refl _) hb5.size
       have hal8 : Below w6.heap.size w6 (w6.alloc (.cells #[.int .i64 1, .int .i64 0, .int .i64 0] 139)) := by go_grown
       have own8 := own_below hown6 hal8
       have hnew8 : (w6.alloc (.cells #[.int .i64 1, .int .i64 0, .int .i64 0] 139)).heap[w6.heap.size]? = some (.cells #[.int .i64 1, .int .i64 0, .int .i64 0] 139 (0, 0)) := at_new rfl
       have hb8 := bthen hb6 hal8)
    | (at_builtin; refine app_list _ rfl (.tmp 41) (.tmp 43) _ rfl w3.heap.size 139 i0 _ 3 24 Tryz.underlying99 hi0 hz0 hz1 hz2 rfl (by omega) (.slice A6 (t.length + t1.length) c6) (t.length + t1.length) (mkCs t ++ mkCs t1) rfl own8 (some ⟨w6.heap.size, 0, none⟩) 1 _ (mkCs [⟨1, 0, 0⟩]) rfl rfl (mk_news1 hnew8) (mkCs_one _) (by omega) (by omega) hb8.size ?_
       intro A9 c9 w9 hown9 hg9 hat9
       have hb9 : Below w3.heap.size w3 w9 := below_app hb8 own8 hg9 (Nat.le_refl _) hb8.size))
   have hl9 : (t ++ t1 ++ [(⟨1, 0, 0⟩ : Mk)]).length = t.length + t1.length + 1 := by simp; omega
   have own9 : OwnM w.heap.size w9 (.slice A9 (t.length + t1.length + 1) c9) (t ++ t1 ++ [⟨1, 0, 0⟩]) := by
    unfold OwnM
    rw [hl9, mkCs_append, mkCs_append]
    exact own_less hown9 hB3.size
   have Hl9 := hide hl9
   have hB9 := bthen hB3 hb9
   clear hl9 hown9 hg9 hat9 hb9 own8 hnew8 hal8 hb8 hown6 hg6 hat6 hb6 hown5 hg5 hat5 hb5 hr4 own4 hal4 hr1 hb3 hB3
   go_wp2_with fail
   go_roundg (lefts n1 s.size)
   case measure => go_light; exact hlf
   case rel => go_light; exact ⟨t ++ t1 ++ [⟨1, 0, 0⟩], n1, A9, c9, rfl, by rw [Hl9.out], rfl, hrng2, HS2, by rw [Hl9.out]; exact own9, hB9⟩
  ·have HE := hide (HS.out t n (.thnD hch))
   clear HS hrng
   rcases hcs with hn | ⟨hn0, hn⟩ | ⟨k, d, rfl, hk, hx, hd⟩
   ·clear hch
    go_wp2_with fail
    go_ret2
    exact ⟨_, rfl, ⟨A, c, t, n, rfl, own, HE.out⟩, hb⟩
   ·clear hch
    go_wp2_with fail
    go_ret2
    exact ⟨_, rfl, ⟨A, c, t, n, rfl, own, HE.out⟩, hb⟩
   ·obtain ⟨-, hget'⟩ := str_get hL hx
    have hdd : ((d.toNat : Int) == 59) = false := toNat_not (k := 59) hd rfl
    have hkz : (k : Int) < (s.size : Int) := by omega
    clear hx hd hch
    go_wp2_with fail
    go_ret2
    exact ⟨_, rfl, ⟨A, c, t, (k : Int), rfl, own, HE.out⟩, hb⟩

set_option maxHeartbeats 2000000 in
set_option maxRecDepth 100000 in
theorem atom_q (s : ByteArray) (L : List UInt8) (hL : s.data.toList = L) (hl : s.size ≤ 120) (i : Nat) (hi : i ≤ s.size) (hI : ∀ j, i < j → j ≤ s.size → CallsRd 97 .thn s L j) : CallsRd 125 .atm s L i := by
 intro w
 have Hsz := hide (str_size hL)
 obtain ⟨i0, hi0, hz0, hz1, hz2⟩ := info_parts infoM
 have HI := hide hI
 clear hI
 by_cases hend : i < s.size
 ·have hz : (i : Int) < (s.size : Int) := by omega
  go_enter Tryz.func125, Tryz.ntmps125
  go_upto_block 0 with fail
  have hal4 : Below w.heap.size w (w.alloc (.cells #[] 139)) := by go_grown
  generalize w.alloc (.cells #[] 139) = W at hal4 ⊢
  go_cut [6, 7] (fun s6 s7 wx => ∃ (t : List Mk) (n : Int) (A : Option Addr) (c : Nat), s6 = .slice A t.length c ∧ s7 = .int .i64 n ∧ Hid (rngP i s.size n t.length) ∧ Hid (∀ t' n', Sp L .atmL t n t' n' → Sp L .atm [] i t' n') ∧ OwnM w.heap.size wx (.slice A t.length c) t ∧ Below w.heap.size w wx)
  case first =>
   rcases ch_cases (L := L) (c := 40) (m := s.size) (n := (i : Int)) Hsz.out (by omega) with ⟨hch, k, d, hki, hk, hx, hd⟩ | ⟨hch, hcs⟩
   ·obtain rfl : i = k := by omega
    obtain ⟨-, hget'⟩ := str_get hL hx
    have hdd : ((d.toNat : Int) == 40) = true := toNat_is (k := 40) hd rfl
    have hw : IntKind.i64.wrap ((i : Int) + 1) = (i : Int) + 1 := IntWalk.i64_in _ (by omega)
    have hc1 := HI.out (i + 1) (by omega) (by omega)
    unfold CallsRd at hc1
    rw [show ((i + 1 : Nat) : Int) = (i : Int) + 1 by omega] at hc1
    have Hc1 := hide hc1
    have Hch := hide hch
    clear hc1 hx hd hch hki
    go_upto_region 13 with (go_at_call 97; refine (Hc1.out W).mono ?_; rintro e w3 ⟨v, rfl, ⟨A1, c1, t1, n1, rfl, own1, hSp⟩, hb3⟩)
    have hr := hSp.rng (by have := Hsz.out; omega)
    simp only [List.length_nil] at hr
    have hB3 := bthen hal4 hb3
    have own3 : Hid (OwnM w.heap.size w3 (.slice A1 t1.length c1) t1) := own_less own1 hal4.size
    rcases ch_cases (L := L) (c := 41) (m := s.size) (n := n1) Hsz.out (by have := Hsz.out; omega) with ⟨hch1, k, d1, rfl, hk1, hx1, hd1⟩ | ⟨hch1, hcs⟩
    ·obtain ⟨-, hget1⟩ := str_get hL hx1
     have hdd1 : ((d1.toNat : Int) == 41) = true := toNat_is (k := 41) hd1 rfl
     have hdn1 : ((d1.toNat : Int) != 41) = false := by rw [bne, hdd1]; rfl
     have hkz : (k : Int) < (s.size : Int) := by omega
     have hw1 : IntKind.i64.wrap ((k : Int) + 1) = (k : Int) + 1 := IntWalk.i64_in _ (by omega)
     have HS : Hid (∀ t' n', Sp L .atmL t1 ((k : Int) + 1) t' n' → Sp L .atm [] i t' n') := fun t' n' h => .atmB Hch.out hSp hch1 h
     have hrng : Hid (rngP i s.size ((k : Int) + 1) t1.length) := by
      unfold Hid rngP
      have := Hsz.out
      omega
     clear hr hSp hx1 hd1 hch1 own1
     go_wp2_with fail
     go_meet
     case rel => exact ⟨t1, (k : Int) + 1, A1, c1, rfl, rfl, hrng, HS, own3.out, hB3⟩
    ·have HE : Hid (Sp L .atm [] i t1 (-1)) := .atmF Hch.out hSp hch1
     clear hr hSp hch1 own1
     rcases hcs with hn | ⟨hn0, hn⟩ | ⟨k, d1, rfl, hk1, hx1, hd1⟩
     ·go_wp2_with fail
      go_ret2
      exact ⟨_, rfl, ⟨A1, c1, t1, _, rfl, own3.out, HE.out⟩, hB3⟩
     ·have hn2 : ¬ n1 < 0 := by omega
      go_wp2_with fail
      go_ret2
      exact ⟨_, rfl, ⟨A1, c1, t1, _, rfl, own3.out, HE.out⟩, hB3⟩
     ·obtain ⟨-, hget1⟩ := str_get hL hx1
      have hdd1 : ((d1.toNat : Int) == 41) = false := toNat_not (k := 41) hd1 rfl
      have hdn1 : ((d1.toNat : Int) != 41) = true := by rw [bne, hdd1]; rfl
      have hkz : (k : Int) < (s.size : Int) := by omega
      clear hx1 hd1
      go_wp2_with fail
      go_ret2
      exact ⟨_, rfl, ⟨A1, c1, t1, _, rfl, own3.out, HE.out⟩, hB3⟩
   ·obtain ⟨d, hx, hd⟩ : ∃ d, L[i]? = some d ∧ d ≠ 40 := by
     rcases hcs with h | ⟨_, h⟩ | ⟨k, d, h1, h2, h3, h4⟩
     ·omega
     ·omega
     ·obtain rfl : i = k := by omega
      exact ⟨d, h3, h4⟩
    obtain ⟨-, hget'⟩ := str_get hL hx
    have hdd : ((d.toNat : Int) == 40) = false := toNat_not (k := 40) hd rfl
    have hn := fun wq => number_c s L hL hl i hi wq
    obtain ⟨l0, hl0⟩ : ∃ l0, (numA L (i : Int)).1 = l0 := ⟨_, rfl⟩
    obtain ⟨e0, he0⟩ : ∃ e0, (numA L (i : Int)).2 = e0 := ⟨_, rfl⟩
    have hrg := numA_rng (s := L) (n := (i : Int)) (by have := Hsz.out; omega)
    rw [he0] at hrg
    rw [hl0, he0] at hn
    have Hn := hide hn
    have hna : numA L (i : Int) = (l0, e0) := by rw [← hl0, ← he0]
    have hstep := fun t' n' => Sp.atmN (s := L) (n := (i : Int)) (t' := t') (n' := n') ⟨by omega, by have := Hsz.out; omega⟩ hch
    rw [hna] at hstep
    dsimp only at hstep
    clear hn hl0 he0 hna hx hd hch hcs
    go_upto_region 5 with (go_at_call 134; refine (Hn.out W).mono ?_; rintro e w8 ⟨rfl, hw8⟩; obtain rfl := hw8.symm; clear hw8)
    rcases ch_cases (L := L) (c := 45) (m := s.size) (n := e0) Hsz.out (by have := Hsz.out; omega) with ⟨hch1, k, d1, rfl, hk1, hx1, hd1⟩ | ⟨hch1, hcs⟩
    ·obtain ⟨-, hget1⟩ := str_get hL hx1
     have hdd1 : ((d1.toNat : Int) == 45) = true := toNat_is (k := 45) hd1 rfl
     have hkz : (k : Int) < (s.size : Int) := by omega
     have hk0 : (0 : Int) < (k : Int) := by omega
     have hw1 : IntKind.i64.wrap ((k : Int) + 1) = (k : Int) + 1 := IntWalk.i64_in _ (by omega)
     have hn := fun wq => number_c s L hL hl (k + 1) (by omega) wq
     rw [show ((k + 1 : Nat) : Int) = (k : Int) + 1 by omega] at hn
     have hhi : hiA L (l0, (k : Int)) = numA L ((k : Int) + 1) := by
      unfold hiA
      rw [if_pos ⟨hk0, hch1⟩]
     obtain ⟨h0, hh0⟩ : ∃ h0, (numA L ((k : Int) + 1)).1 = h0 := ⟨_, rfl⟩
     obtain ⟨e1, he1⟩ : ∃ e1, (numA L ((k : Int) + 1)).2 = e1 := ⟨_, rfl⟩
     have hrg1 := numA_rng (s := L) (n := (k : Int) + 1) (by have := Hsz.out; omega)
     rw [he1] at hrg1
     rw [hh0, he1] at hn
     rw [hhi, hh0, he1] at hstep
     have Hn1 := hide hn
     have HS : Hid (∀ t' n', Sp L .atmL [⟨0, l0, h0⟩] e1 t' n' → Sp L .atm [] i t' n') := hstep
     have hrng : Hid (rngP i s.size e1 [(⟨0, l0, h0⟩ : Mk)].length) := by
      unfold Hid rngP
      have := Hsz.out
      simp only [List.length_cons, List.length_nil]
      omega
     clear hn hh0 he1 hhi hstep hx1 hd1 hch1 hrg1 hrg
     go_upto_region 7 with (go_at_call 134; refine (Hn1.out W).mono ?_; rintro e w8 ⟨rfl, hw8⟩; obtain rfl := hw8.symm; clear hw8)
     have hal5 : Below W.heap.size W (W.alloc (.cells #[.int .i64 0, .int .i64 l0, .int .i64 h0] 139)) := by go_grown
     have own5 : Hid (OwnM w.heap.size (W.alloc (.cells #[.int .i64 0, .int .i64 l0, .int .i64 h0] 139)) (.slice (some ⟨W.heap.size, 0, none⟩) 1 1) [⟨0, l0, h0⟩]) := own_blk0 (n := 1) (cs := #[.int .i64 0, .int .i64 l0, .int .i64 h0]) (at_new rfl) hal4.size rfl (by unfold maxLen; omega)
     have hB5 := bthen hal4 hal5
     go_wp2_with fail
     go_meet
     case rel => exact ⟨[⟨0, l0, h0⟩], e1, _, 1, rfl, rfl, hrng, HS, own5.out, hB5⟩
    ·have hhi : hiA L (l0, e0) = (l0, e0) := by
      unfold hiA
      rw [if_neg]
      rintro ⟨-, h⟩
      rw [show ((l0, e0) : Int × Int).2 = e0 from rfl, hch1] at h
      cases h
     rw [hhi] at hstep
     have HS : Hid (∀ t' n', Sp L .atmL [⟨0, l0, l0⟩] e0 t' n' → Sp L .atm [] i t' n') := hstep
     have hrng : Hid (rngP i s.size e0 [(⟨0, l0, l0⟩ : Mk)].length) := by
      clear hcs
      unfold Hid rngP
      have := Hsz.out
      simp only [List.length_cons, List.length_nil]
      omega
     clear hhi hstep hch1
     rcases hcs with hn | ⟨hn0, hn⟩ | ⟨k, d1, rfl, hk1, hx1, hd1⟩
     ·have hn2 : ¬ (0 : Int) < e0 := Int.not_lt.2 (Int.le_of_lt hn)
      clear hrg
      have hal5 : Below W.heap.size W (W.alloc (.cells #[.int .i64 0, .int .i64 l0, .int .i64 l0] 139)) := by go_grown
      have own5 : Hid (OwnM w.heap.size (W.alloc (.cells #[.int .i64 0, .int .i64 l0, .int .i64 l0] 139)) (.slice (some ⟨W.heap.size, 0, none⟩) 1 1) [⟨0, l0, l0⟩]) := own_blk0 (n := 1) (cs := #[.int .i64 0, .int .i64 l0, .int .i64 l0]) (at_new rfl) hal4.size rfl (by unfold maxLen; omega)
      have hB5 := bthen hal4 hal5
      go_wp2_with fail
      go_meet
      case rel => exact ⟨[⟨0, l0, l0⟩], e0, _, 1, rfl, rfl, hrng, HS, own5.out, hB5⟩
     ·have hn2 : (0 : Int) < e0 := Int.lt_of_lt_of_le (Int.lt_of_le_of_lt (Int.natCast_nonneg i) hz) hn
      have hn3 : ¬ e0 < (s.size : Int) := Int.not_lt.2 hn
      clear hrg
      have hal5 : Below W.heap.size W (W.alloc (.cells #[.int .i64 0, .int .i64 l0, .int .i64 l0] 139)) := by go_grown
      have own5 : Hid (OwnM w.heap.size (W.alloc (.cells #[.int .i64 0, .int .i64 l0, .int .i64 l0] 139)) (.slice (some ⟨W.heap.size, 0, none⟩) 1 1) [⟨0, l0, l0⟩]) := own_blk0 (n := 1) (cs := #[.int .i64 0, .int .i64 l0, .int .i64 l0]) (at_new rfl) hal4.size rfl (by unfold maxLen; omega)
      have hB5 := bthen hal4 hal5
      go_wp2_with fail
      go_meet
      case rel => exact ⟨[⟨0, l0, l0⟩], e0, _, 1, rfl, rfl, hrng, HS, own5.out, hB5⟩
     ·obtain ⟨-, hget1⟩ := str_get hL hx1
      have hdd1 : ((d1.toNat : Int) == 45) = false := toNat_not (k := 45) hd1 rfl
      have hkz : (k : Int) < (s.size : Int) := by omega
      have hk0 : (0 : Int) < (k : Int) := by omega
      clear hx1 hd1 hrg
      have hal5 : Below W.heap.size W (W.alloc (.cells #[.int .i64 0, .int .i64 l0, .int .i64 l0] 139)) := by go_grown
      have own5 : Hid (OwnM w.heap.size (W.alloc (.cells #[.int .i64 0, .int .i64 l0, .int .i64 l0] 139)) (.slice (some ⟨W.heap.size, 0, none⟩) 1 1) [⟨0, l0, l0⟩]) := own_blk0 (n := 1) (cs := #[.int .i64 0, .int .i64 l0, .int .i64 l0]) (at_new rfl) hal4.size rfl (by unfold maxLen; omega)
      have hB5 := bthen hal4 hal5
      go_wp2_with fail
      go_meet
      case rel => exact ⟨[⟨0, l0, l0⟩], (k : Int), _, 1, rfl, rfl, hrng, HS, own5.out, hB5⟩
  case rest =>
   clear hal4
   obtain ⟨t0, n0, A0, c0, rfl, rfl, hrng, HS, own0, hb0⟩ := hcut
   go_wp2_with fail
   go_loopg [6, 7] (lefts n0 s.size) (fun gh s6 s7 wr => ∃ (t : List Mk) (n : Int) (A : Option Addr) (c : Nat), gh = lefts n s.size ∧ s6 = .slice A t.length c ∧ s7 = .int .i64 n ∧ Hid (rngP i s.size n t.length) ∧ Hid (∀ t' n', Sp L .atmL t n t' n' → Sp L .atm [] i t' n') ∧ OwnM w.heap.size wr (.slice A t.length c) t ∧ Below w.heap.size w wr)
   case atStart => exact ⟨t0, n0, A0, c0, rfl, rfl, rfl, hrng, HS, own0, hb0⟩
   case round =>
    clear hrng HS own0 hb0
    obtain ⟨t, n, A, c, rfl, rfl, rfl, hrng, HS, own, hb⟩ := hrel
    have hrn := hrng.out
    unfold rngP at hrn
    rcases ch_cases (L := L) (c := 60) (m := s.size) (n := n) Hsz.out (by omega) with ⟨hch, k, d, rfl, hk, hx, hd⟩ | ⟨hch, hcs⟩
    ·obtain ⟨-, hget'⟩ := str_get hL hx
     have hdd : ((d.toNat : Int) == 60) = true := toNat_is (k := 60) hd rfl
     have hkz : (k : Int) < (s.size : Int) := by omega
     have hw : IntKind.i64.wrap ((k : Int) + 1) = (k : Int) + 1 := IntWalk.i64_in _ (by omega)
     have htl : t.length ≤ 200 := by omega
     have hn := fun wq => number_c s L hL hl (k + 1) (by omega) wq
     rw [show ((k + 1 : Nat) : Int) = (k : Int) + 1 by omega] at hn
     obtain ⟨h0, hh0⟩ : ∃ h0, (numA L ((k : Int) + 1)).1 = h0 := ⟨_, rfl⟩
     obtain ⟨e1, he1⟩ : ∃ e1, (numA L ((k : Int) + 1)).2 = e1 := ⟨_, rfl⟩
     have hrg1 := numA_rng (s := L) (n := (k : Int) + 1) (by have := Hsz.out; omega)
     have hstep := fun t' n' => Sp.atmM (s := L) (t := t) (n := (k : Int)) (t' := t') (n' := n') hch
     rw [hh0, he1] at hstep
     rw [he1] at hrg1
     rw [hh0, he1] at hn
     have Hn1 := hide hn
     have HS2 : Hid (∀ t' n', Sp L .atmL (t ++ [⟨3, 0, h0⟩]) e1 t' n' → Sp L .atm [] i t' n') := fun t' n' h => HS.out t' n' (hstep t' n' h)
     have hrng2 : Hid (rngP i s.size e1 (t ++ [(⟨3, 0, h0⟩ : Mk)]).length) := by
      have h1 := hrng.out
      unfold Hid
      unfold rngP at h1 ⊢
      have := Hsz.out
      simp only [List.length_append, List.length_cons, List.length_nil]
      omega
     have hlf : lefts e1 s.size < lefts (k : Int) s.size := by
      have := Hsz.out
      unfold lefts
      split <;> split <;> omega
     obtain ⟨g3, hr3⟩ := OwnM.reads own
     have hal4 : Below wr.heap.size wr (wr.alloc (.cells #[] 139)) := by go_grown
     have own4 : (wr.alloc (.cells #[] 139)).ownsRow wr.heap.size 139 3 (.slice (some ⟨wr.heap.size, 0, none⟩) 0 0) 0 [] := own_empty (at_new rfl) (Nat.le_refl _)
     have hr4 := CsR.below hr3 hal4
     clear hn hh0 he1 hstep hx hd hch hrn hrg1 own hrng HS hr3
     go_upto_region 18 with (go_at_call 134; refine (Hn1.out wr).mono ?_; rintro e w8 ⟨rfl, hw8⟩; obtain rfl := hw8.symm; clear hw8)
     go_upto_region 19 with (first
      | (at_builtin; refine app_list _ rfl (.tmp 107) (.tmp 108) _ rfl wr.heap.size 139 i0 _ 3 24 Tryz.underlying99 hi0 hz0 hz1 hz2 rfl (by omega) (.slice (some ⟨wr.heap.size, 0, none⟩) 0 0) 0 [] rfl own4 A t.length c (mkCs t) rfl (mkCs_length t) (csr_news1 hr4) (mkCs_one t) (by omega) (by omega) hal4.size ?_
         intro A5 c5 w5 hown5 hg5 hat5
         simp only [Nat.zero_add, List.nil_append] at hown5 hat5 ⊢
         have hb5 : Below wr.heap.size wr w5 := below_app hal4 own4 hg5 (Nat.le_refl _) hal4.size
         have hal8 : Below w5.heap.size w5 (w5.alloc (.cells #[.int .i64 3, .int .i64 0, .int .i64 h0] 139)) := by go_grown
         have own8 := own_below hown5 hal8
         have hnew8 : (w5.alloc (.cells #[.int .i64 3, .int .i64 0, .int .i64 h0] 139)).heap[w5.heap.size]? = some (.cells #[.int .i64 3, .int .i64 0, .int .i64 h0] 139 (0, 0)) := at_new rfl
         have hb8 := bthen hb5 hal8)
      | (at_builtin; refine app_list _ rfl (.tmp 109) (.tmp 112) _ rfl wr.heap.size 139 i0 _ 3 24 Tryz.underlying99 hi0 hz0 hz1 hz2 rfl (by omega) (.slice A5 t.length c5) t.length (mkCs t) rfl own8 (some ⟨w5.heap.size, 0, none⟩) 1 _ (mkCs [⟨3, 0, h0⟩]) rfl rfl (mk_news1 hnew8) (mkCs_one _) (by omega) (by omega) hb8.size ?_
         intro A9 c9 w9 hown9 hg9 hat9
         have hb9 : Below wr.heap.size wr w9 := below_app hb8 own8 hg9 (Nat.le_refl _) hb8.size))
     have hl9 : (t ++ [(⟨3, 0, h0⟩ : Mk)]).length = t.length + 1 := by simp
     have own9 : OwnM w.heap.size w9 (.slice A9 (t.length + 1) c9) (t ++ [⟨3, 0, h0⟩]) := by
      unfold OwnM
      rw [hl9, mkCs_append]
      exact own_less hown9 hb.size
     have Hl9 := hide hl9
     have hB9 := bthen hb hb9
     clear hl9 hown9 hg9 hat9 hb9 own8 hnew8 hal8 hb8 hown5 hg5 hat5 hb5 hr4 own4 hal4 hb
     go_wp2_with fail
     go_roundg (lefts e1 s.size)
     case measure => go_light; exact hlf
     case rel => go_light; exact ⟨t ++ [⟨3, 0, h0⟩], e1, A9, c9, rfl, by rw [Hl9.out], rfl, hrng2, HS2, by rw [Hl9.out]; exact own9, hB9⟩
    ·have HE := hide (HS.out t n (.atmD hch))
     clear HS hrng
     rcases hcs with hn | ⟨hn0, hn⟩ | ⟨k, d, rfl, hk, hx, hd⟩
     ·clear hch
      go_wp2_with fail
      go_ret2
      exact ⟨_, rfl, ⟨A, c, t, n, rfl, own, HE.out⟩, hb⟩
     ·clear hch
      go_wp2_with fail
      go_ret2
      exact ⟨_, rfl, ⟨A, c, t, n, rfl, own, HE.out⟩, hb⟩
     ·obtain ⟨-, hget'⟩ := str_get hL hx
      have hdd : ((d.toNat : Int) == 60) = false := toNat_not (k := 60) hd rfl
      have hkz : (k : Int) < (s.size : Int) := by omega
      clear hx hd hch
      go_wp2_with fail
      go_ret2
      exact ⟨_, rfl, ⟨A, c, t, (k : Int), rfl, own, HE.out⟩, hb⟩
 ·have hz : ¬ (i : Int) < (s.size : Int) := by omega
  have hS : Hid (Sp L .atm [] (i : Int) [] (-1)) := .atmX (.inr (by have := Hsz.out; omega))
  have own4 : Hid (OwnM w.heap.size (w.alloc (.cells #[] 139)) (.slice (some ⟨w.heap.size, 0, none⟩) 0 0) []) := own_empty (at_new rfl) (Nat.le_refl _)
  have hal4 : Below w.heap.size w (w.alloc (.cells #[] 139)) := by go_grown
  go_enter Tryz.func125, Tryz.ntmps125
  go_wp2_with fail
  go_ret2
  exact ⟨_, rfl, ⟨_, _, [], _, rfl, own4.out, hS.out⟩, hal4⟩

open Go Go.RowKit Pp

theorem then_all (s : ByteArray) (L : List UInt8) (hL : s.data.toList = L) (hl : s.size ≤ 120) : ∀ (N i : Nat), s.size - i ≤ N → i ≤ s.size → CallsRd 97 .thn s L i := by
 intro N
 induction N with
 | zero => exact fun i h1 h2 => then_q s L hL hl i h2 fun j hj hj2 => both_q s L hL hl j hj2 fun k hk hk2 => atom_q s L hL hl k hk2 fun l hl1 hl2 => absurd hl2 (by omega)
 | succ N ih => exact fun i h1 h2 => then_q s L hL hl i h2 fun j hj hj2 => both_q s L hL hl j hj2 fun k hk hk2 => atom_q s L hL hl k hk2 fun l hl1 hl2 => ih l (by omega) hl2
namespace Pp
def RtV (rt : List UInt8 → Option (List Mk)) (L : List UInt8) (w w' : World) (v : Value) : Prop := ∃ A c, ∃ t : List Mk, v = .tuple #[.slice A t.length c, .bool (rt L).isSome] ∧ OwnM w.heap.size w' (.slice A t.length c) t ∧ t = (rt L).getD [] ∧ t.length ≤ 200
end Pp
theorem str_eq {s : ByteArray} {L : List UInt8} (hL : s.data.toList = L) : s = ⟨L.toArray⟩ := by
 subst hL
 apply ByteArray.ext
 simp
theorem str_list {s : ByteArray} {L : List UInt8} (hL : s.data.toList = L) : s.toList = L := by
 subst hL
 exact ByteArray.toList_eq s
theorem str_inj {a b : List UInt8} (h : (⟨a.toArray⟩ : ByteArray) = ⟨b.toArray⟩) : a = b := by
 have := congrArg (fun x : ByteArray => x.data.toList) h
 simpa using this
set_option maxHeartbeats 2000000 in
theorem sReadTerm_q (rt : List UInt8 → Option (List Mk)) (hrt : IsRead rt) (s : ByteArray) (L : List UInt8) (hL : s.data.toList = L) (w : World) :
  Calls Tryz.prog 69 #[.string s] w fun e w' => ∃ v, e = .returned v ∧ RtV rt L w w' v ∧ Below w.heap.size w w' := by
 have hsz := str_size hL
 by_cases hl : s.size ≤ 120
 ·have hz : ¬ (120 : Int) < (s.size : Int) := by omega
  have hc := then_all s L hL hl s.size 0 (by omega) (by omega)
  unfold CallsRd at hc
  rw [show ((0 : Nat) : Int) = 0 from rfl] at hc
  have Hc := hide hc
  clear hc
  have Hsz := hide hsz
  have Hss := hide (str_eq hL)
  clear hsz
  go_enter Tryz.func69, Tryz.ntmps69
  go_upto_region 4 with (go_at_call 97; refine (Hc.out w).mono ?_; rintro e w3 ⟨v, rfl, ⟨A1, c1, t, n1, rfl, own1, hSp⟩, hb3⟩)
  have hr := hSp.rng (.inr (by have := Hsz.out; omega))
  have htl : t.length ≤ 200 := by have := Hsz.out; simp only [List.length_nil] at hr; omega
  have hdet : ∀ t', rt L = some t' → t' = t ∧ n1 = (L.length : Int) := fun t' h => by
   obtain ⟨-, a, h1, h2⟩ := (hrt L t').1 h
   have h3 := sp_text h1
   rw [h2] at h3
   have := h3.det hSp
   exact ⟨this.1, this.2.symm⟩
  have hcap := own_capM own1
  obtain ⟨g1, hr1⟩ := OwnM.reads own1
  clear hSp hr
  by_cases hn : n1 = (s.size : Int)
  ·have hne : (n1 != (s.size : Int)) = false := by simp [hn]
   cases ht : termOf t with
   | none =>
     have hk : termOk t = false := by unfold termOk; rw [ht]; rfl
     have hno : rt L = none := by
      cases hr : rt L with
      | none => rfl
      | some t' =>
        obtain ⟨-, a, h1, h2⟩ := (hrt L t').1 hr
        rw [(hdet t' hr).1, ht] at h1
        cases h1
     have HV : ∀ w' g, Hid (OwnM w.heap.size w' (.slice (some ⟨g, 0, none⟩) 0 0) []) → Hid (RtV rt L w w' (.tuple #[.slice (some ⟨g, 0, none⟩) 0 0, .bool false])) := fun w' g h => ⟨_, _, [], by rw [hno]; rfl, h.out, by rw [hno]; rfl, by simp⟩
     have Hk := hide hk
     clear hk hno hdet ht hn
     go_wp2_with (go_at_call 98; go_fit (sTermOk_c t A1 g1 0 c1 _ _ (Nat.le_refl _) hr1 (by omega)); rintro e w4 ⟨rfl, hb4⟩; rw [Hk.out])
     go_ret2
     exact ⟨_, rfl, (HV _ _ (own_empty (at_new rfl) (Nat.le_trans hb3.size (hb4).size))).out, bthen (bthen hb3 hb4) (by go_grown)⟩
   | some a =>
     have hk : termOk t = true := by unfold termOk; rw [ht]; rfl
     obtain ⟨hf, hm, h11⟩ := term_back ht
     have hszz : a.size ≤ 20 := by rw [← Tm.marks_len, hm]; omega
     have hcall := fun wq hq => l11Text_q a A1 g1 0 c1 wq hf hszz (by rw [hm]; exact hcap) hq
     rw [hm] at hcall
     have Hcall := hide hcall
     have Hk := hide hk
     by_cases htx : a.text = L
     ·have hyes : rt L = some t := (hrt L t).2 ⟨by have := Hsz.out; omega, a, ht, htx⟩
      have HV : ∀ w', Hid (OwnM w.heap.size w' (.slice A1 t.length c1) t) → Hid (RtV rt L w w' (.tuple #[.slice A1 t.length c1, .bool true])) := fun w' h => ⟨_, _, t, by rw [hyes]; rfl, h.out, by rw [hyes]; rfl, htl⟩
      have hcmp : (a.text == s.toList) = true := by rw [str_list hL]; simp [htx]
      clear hk hdet ht hn hf hm h11 hcall htx hyes
      generalize a.text = tx at hcmp Hcall
      go_wp2_with (first
       | (go_at_call 98; go_fit (sTermOk_c t A1 g1 0 c1 _ _ (Nat.le_refl _) hr1 (by omega)); rintro e w4 ⟨rfl, hb4⟩; rw [Hk.out])
       | (go_at_call 99; refine (Hcall.out _ ((CsR.below hr1 hb4).more hb4.size)).mono ?_; rintro e w5 ⟨rfl, hb5⟩; unfold txt))
      go_ret2
      exact ⟨_, rfl, (HV _ (own_below own1 (bthen hb4 hb5))).out, bthen hb3 (bthen hb4 hb5)⟩
     ·have hno : rt L = none := by
       cases hr : rt L with
       | none => rfl
       | some t' =>
         obtain ⟨-, a', h1, h2⟩ := (hrt L t').1 hr
         rw [(hdet t' hr).1, ht] at h1
         injection h1 with h1
         rw [h1] at htx
         exact absurd h2 htx
      have HV : ∀ w' g, Hid (OwnM w.heap.size w' (.slice (some ⟨g, 0, none⟩) 0 0) []) → Hid (RtV rt L w w' (.tuple #[.slice (some ⟨g, 0, none⟩) 0 0, .bool false])) := fun w' g h => ⟨_, _, [], by rw [hno]; rfl, h.out, by rw [hno]; rfl, by simp⟩
      have hcmp : (a.text == s.toList) = false := by rw [str_list hL]; simp [htx]
      clear hk hdet ht hn hf hm h11 hcall htx hno
      generalize a.text = tx at hcmp Hcall
      go_wp2_with (first
       | (go_at_call 98; go_fit (sTermOk_c t A1 g1 0 c1 _ _ (Nat.le_refl _) hr1 (by omega)); rintro e w4 ⟨rfl, hb4⟩; rw [Hk.out])
       | (go_at_call 99; refine (Hcall.out _ ((CsR.below hr1 hb4).more hb4.size)).mono ?_; rintro e w5 ⟨rfl, hb5⟩; unfold txt))
      go_ret2
      exact ⟨_, rfl, (HV _ _ (own_empty (at_new rfl) (Nat.le_trans hb3.size ((bthen hb4 hb5)).size))).out, bthen (bthen hb3 (bthen hb4 hb5)) (by go_grown)⟩
  ·have hne : (n1 != (s.size : Int)) = true := by simp [hn]
   have hno : rt L = none := by
    cases hr : rt L with
    | none => rfl
    | some t' =>
      have := (hdet t' hr).2
      have h2 := Hsz.out
      omega
   have HV : ∀ w' g, Hid (OwnM w.heap.size w' (.slice (some ⟨g, 0, none⟩) 0 0) []) → Hid (RtV rt L w w' (.tuple #[.slice (some ⟨g, 0, none⟩) 0 0, .bool false])) := fun w' g h => ⟨_, _, [], by rw [hno]; rfl, h.out, by rw [hno]; rfl, by simp⟩
   clear hno hdet hn
   have hb4 : Below w3.heap.size w3 w3 := Below.refl _ _
   go_wp2_with fail
   go_ret2
   exact ⟨_, rfl, (HV _ _ (own_empty (at_new rfl) (Nat.le_trans hb3.size (hb4).size))).out, bthen (bthen hb3 hb4) (by go_grown)⟩
 ·have hz : (120 : Int) < (s.size : Int) := by omega
  have hno : rt L = none := by
   cases hr : rt L with
   | none => rfl
   | some t' =>
     obtain ⟨h1, -⟩ := (hrt L t').1 hr
     omega
  have own4 : Hid (OwnM w.heap.size (w.alloc (.cells #[] 139)) (.slice (some ⟨w.heap.size, 0, none⟩) 0 0) []) := own_empty (at_new rfl) (Nat.le_refl _)
  have hal4 : Below w.heap.size w (w.alloc (.cells #[] 139)) := by go_grown
  have HR : Hid (RtV rt L w (w.alloc (.cells #[] 139)) (.tuple #[.slice (some ⟨w.heap.size, 0, none⟩) 0 0, .bool false])) := ⟨_, _, [], by rw [hno]; rfl, own4.out, by rw [hno]; rfl, by simp⟩
  clear hsz hno own4
  go_enter Tryz.func69, Tryz.ntmps69
  go_wp2_with fail
  go_ret2
  exact ⟨_, rfl, HR.out, hal4⟩

theorem bsTxt_snoc : ∀ (bs : List Bd) (b : Bd), bsTxt (bs ++ [b]) = bsTxt bs ++ bTxt b
 | [], b => by simp [bsTxt]
 | x :: bs, b => by simp [bsTxt, bsTxt_snoc bs b]
theorem bsTxt_len : ∀ (bs : List Bd), (∀ b ∈ bs, bdSm b) → (bsTxt bs).length ≤ 12 * bs.length
 | [], _ => by simp [bsTxt]
 | x :: bs, h => by
   have ih := bsTxt_len bs (fun b hb => h b (by simp [hb]))
   obtain ⟨h1, h2, h3⟩ := h x (by simp)
   have := num_len x.f h1
   have := num_len x.t h2
   have := num_len x.m h3
   simp only [bsTxt, bTxt, List.length_append, List.length_cons]
   omega
/-- A bound in a box. -/
structure BB3 (W : World) (V : Nat) (x : Bd) : Prop where
 ex : V < W.heap.size
 c0 : W.cell? ⟨V, 0, none⟩ = some (.int .i64 x.f)
 c1 : W.cell? ⟨V, 1, none⟩ = some (.int .i64 x.t)
 c2 : W.cell? ⟨V, 2, none⟩ = some (.int .i64 x.m)
theorem BB3.below {W W' : World} {V : Nat} {x : Bd} (h : BB3 W V x) (hb : Below W.heap.size W W') : BB3 W' V x :=
 ⟨Nat.lt_of_lt_of_le h.ex hb.size, ((bcell hb).1 _ _ h.ex).trans h.c0, ((bcell hb).1 _ _ h.ex).trans h.c1, ((bcell hb).1 _ _ h.ex).trans h.c2⟩
theorem bb3_new (W : World) (x : Bd) (t : TypeId) : BB3 (W.alloc (.cells #[.int .i64 x.f, .int .i64 x.t, .int .i64 x.m] t)) W.heap.size x :=
 ⟨by simp, by simp [go_sem], by simp [go_sem], by simp [go_sem]⟩
set_option maxHeartbeats 4000000 in
set_option maxRecDepth 100000 in
theorem sPlanText_c (p : Pl) (hp : planOk p = true) (A : Option Addr) (b o c B : Nat) (w : World) (hB : B ≤ w.heap.size) (hR : BdsR w B b o A p.bs) :
  Calls Tryz.prog 37 #[.agg #[.int .i64 p.n, .slice A p.bs.length c]] w fun e w' => e = .returned (txt (planText p)) ∧ Below w.heap.size w w' := by
 obtain ⟨hn, hbs⟩ := planOk_sm hp
 have h16 : p.bs.length ≤ 16 := (planOk_iff.1 hp).2.1
 obtain ⟨n, bs⟩ := p
 dsimp only at *
 have hP := po_new (t := 34) (n := n) (c := c) (Below.refl w.heap.size w) (hR.more hB)
 have hcn := fun wq => num_c n hn wq
 have hln := num_len n hn
 obtain ⟨nt, hnt⟩ : ∃ nt, num n = nt := ⟨_, rfl⟩
 rw [hnt] at hcn hln
 have htx : planText ⟨n, bs⟩ = nt ++ bsTxt bs := by unfold planText; rw [hnt]
 rw [htx]
 have Hbs := hide hbs
 have Hp := hide hp
 have Hcn := hide hcn
 clear hR hbs hp hcn hnt htx
 go_enter Tryz.func37, Tryz.ntmps37
 go_upto_region 1 with fail
 generalize w.alloc (.cells #[.int .i64 n, .slice A bs.length c] 34) = W at hP ⊢
 have p0 := hP.c0
 have p1 := hP.c1
 go_upto_region 3 with (go_at_call 36; (go_fit (sPlanOk_c ⟨n, bs⟩ A b o c _ _ (show bs.length ≤ 2000000 by omega) (Nat.le_refl _) hP.rd); rintro e w2 ⟨rfl, hb2⟩; rw [Hp.out]; have hP2 := hP.below hb2))
 clear p0 p1 hb2 hP
 have p0 := hP2.c0
 have p1 := hP2.c1
 go_upto_region 4 with (go_at_call 72; refine (Hcn.out _).mono ?_; rintro e w3 ⟨rfl, hb3⟩; unfold txt; have hP3 := hP2.below hb3)
 clear p0 p1 hb3 hP2
 go_wp2_with fail
 go_loopg [3, 4, 5] bs.length (fun gh s3 s4 s5 wr => ∃ (k : Nat) (xs : List UInt8), k ≤ bs.length ∧ gh = bs.length - k ∧ s4 = .int .i64 k ∧ s3 = .string ⟨xs.toArray⟩ ∧ Hid (xs = nt ++ bsTxt (bs.take k)) ∧ PO w wr w.heap.size b o n A c bs)
 case atStart => exact ⟨0, nt, Nat.zero_le _, rfl, rfl, rfl, by unfold Hid; simp [bsTxt], hP3⟩
 case round =>
  clear hP3
  obtain ⟨k, xs, hk, rfl, rfl, rfl, Hxs, hP⟩ := hrel
  have p0 := hP.c0
  have p1 := hP.c1
  have hxl : xs.length ≤ 300 := by
   rw [Hxs.out]
   have := bsTxt_len (bs.take k) (fun b hb => Hbs.out b (List.mem_of_mem_take hb))
   rw [List.length_append]
   rw [List.length_take] at this
   omega
  by_cases hlt : k < bs.length
  ·have hx := List.getElem?_eq_getElem hlt
   obtain rfl := hP.rd.addr (by omega)
   have hlt2 := hP.rd.lt (by omega)
   have d0 := hP.rd.c0 k _ hx
   have d1 := hP.rd.c1 k _ hx
   have d2 := hP.rd.c2 k _ hx
   obtain ⟨x1, x2, x3⟩ := Hbs.out _ (List.mem_of_getElem? hx)
   have htk : bs.take (k + 1) = bs.take k ++ [bs[k]] := by rw [List.take_add_one, hx]; rfl
   have Hxs2 : Hid (xs ++ bTxt bs[k] = nt ++ bsTxt (bs.take (k + 1))) := by unfold Hid; rw [htk, bsTxt_snoc, Hxs.out, List.append_assoc]
   have hkz : (k : Int) < (bs.length : Int) := by omega
   clear htk hx
   generalize bs[k] = x at d0 d1 d2 x1 x2 x3 Hxs2
   have hl1 := num_len x.f x1
   have hl2 := num_len x.t x2
   have hl3 := num_len x.m x3
   have hc1 := fun wq => num_c x.f x1 wq
   have hc2 := fun wq => num_c x.t x2 wq
   have hc3 := fun wq => num_c x.m x3 wq
   have hbt : bTxt x = 32 :: (num x.f ++ 58 :: (num x.t ++ 58 :: num x.m)) := rfl
   rw [hbt] at Hxs2
   generalize num x.f = nf at hl1 hc1 Hxs2
   generalize num x.t = nt' at hl2 hc2 Hxs2
   generalize num x.m = nm at hl3 hc3 Hxs2
   have Hc1 := hide hc1
   have Hc2 := hide hc2
   have Hc3 := hide hc3
   clear hc1 hc2 hc3 hbt
   have hal : Below wr.heap.size wr (wr.alloc (.cells #[.int .i64 x.f, .int .i64 x.t, .int .i64 x.m] 97)) := by go_grown
   have hB3 := bb3_new wr x 97
   have hP2 := hP.below hal
   go_upto_region 8 with fail
   generalize wr.alloc (.cells #[.int .i64 x.f, .int .i64 x.t, .int .i64 x.m] 97) = W2 at hB3 hP2 hal ⊢
   generalize wr.heap.size = V at hB3 ⊢
   clear p0 p1 d0 d1 d2 hP hal
   refine wp_regionE (fun w' => w'.cell? ⟨V, 0, none⟩ = some (.int .i64 x.f) ∧ w'.cell? ⟨V, 1, none⟩ = some (.int .i64 x.t) ∧ w'.cell? ⟨V, 2, none⟩ = some (.int .i64 x.m)) 16 (by kernel_rfl) ?_
   change wpE _ _ _ _ _ _ 17 #[false, false, false, false, false, false, false, false, false, false, false, false, false, false, false, false, false] _ _
   have hdr : Below W2.heap.size W2 W2.drew := by go_grown
   replace hB3 := hB3.below hdr
   generalize W2.drew = wd at hdr hB3 ⊢
   have hS0 : wd.cell? ⟨V, 0, none⟩ = some (.int .i64 x.f) ∧ wd.cell? ⟨V, 1, none⟩ = some (.int .i64 x.t) ∧ wd.cell? ⟨V, 2, none⟩ = some (.int .i64 x.m) := ⟨hB3.c0, hB3.c1, hB3.c2⟩
   refine wpE_tk (v := ?_) 0 [16] (hy := ?_) (hS := hS0) (h := ?_)
   rotate_left
   ·intro w' hSw
    obtain ⟨hs0, hs1, hs2⟩ := hSw
    simp only [xg0, xg1, xg2]
    go_simp
    try rw [if_neg (by omega)]
    all_goals with_reducible rfl
   simp only [xg0, xg1, xg2, Act.put, xs0, xs1, xs2]
   refine wpE_tk (v := ?_) 1 [16] (hy := ?_) (hS := hS0) (h := ?_)
   rotate_left
   ·intro w' hSw
    obtain ⟨hs0, hs1, hs2⟩ := hSw
    simp only [xg0, xg1, xg2]
    go_simp
    try rw [if_neg (by omega)]
    all_goals with_reducible rfl
   simp only [xg0, xg1, xg2, Act.put, xs0, xs1, xs2]
   refine wpE_tk (v := ?_) 2 [16] (hy := ?_) (hS := hS0) (h := ?_)
   rotate_left
   ·intro w' hSw
    obtain ⟨hs0, hs1, hs2⟩ := hSw
    simp only [xg0, xg1, xg2]
    go_simp
    try rw [if_neg (by omega)]
    all_goals with_reducible rfl
   simp only [xg0, xg1, xg2, Act.put, xs0, xs1, xs2]
   refine wpE_tk (v := ?_) 3 [16] (hy := ?_) (hS := hS0) (h := ?_)
   rotate_left
   ·intro w' hSw
    obtain ⟨hs0, hs1, hs2⟩ := hSw
    simp only [xg0, xg1, xg2]
    go_simp
    try rw [if_neg (by omega)]
    all_goals with_reducible rfl
   simp only [xg0, xg1, xg2, Act.put, xs0, xs1, xs2]
   refine wpE_tk (v := ?_) 7 [16] (hy := ?_) (hS := hS0) (h := ?_)
   rotate_left
   ·intro w' hSw
    obtain ⟨hs0, hs1, hs2⟩ := hSw
    simp only [xg0, xg1, xg2]
    go_simp
    try rw [if_neg (by omega)]
    all_goals with_reducible rfl
   simp only [xg0, xg1, xg2, Act.put, xs0, xs1, xs2]
   refine wpE_tk (v := ?_) 8 [16] (hy := ?_) (hS := hS0) (h := ?_)
   rotate_left
   ·intro w' hSw
    obtain ⟨hs0, hs1, hs2⟩ := hSw
    simp only [xg0, xg1, xg2]
    go_simp
    try rw [if_neg (by omega)]
    all_goals with_reducible rfl
   simp only [xg0, xg1, xg2, Act.put, xs0, xs1, xs2]
   refine wpE_tk (v := ?_) 12 [16] (hy := ?_) (hS := hS0) (h := ?_)
   rotate_left
   ·intro w' hSw
    obtain ⟨hs0, hs1, hs2⟩ := hSw
    simp only [xg0, xg1, xg2]
    go_simp
    try rw [if_neg (by omega)]
    all_goals with_reducible rfl
   simp only [xg0, xg1, xg2, Act.put, xs0, xs1, xs2]
   refine wpE_tk (v := ?_) 13 [16] (hy := ?_) (hS := hS0) (h := ?_)
   rotate_left
   ·intro w' hSw
    obtain ⟨hs0, hs1, hs2⟩ := hSw
    simp only [xg0, xg1, xg2]
    go_simp
    try rw [if_neg (by omega)]
    all_goals with_reducible rfl
   simp only [xg0, xg1, xg2, Act.put, xs0, xs1, xs2]
   refine wpE_step' 4 (of_decide_eq_true (by kernel_rfl)) (by kernel_rfl) (by kernel_rfl) (fun K hK => ?_)
   simp only [xg0, xg1, xg2]
   go_simp
   go_at_call 72
   refine (Hc1.out _).mono ?_
   rintro e w2 ⟨rfl, hb2⟩
   unfold txt
   replace hB3 := hB3.below hb2
   replace hdr := bthen hdr hb2
   refine hK.out _ _ (.inr ⟨hB3.c0, hB3.c1, hB3.c2⟩) ?_
   clear hK K hS0 hb2
   simp only [Act.put, xs0, xs1, xs2]
   have hS0 : w2.cell? ⟨V, 0, none⟩ = some (.int .i64 x.f) ∧ w2.cell? ⟨V, 1, none⟩ = some (.int .i64 x.t) ∧ w2.cell? ⟨V, 2, none⟩ = some (.int .i64 x.m) := ⟨hB3.c0, hB3.c1, hB3.c2⟩
   refine wpE_tk (v := ?_) 5 [16] (hy := ?_) (hS := hS0) (h := ?_)
   rotate_left
   ·intro w' hSw
    obtain ⟨hs0, hs1, hs2⟩ := hSw
    simp only [xg0, xg1, xg2]
    go_simp
    try rw [if_neg (by omega)]
    all_goals with_reducible rfl
   simp only [xg0, xg1, xg2, Act.put, xs0, xs1, xs2]
   refine wpE_tk (v := ?_) 6 [16] (hy := ?_) (hS := hS0) (h := ?_)
   rotate_left
   ·intro w' hSw
    obtain ⟨hs0, hs1, hs2⟩ := hSw
    simp only [xg0, xg1, xg2]
    go_simp
    try rw [if_neg (by omega)]
    all_goals with_reducible rfl
   simp only [xg0, xg1, xg2, Act.put, xs0, xs1, xs2]
   refine wpE_step' 9 (of_decide_eq_true (by kernel_rfl)) (by kernel_rfl) (by kernel_rfl) (fun K hK => ?_)
   simp only [xg0, xg1, xg2]
   go_simp
   go_at_call 72
   refine (Hc2.out _).mono ?_
   rintro e w2 ⟨rfl, hb2⟩
   unfold txt
   replace hB3 := hB3.below hb2
   replace hdr := bthen hdr hb2
   refine hK.out _ _ (.inr ⟨hB3.c0, hB3.c1, hB3.c2⟩) ?_
   clear hK K hS0 hb2
   simp only [Act.put, xs0, xs1, xs2]
   have hS0 : w2.cell? ⟨V, 0, none⟩ = some (.int .i64 x.f) ∧ w2.cell? ⟨V, 1, none⟩ = some (.int .i64 x.t) ∧ w2.cell? ⟨V, 2, none⟩ = some (.int .i64 x.m) := ⟨hB3.c0, hB3.c1, hB3.c2⟩
   refine wpE_tk (v := ?_) 10 [16] (hy := ?_) (hS := hS0) (h := ?_)
   rotate_left
   ·intro w' hSw
    obtain ⟨hs0, hs1, hs2⟩ := hSw
    simp only [xg0, xg1, xg2]
    go_simp
    try rw [if_neg (by omega)]
    all_goals with_reducible rfl
   simp only [xg0, xg1, xg2, Act.put, xs0, xs1, xs2]
   refine wpE_tk (v := ?_) 11 [16] (hy := ?_) (hS := hS0) (h := ?_)
   rotate_left
   ·intro w' hSw
    obtain ⟨hs0, hs1, hs2⟩ := hSw
    simp only [xg0, xg1, xg2]
    go_simp
    try rw [if_neg (by omega)]
    all_goals with_reducible rfl
   simp only [xg0, xg1, xg2, Act.put, xs0, xs1, xs2]
   refine wpE_step' 14 (of_decide_eq_true (by kernel_rfl)) (by kernel_rfl) (by kernel_rfl) (fun K hK => ?_)
   simp only [xg0, xg1, xg2]
   go_simp
   go_at_call 72
   refine (Hc3.out _).mono ?_
   rintro e w2 ⟨rfl, hb2⟩
   unfold txt
   replace hB3 := hB3.below hb2
   replace hdr := bthen hdr hb2
   refine hK.out _ _ (.inr ⟨hB3.c0, hB3.c1, hB3.c2⟩) ?_
   clear hK K hS0 hb2
   simp only [Act.put, xs0, xs1, xs2]
   have hS0 : w2.cell? ⟨V, 0, none⟩ = some (.int .i64 x.f) ∧ w2.cell? ⟨V, 1, none⟩ = some (.int .i64 x.t) ∧ w2.cell? ⟨V, 2, none⟩ = some (.int .i64 x.m) := ⟨hB3.c0, hB3.c1, hB3.c2⟩
   refine wpE_tk (v := ?_) 15 [16] (hy := ?_) (hS := hS0) (h := ?_)
   rotate_left
   ·intro w' hSw
    obtain ⟨hs0, hs1, hs2⟩ := hSw
    simp only [xg0, xg1, xg2]
    go_simp
    try rw [if_neg (by omega)]
    all_goals with_reducible rfl
   simp only [xg0, xg1, xg2, Act.put, xs0, xs1, xs2]
   refine wpE_step' 16 (of_decide_eq_true (by kernel_rfl)) (by kernel_rfl) (by kernel_rfl) (fun K hK => ?_)
   simp only [xg0, xg1, xg2]
   go_simp
   refine hK.out _ _ (.inl rfl) ?_
   clear hK K
   simp only [Act.put, xs0, xs1, xs2]
   refine wpE_done (by kernel_rfl) ?_ _
   rw [show (⟨#[32]⟩ : ByteArray) = ⟨[(32 : UInt8)].toArray⟩ from rfl, show (⟨#[58]⟩ : ByteArray) = ⟨[(58 : UInt8)].toArray⟩ from rfl]
   simp only [bytes_app]
   have hP3 := hP2.below hdr
   clear hS0 hB3 hdr hP2
   obtain ⟨ys, hys⟩ : ∃ ys, xs ++ [(32 : UInt8)] ++ nf ++ [(58 : UInt8)] ++ nt' ++ [(58 : UInt8)] ++ nm = ys := ⟨_, rfl⟩
   rw [hys]
   have Hys : Hid (ys = nt ++ bsTxt (bs.take (k + 1))) := by unfold Hid; rw [← Hxs2.out, ← hys]; simp
   clear hys
   go_wp2_with fail
   go_roundg (bs.length - (k + 1))
   case measure => go_light; omega
   case rel => go_light; exact ⟨k + 1, ys, by omega, rfl, by go_num, rfl, Hys, hP3⟩
  ·obtain rfl : k = bs.length := by omega
   have Hxs2 : Hid (xs = nt ++ bsTxt bs) := by unfold Hid; rw [Hxs.out, List.take_length]
   go_wp2_with fail
   go_ret
   exact ⟨by rw [← Hxs2.out]; rfl, hP.bel⟩
end Go.Proofs.YtmnajkhoacogjaaGreatDoor
