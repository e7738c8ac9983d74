/-
  spec: l1Number.
-/
import Derived.Test.YtmnajkhoacogjaaP57
import Derived.Test.YtmnajkhoacogjaaI3
import Derived.Test.YtmnajkhoacogjaaZ1
import Derived.Test.YtmnajkhoacogjaaS1
namespace Go.Proofs.Ytmnajkhoacogjaa
set_option linter.unusedVariables false
set_option linter.unusedSimpArgs false
open Go Go.RowKit Pp

/-- Bytes as a string's. -/
def txt (l : List UInt8) : Value := .string ⟨l.toArray⟩
theorem conv1 (w : World) (g k : Nat) (hk : k < 10) (h : w.cell? ⟨g, 0, none⟩ = some (.int .u8 (48 + (k : Int)))) :
    Sem.run Try.prog (convert 22 9 (Value.slice (some { block := g, off := 0 }) 1 1)) w = .ok (.string ⟨#[dg k]⟩) w := by
  have hd : (dg k).toNat = 48 + k := by
    unfold dg
    rw [UInt8.toNat_ofNat']
    omega
  exact run_convert_bytes_back w 22 9 5 ⟨g, 0, none⟩ 1 [dg k] Try.underlying22 Try.underlying5 Try.underlying9 (fun j hj => by
    have e : j = 0 := by simpa using hj
    subst e
    rw [add_zero_off]
    simp only [Nat.add_zero, List.getElem_cons_zero, hd]
    rw [h]
    congr 2)
set_option maxHeartbeats 1000000 in
theorem num1_c (k : Nat) (hk : k < 10) (w : World) : Calls Try.prog 38 #[.int .i64 (k : Int)] w fun e w' => e = .returned (txt (num k)) ∧ Below w.heap.size w w' := by
  have h0 : ¬ ((k : Int) < 0) := by omega
  have h1 : (k : Int) < 10 := by omega
  have hn : num k = [dg k] := by unfold num num2; rw [if_neg h0, Int.toNat_natCast, if_pos hk]
  rw [hn]
  have hb : Below w.heap.size w (w.alloc (.cells #[.int .u8 (48 + (k : Int))] 5)) := by go_grown
  have hcv := conv1 (w.alloc (.cells #[.int .u8 (48 + (k : Int))] 5)) w.heap.size k hk (by simp [go_sem])
  clear hn
  go_enter Try.func38, Try.ntmps38
  go_wp2_with fail
  go_ret
  exact ⟨rfl, hb⟩
theorem bytes_app (a b : List UInt8) : (⟨a.toArray⟩ : ByteArray) ++ (⟨b.toArray⟩ : ByteArray) = ⟨(a ++ b).toArray⟩ := by
  apply ByteArray.ext
  simp
set_option maxHeartbeats 1000000 in
set_option maxRecDepth 100000 in
theorem num2_c (k a b : Nat) (ha : a < 10) (ha1 : 1 ≤ a) (hb : b < 10) (hk : k = 10 * a + b) (w : World) : Calls Try.prog 38 #[.int .i64 (k : Int)] w fun e w' => e = .returned (txt (num k)) ∧ Below w.heap.size w w' := by
  have h0 : ¬ ((k : Int) < 0) := by omega
  have h1 : ¬ (k : Int) < 10 := by omega
  have hn : num k = [dg a, dg b] := by
    unfold num num2
    rw [if_neg h0, Int.toNat_natCast, if_neg (by omega)]
    rw [show k / 10 = a by omega, show k % 10 = b by omega]
  have hna : num a = [dg a] := by unfold num num2; rw [if_neg (by omega), Int.toNat_natCast, if_pos ha]
  have hq : IntKind.i64.wrap ((k : Int) / 10) = (a : Int) := by rw [show (k : Int) / 10 = a by omega]; exact IntWalk.i64_in _ (by omega)
  have hr : Int.tmod (k : Int) 10 = (b : Int) := by rw [Int.tmod_eq_emod_of_nonneg (by omega), show (k : Int) % 10 = b by omega]
  have hr1 : IntKind.i64.wrap (48 + (b : Int)) = 48 + (b : Int) := IntWalk.i64_in _ (by omega)
  have hr2 : IntKind.u8.wrap (48 + (b : Int)) = 48 + (b : Int) := by unfold IntKind.wrap; simp [IntKind.bits, IntKind.signed]; omega
  rw [hn]
  have hc := fun wq => num1_c a ha wq
  rw [hna] at hc
  have Hc := hide hc
  have Hk : k ≤ 99 := by omega
  clear hn hna hk hc
  go_enter Try.func38, Try.ntmps38
  go_upto_region 7 with fail
  refine wp_regionE (fun w' => True) 10 (by kernel_rfl) ?_
  change wpE _ _ _ _ _ _ 11 #[false, false, false, false, false, false, false, false, false, false, false] _ _
  have hdr : Below w.heap.size w w.drew := by go_grown
  generalize w.drew = wd at hdr ⊢
  have hS0 := trivial
  refine wpE_take' (v := ?_) 0 [10] (of_decide_eq_true (by kernel_rfl)) (by kernel_rfl) (by kernel_rfl) (by kernel_rfl) (by kernel_rfl) (fun _ _ _ h => h) (by kernel_rfl) ?_ hS0 ?_
  rotate_left
  · intro w' hSw
    simp only [List.getElem_toArray, List.getElem_cons_succ, List.getElem_cons_zero]
    go_simp
    all_goals with_reducible rfl
  simp only [List.getElem_toArray, List.getElem_cons_succ, List.getElem_cons_zero, Act.put, List.setIfInBounds_toArray, List.set_cons_zero, List.set_cons_succ]
  refine wpE_take' (v := ?_) 1 [10] (of_decide_eq_true (by kernel_rfl)) (by kernel_rfl) (by kernel_rfl) (by kernel_rfl) (by kernel_rfl) (fun _ _ _ h => h) (by kernel_rfl) ?_ hS0 ?_
  rotate_left
  · intro w' hSw
    simp only [List.getElem_toArray, List.getElem_cons_succ, List.getElem_cons_zero]
    go_simp
    all_goals with_reducible rfl
  simp only [List.getElem_toArray, List.getElem_cons_succ, List.getElem_cons_zero, Act.put, List.setIfInBounds_toArray, List.set_cons_zero, List.set_cons_succ]
  refine wpE_take' (v := ?_) 3 [10] (of_decide_eq_true (by kernel_rfl)) (by kernel_rfl) (by kernel_rfl) (by kernel_rfl) (by kernel_rfl) (fun _ _ _ h => h) (by kernel_rfl) ?_ hS0 ?_
  rotate_left
  · intro w' hSw
    simp only [List.getElem_toArray, List.getElem_cons_succ, List.getElem_cons_zero]
    go_simp
    all_goals with_reducible rfl
  simp only [List.getElem_toArray, List.getElem_cons_succ, List.getElem_cons_zero, Act.put, List.setIfInBounds_toArray, List.set_cons_zero, List.set_cons_succ]
  refine wpE_take' (v := ?_) 4 [10] (of_decide_eq_true (by kernel_rfl)) (by kernel_rfl) (by kernel_rfl) (by kernel_rfl) (by kernel_rfl) (fun _ _ _ h => h) (by kernel_rfl) ?_ hS0 ?_
  rotate_left
  · intro w' hSw
    simp only [List.getElem_toArray, List.getElem_cons_succ, List.getElem_cons_zero]
    go_simp
    all_goals with_reducible rfl
  simp only [List.getElem_toArray, List.getElem_cons_succ, List.getElem_cons_zero, Act.put, List.setIfInBounds_toArray, List.set_cons_zero, List.set_cons_succ]
  refine wpE_take' (v := ?_) 5 [10] (of_decide_eq_true (by kernel_rfl)) (by kernel_rfl) (by kernel_rfl) (by kernel_rfl) (by kernel_rfl) (fun _ _ _ h => h) (by kernel_rfl) ?_ hS0 ?_
  rotate_left
  · intro w' hSw
    simp only [List.getElem_toArray, List.getElem_cons_succ, List.getElem_cons_zero]
    go_simp
    all_goals with_reducible rfl
  simp only [List.getElem_toArray, List.getElem_cons_succ, List.getElem_cons_zero, Act.put, List.setIfInBounds_toArray, List.set_cons_zero, List.set_cons_succ]
  refine wpE_take' (v := ?_) 6 [10] (of_decide_eq_true (by kernel_rfl)) (by kernel_rfl) (by kernel_rfl) (by kernel_rfl) (by kernel_rfl) (fun _ _ _ h => h) (by kernel_rfl) ?_ hS0 ?_
  rotate_left
  · intro w' hSw
    simp only [List.getElem_toArray, List.getElem_cons_succ, List.getElem_cons_zero]
    go_simp
    all_goals with_reducible rfl
  simp only [List.getElem_toArray, List.getElem_cons_succ, List.getElem_cons_zero, Act.put, List.setIfInBounds_toArray, List.set_cons_zero, List.set_cons_succ]
  refine wpE_two 2 7 (of_decide_eq_true (by kernel_rfl)) (of_decide_eq_true (by kernel_rfl)) (by kernel_rfl) (by kernel_rfl) (by kernel_rfl) (fun K hK => ?_) (fun K hK => ?_)
  · simp only [List.getElem_toArray, List.getElem_cons_succ, List.getElem_cons_zero]
    go_simp
    go_at_call 38
    refine (Hc.out _).mono ?_
    rintro e w2 ⟨rfl, hb2⟩
    unfold txt
    refine hK.out _ _ (.inr trivial) ?_
    clear hK K
    simp only [Act.put, List.setIfInBounds_toArray, List.set_cons_zero, List.set_cons_succ]
    refine wpE_step' 7 (of_decide_eq_true (by kernel_rfl)) (by kernel_rfl) (by kernel_rfl) (fun K hK => ?_)
    simp only [List.getElem_toArray, List.getElem_cons_succ, List.getElem_cons_zero]
    go_simp
    refine hK.out _ _ (.inr trivial) ?_
    clear hK K
    simp only [Act.put, List.setIfInBounds_toArray, List.set_cons_zero, List.set_cons_succ]
    have hcv := conv1 (w2.alloc (.cells #[.int .u8 (48 + (b : Int))] 5)) w2.heap.size b hb (by simp [go_sem])
    refine wpE_step' 8 (of_decide_eq_true (by kernel_rfl)) (by kernel_rfl) (by kernel_rfl) (fun K hK => ?_)
    simp only [List.getElem_toArray, List.getElem_cons_succ, List.getElem_cons_zero]
    go_simp
    refine hK.out _ _ (.inr trivial) ?_
    clear hK K
    simp only [Act.put, List.setIfInBounds_toArray, List.set_cons_zero, List.set_cons_succ]
    refine wpE_step' 9 (of_decide_eq_true (by kernel_rfl)) (by kernel_rfl) (by kernel_rfl) (fun K hK => ?_)
    simp only [List.getElem_toArray, List.getElem_cons_succ, List.getElem_cons_zero]
    go_simp
    refine hK.out _ _ (.inr trivial) ?_
    clear hK K
    simp only [Act.put, List.setIfInBounds_toArray, List.set_cons_zero, List.set_cons_succ]
    refine wpE_step' 10 (of_decide_eq_true (by kernel_rfl)) (by kernel_rfl) (by kernel_rfl) (fun K hK => ?_)
    simp only [List.getElem_toArray, List.getElem_cons_succ, List.getElem_cons_zero]
    go_simp
    refine hK.out _ _ (.inl rfl) ?_
    clear hK K
    simp only [Act.put, List.setIfInBounds_toArray, List.set_cons_zero, List.set_cons_succ]
    refine wpE_done (by kernel_rfl) ?_ _
    have HB := hide (bthen hdr (bthen hb2 (show Below w2.heap.size w2 (w2.alloc (.cells #[.int .u8 (48 + (b : Int))] 5)) by go_grown)))
    go_wp2_with fail
    go_ret
    exact ⟨by unfold txt; rw [bytes_app [dg a] [dg b]]; rfl, HB.out⟩
  · simp only [List.getElem_toArray, List.getElem_cons_succ, List.getElem_cons_zero]
    go_simp
    refine hK.out _ _ (.inr trivial) ?_
    clear hK K
    simp only [Act.put, List.setIfInBounds_toArray, List.set_cons_zero, List.set_cons_succ]
    have hcv := conv1 (wd.alloc (.cells #[.int .u8 (48 + (b : Int))] 5)) wd.heap.size b hb (by simp [go_sem])
    have hal : Below wd.heap.size wd (wd.alloc (.cells #[.int .u8 (48 + (b : Int))] 5)) := by go_grown
    refine wpE_two 2 8 (of_decide_eq_true (by kernel_rfl)) (of_decide_eq_true (by kernel_rfl)) (by kernel_rfl) (by kernel_rfl) (by kernel_rfl) (fun K hK => ?_) (fun K hK => ?_)
    · simp only [List.getElem_toArray, List.getElem_cons_succ, List.getElem_cons_zero]
      go_simp
      go_at_call 38
      refine (Hc.out _).mono ?_
      rintro e w2 ⟨rfl, hb2⟩
      unfold txt
      refine hK.out _ _ (.inr trivial) ?_
      clear hK K
      simp only [Act.put, List.setIfInBounds_toArray, List.set_cons_zero, List.set_cons_succ]
      clear hcv
      have hcv := conv1 w2 wd.heap.size b hb (((bcell hb2).1 _ _ (by simp)).trans (by simp [go_sem]))
      refine wpE_step' 8 (of_decide_eq_true (by kernel_rfl)) (by kernel_rfl) (by kernel_rfl) (fun K hK => ?_)
      simp only [List.getElem_toArray, List.getElem_cons_succ, List.getElem_cons_zero]
      go_simp
      refine hK.out _ _ (.inr trivial) ?_
      clear hK K
      simp only [Act.put, List.setIfInBounds_toArray, List.set_cons_zero, List.set_cons_succ]
      refine wpE_step' 9 (of_decide_eq_true (by kernel_rfl)) (by kernel_rfl) (by kernel_rfl) (fun K hK => ?_)
      simp only [List.getElem_toArray, List.getElem_cons_succ, List.getElem_cons_zero]
      go_simp
      refine hK.out _ _ (.inr trivial) ?_
      clear hK K
      simp only [Act.put, List.setIfInBounds_toArray, List.set_cons_zero, List.set_cons_succ]
      refine wpE_step' 10 (of_decide_eq_true (by kernel_rfl)) (by kernel_rfl) (by kernel_rfl) (fun K hK => ?_)
      simp only [List.getElem_toArray, List.getElem_cons_succ, List.getElem_cons_zero]
      go_simp
      refine hK.out _ _ (.inl rfl) ?_
      clear hK K
      simp only [Act.put, List.setIfInBounds_toArray, List.set_cons_zero, List.set_cons_succ]
      refine wpE_done (by kernel_rfl) ?_ _
      have HB := hide (bthen hdr (bthen hal hb2))
      go_wp2_with fail
      go_ret
      exact ⟨by unfold txt; rw [bytes_app [dg a] [dg b]]; rfl, HB.out⟩
    · simp only [List.getElem_toArray, List.getElem_cons_succ, List.getElem_cons_zero]
      go_simp
      refine hK.out _ _ (.inr trivial) ?_
      clear hK K
      simp only [Act.put, List.setIfInBounds_toArray, List.set_cons_zero, List.set_cons_succ]
      refine wpE_step' 2 (of_decide_eq_true (by kernel_rfl)) (by kernel_rfl) (by kernel_rfl) (fun K hK => ?_)
      simp only [List.getElem_toArray, List.getElem_cons_succ, List.getElem_cons_zero]
      go_simp
      go_at_call 38
      refine (Hc.out _).mono ?_
      rintro e w2 ⟨rfl, hb2⟩
      unfold txt
      refine hK.out _ _ (.inr trivial) ?_
      clear hK K
      simp only [Act.put, List.setIfInBounds_toArray, List.set_cons_zero, List.set_cons_succ]
      refine wpE_step' 9 (of_decide_eq_true (by kernel_rfl)) (by kernel_rfl) (by kernel_rfl) (fun K hK => ?_)
      simp only [List.getElem_toArray, List.getElem_cons_succ, List.getElem_cons_zero]
      go_simp
      refine hK.out _ _ (.inr trivial) ?_
      clear hK K
      simp only [Act.put, List.setIfInBounds_toArray, List.set_cons_zero, List.set_cons_succ]
      refine wpE_step' 10 (of_decide_eq_true (by kernel_rfl)) (by kernel_rfl) (by kernel_rfl) (fun K hK => ?_)
      simp only [List.getElem_toArray, List.getElem_cons_succ, List.getElem_cons_zero]
      go_simp
      refine hK.out _ _ (.inl rfl) ?_
      clear hK K
      simp only [Act.put, List.setIfInBounds_toArray, List.set_cons_zero, List.set_cons_succ]
      refine wpE_done (by kernel_rfl) ?_ _
      have HB := hide (bthen hdr (bthen hal hb2))
      go_wp2_with fail
      go_ret
      exact ⟨by unfold txt; rw [bytes_app [dg a] [dg b]]; rfl, HB.out⟩
theorem num_len (n : Int) (hn : -99 ≤ n ∧ n ≤ 99) : (num n).length ≤ 3 := by
  have h2 : ∀ k, (num2 k).length ≤ 2 := fun k => by unfold num2; split <;> simp
  unfold num
  split
  · have := h2 (-n).toNat; simp; omega
  · have := h2 n.toNat; omega
theorem num12_c (k : Nat) (hk : k ≤ 99) (w : World) : Calls Try.prog 38 #[.int .i64 (k : Int)] w fun e w' => e = .returned (txt (num k)) ∧ Below w.heap.size w w' := by
  by_cases h : k < 10
  · exact num1_c k h w
  · exact num2_c k (k / 10) (k % 10) (by omega) (by omega) (by omega) (by omega) w
set_option maxHeartbeats 1000000 in
theorem num_c (n : Int) (hn : -99 ≤ n ∧ n ≤ 99) (w : World) : Calls Try.prog 38 #[.int .i64 n] w fun e w' => e = .returned (txt (num n)) ∧ Below w.heap.size w w' := by
  by_cases h0 : n < 0
  · have hk : -n = (((-n).toNat : Nat) : Int) := by omega
    have hm : num n = 45 :: num ((-n).toNat : Nat) := by
      unfold num
      rw [if_pos h0, if_neg (by omega), Int.toNat_natCast]
    obtain ⟨k, hkk⟩ : ∃ k, (-n).toNat = k := ⟨_, rfl⟩
    rw [hkk] at hk hm
    have hw : IntKind.i64.wrap (-n) = (k : Int) := by rw [hk]; exact IntWalk.i64_in _ (by omega)
    have hne : (n == (k : Int)) = false := by simp; omega
    rw [hm]
    obtain ⟨ds, hds⟩ : ∃ ds, num (k : Int) = ds := ⟨_, rfl⟩
    rw [hds]
    have hc := fun wq => num12_c k (by omega) wq
    rw [hds] at hc
    have Hc := hide hc
    have hdl : ds.length ≤ 3 := by rw [← hds]; exact num_len _ (by omega)
    clear hm hds hk hkk hc
    go_enter Try.func38, Try.ntmps38
    go_wp2_with (go_at_call 38; refine (Hc.out _).mono ?_; rintro e w2 ⟨rfl, hb2⟩; unfold txt)
    go_ret
    exact ⟨by unfold txt; rw [show (⟨#[45]⟩ : ByteArray) = ⟨[(45 : UInt8)].toArray⟩ from rfl, bytes_app [45] ds]; rfl, hb2⟩
  · have := num12_c n.toNat (by omega) w
    rw [show ((n.toNat : Nat) : Int) = n by omega] at this
    exact this
end Go.Proofs.Ytmnajkhoacogjaa
