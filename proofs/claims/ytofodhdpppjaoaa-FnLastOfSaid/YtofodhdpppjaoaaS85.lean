/-
  spec: l12For, LastsFor.
-/
import Derived.Test.YtofodhdpppjaoaaS83
import Derived.Test.YtofodhdpppjaoaaZ1
import Derived.Test.YtofodhdpppjaoaaL87
namespace Go.Proofs.Ytofodhdpppjaoaa
set_option linter.unusedVariables false
set_option linter.unusedSimpArgs false
open Go Go.RowKit Pp

/-- Numbers of the steps. -/
def ForR (w0 w : World) (a : Tm) (v : Value) : Prop := ∃ A1 c1, ∃ ys : List Int, v = .slice A1 ys.length c1 ∧ OwnI w0.heap.size w (.slice A1 ys.length c1) ys ∧ ys.length = a.steps ∧ ∀ y ∈ ys, -100000 ≤ y ∧ y ≤ 100000
set_option maxHeartbeats 4000000 in
set_option maxRecDepth 100000 in
theorem l12For_q : ∀ (a : Tm) (A : Option Addr) (b o c : Nat) (total : Int) (w : World), a.fine → a.size ≤ 20 → (∃ u, a.lens = some u) → (-100000 + 500 * (a.size : Int) ≤ total ∧ total ≤ 100000 - 500 * (a.size : Int)) → a.marks.length ≤ c → MkR w w.heap.size b o A a.marks →
    Calls Try.prog 80 #[.slice A a.marks.length c, .int .i64 total] w fun e w' => ∃ v, e = .returned v ∧ ForR w w' a v ∧ Below w.heap.size w w' := by
  intro a
  induction a with
  | step l h =>
    intro A b o c total w hf hs hl htot hc hR
    have hR' : MkR w w.heap.size b o A ([] ++ [⟨0, l, h⟩]) := hR
    obtain ⟨rfl, hbl, d0, d1, d2⟩ := mk_end hR'
    simp only [List.length_nil, Nat.zero_mul, Nat.add_zero] at d0 d1 d2
    rw [show (Tm.step l h).marks.length = 0 + 1 from rfl]
    simp only [Tm.size] at htot
    clear hR hR' hc hl
    have hal : Below w.heap.size w (w.alloc (.cells #[.int .i64 0, .int .i64 l, .int .i64 h] 43)) := by go_grown
    have hM := mb_new w ⟨0, l, h⟩ 43
    have hRa2 : (0 : Nat) = 0 := rfl
    go_enter Try.func80, Try.ntmps80
    go_upto_region 3 with fail
    generalize w.alloc (.cells #[.int .i64 0, .int .i64 l, .int .i64 h] 43) = W at hal hM hRa2 ⊢
    generalize w.heap.size = V at hM ⊢
    have v0 := hM.c0
    have v1 := hM.c1
    have v2 := hM.c2
    dsimp only at v0 v1 v2
    have hnew : (W.alloc (.cells #[.int .i64 total] 3)).heap[W.heap.size]? = some (.cells #[.int .i64 total] 3 (0, 0)) := at_new rfl
    have Hf : Hid (ForR w (W.alloc (.cells #[.int .i64 total] 3)) (.step l h) (.slice (some ⟨W.heap.size, 0, none⟩) 1 1)) := ⟨_, _, [total], rfl, ⟨rfl, .inr ⟨W.heap.size, 1, _, rfl, hal.size, hnew, Nat.le_refl _, by unfold maxLen; omega, rfl, rfl⟩⟩, rfl, fun y hy => by rw [List.mem_singleton.1 hy]; omega⟩
    clear hnew
    go_wp2_with fail
    go_ret
    exact ⟨_, rfl, Hf.out, bthen hal (by go_grown)⟩
  | wth a h ih0 =>
    intro A b o c total w hf hs hl htot hc hR
    have hl0 : ∃ u, a.lens = some u := by obtain ⟨u, hu⟩ := hl; exact kid_lens (j := 0) hu rfl
    obtain ⟨hf0, hh1, hh2⟩ := hf
    have hR' : MkR w w.heap.size b o A (a.marks ++ [⟨3, 0, h⟩]) := hR
    obtain ⟨rfl, hbl, d0, d1, d2⟩ := mk_end hR'
    have hRa := (mk_app hR').1
    have hml := a.marks_len
    obtain ⟨n, hn⟩ : ∃ n, a.marks.length = n := ⟨_, rfl⟩
    have hn20 : n ≤ 20 := by rw [← hn, hml]; simp only [Tm.size] at hs; omega
    have hlen : (Tm.wth a h).marks.length = n + 1 := by simp [Tm.marks, hn]
    rw [hlen] at hc ⊢
    rw [hn] at d0 d1 d2
    simp only [Tm.size] at hs htot
    have hcall := fun wq hq => ih0 (some ⟨b, o, none⟩) b o c total wq hf0 (by omega) hl0 (by omega) (by omega) hq
    rw [hn] at hcall
    have Hc := hide hcall
    clear hR hR' hml hn hlen hcall ih0 hl hl0
    have hal : Below w.heap.size w (w.alloc (.cells #[.int .i64 3, .int .i64 0, .int .i64 h] 43)) := by go_grown
    have hM := mb_new w ⟨3, 0, h⟩ 43
    have hRa2 := (hRa.below hal).more hal.size
    clear hRa
    go_enter Try.func80, Try.ntmps80
    go_upto_region 3 with fail
    generalize w.alloc (.cells #[.int .i64 3, .int .i64 0, .int .i64 h] 43) = W at hal hM hRa2 ⊢
    generalize w.heap.size = V at hM ⊢
    have v0 := hM.c0
    have v1 := hM.c1
    have v2 := hM.c2
    dsimp only at v0 v1 v2
    go_wp2_with (go_at_call 80; refine (Hc.out _ hRa2).mono ?_; rintro e w2 ⟨v, rfl, ⟨A2, c2, ys, rfl, own2, hyl, hyb⟩, hb2⟩; have Hyl := hide hyl; clear hyl)
    go_ret
    exact ⟨_, rfl, ⟨A2, c2, ys, rfl, own_less own2 hal.size, Hyl.out, hyb⟩, bthen hal hb2⟩
  | thn a a' ih0 ih1 =>
    intro A b o c total w hf hs hl htot hc hR
    obtain ⟨lu, hlu⟩ := hl
    obtain ⟨⟨⟨u1, v1'⟩, hl0⟩, ⟨u2, v2'⟩, hl1⟩ := lens_kids.1 hlu
    obtain ⟨i0, hi0, hz0, hz1, hz2⟩ := info_parts infoI
    obtain ⟨hf0, hf1⟩ := hf
    have hR' : MkR w w.heap.size b o A ((a.marks ++ a'.marks) ++ [⟨1, 0, 0⟩]) := hR
    obtain ⟨rfl, hbl, d0, d1, d2⟩ := mk_end hR'
    obtain ⟨hRa, hRb⟩ := mk_app (mk_app hR').1
    have hml := a.marks_len
    have hml' := a'.marks_len
    obtain ⟨n, hn⟩ : ∃ n, a.marks.length = n := ⟨_, rfl⟩
    obtain ⟨n', hn'⟩ : ∃ n, a'.marks.length = n := ⟨_, rfl⟩
    simp only [Tm.size] at hs htot
    have hn20 : n + n' ≤ 20 := by rw [← hn, hml, ← hn', hml']; omega
    have hn1 : 1 ≤ n ∧ 1 ≤ n' := by rw [← hn, hml, ← hn', hml']; cases a <;> cases a' <;> simp [Tm.size]
    have hlen : (Tm.thn a a').marks.length = n + n' + 1 := by simp [Tm.marks, hn, hn']; omega
    rw [hlen] at hc ⊢
    rw [List.length_append, hn, hn'] at d0 d1 d2
    rw [hn] at hRb
    have hcall := fun wq tt ht hq => ih0 (some ⟨b, o, none⟩) b o c tt wq hf0 (by omega) ⟨_, hl0⟩ ht (by omega) hq
    rw [hn] at hcall
    have hcall1 := fun wq tt ht hq => ih1 (some ⟨b, o + n * 3, none⟩) b (o + n * 3) (c - n) tt wq hf1 (by omega) ⟨_, hl1⟩ ht (by omega) hq
    rw [hn'] at hcall1
    have hst := fun wq hq => l11Starts_c a' (Tm.thn a a').marks n (fun j x hx => by
      show ((a.marks ++ a'.marks) ++ [_])[n + j]? = some x
      rw [List.append_assoc, List.getElem?_append_right (by omega), hn, Nat.add_sub_cancel_left, List.getElem?_append_left (List.getElem?_eq_some_iff.1 hx).1]; exact hx) (by omega) (((n + n' : Nat) : Int) - 1) (by rw [← hml', hn']; omega) (some ⟨b, o, none⟩) b o c _ wq (Nat.le_refl _) hq (by rw [hlen]; omega)
    rw [hlen] at hst
    obtain ⟨hn1a, hn1b⟩ := hn1
    have hst20 : a.steps ≤ 20 ∧ a'.steps ≤ 20 := by
      have h2 : ∀ a : Tm, a.steps ≤ a.size := fun a => by
        induction a with
        | step l h => simp [Tm.steps, Tm.size]
        | wth a h ih => simp only [Tm.steps, Tm.size]; omega
        | thn a b iha ihb => simp only [Tm.steps, Tm.size]; omega
        | bth a b iha ihb => simp only [Tm.steps, Tm.size]; omega
      have := h2 a
      have := h2 a'
      omega
    have kk1 : n ≤ c := by omega
    have kk2 : 0 ≤ (n : Int) + (n' : Int) ∧ (n : Int) + (n' : Int) ≤ (c : Int) := by omega
    have kk3 : n ≤ ((n : Int) + (n' : Int)).toNat := by omega
    have kk4 : ¬ c = n := by omega
    have kk5 : ((n : Int) + (n' : Int)).toNat - n = n' := by omega
    have Hst := hide hst
    have Hc := hide hcall
    have Hc1 := hide hcall1
    have hal : Below w.heap.size w (w.alloc (.cells #[.int .i64 1, .int .i64 0, .int .i64 0] 43)) := by go_grown
    have hM := mb_new w ⟨1, 0, 0⟩ 43
    have hRa2 := (hRa.below hal).more hal.size
    have hRb2 := (hRb.below hal).more hal.size
    have hRt2 := (hR.below hal).more hal.size
    have hsm0 := lens_small hf0 (by omega) hl0
    have hsm1 := lens_small hf1 (by omega) hl1
    have hk0 := fun wq hq => l12Lengths_q a (some ⟨b, o, none⟩) b o c wq hf0 (by omega) (by rw [hn]; omega) hq
    have hk1 := fun wq hq => l12Lengths_q a' (some ⟨b, o + n * 3, none⟩) b (o + n * 3) (c - n) wq hf1 (by omega) (by rw [hn']; omega) hq
    rw [hn] at hk0
    rw [hn'] at hk1
    have Hk0 := hide hk0
    have Hk1 := hide hk1
    have Hl0 := hide hl0
    have Hl1 := hide hl1
    clear hk0 hk1 hl0 hl1 hlu
    clear hR hR' hml hml' hn hn' hlen hcall hcall1 hst ih0 ih1 hRa hRb
    go_enter Try.func80, Try.ntmps80
    go_upto_region 3 with fail
    generalize w.alloc (.cells #[.int .i64 1, .int .i64 0, .int .i64 0] 43) = W at hal hM hRa2 hRb2 hRt2 ⊢
    generalize w.heap.size = V at hM ⊢
    have v0 := hM.c0
    have v1 := hM.c1
    have v2 := hM.c2
    dsimp only at v0 v1 v2
    go_upto_region 10 with (go_at_call 74; refine (Hst.out _ hRt2).mono ?_; rintro e w9 ⟨rfl, rfl⟩)
    go_upto_region 11 with (go_at_call 61; refine (Hk0.out _ hRa2).mono ?_; rintro e w7 ⟨v, rfl, ⟨x0, y0, rfl, hxy⟩, hb7⟩; rw [Hl0.out]; obtain ⟨rfl, rfl⟩ := hxy _ _ Hl0.out; clear hxy)
    have hRb3 := (CsR.below hRb2 hb7).more hb7.size
    go_upto_region 13 with (go_at_call 61; refine (Hk1.out _ hRb3).mono ?_; rintro e w8 ⟨v, rfl, ⟨x1, y1, rfl, hxy⟩, hb8⟩; rw [Hl1.out]; obtain ⟨rfl, rfl⟩ := hxy _ _ Hl1.out; clear hxy; have hwt : IntKind.i64.wrap (total - y1) = total - y1 := IntWalk.i64_in _ (by omega); obtain ⟨fi, hfi⟩ : ∃ fi, (if x0 < total - y1 then total - y1 else x0) = fi := ⟨_, rfl⟩)
    have hfib : (fi = total - y1 ∨ fi = x0) := by
      rw [← hfi]; split
      · exact .inl rfl
      · exact .inr rfl
    clear hfi hwt
    have hwf : IntKind.i64.wrap (total - fi) = total - fi := IntWalk.i64_in _ (by omega)
    refine wp_regionE (fun w' => True) 14 (by kernel_rfl) ?_
    change wpE _ _ _ _ _ _ 15 #[false, false, false, false, false, false, false, false, false, false, false, false, false, false, false] _ _
    have hdr : Below w8.heap.size w8 w8.drew := by go_grown
    have hB0 := bthen hal (bthen (bthen hb7 hb8) hdr)
    have hRa3 := ((CsR.below hRa2 (bthen (bthen hb7 hb8) hdr)).more (bthen (bthen hb7 hb8) hdr).size)
    replace hRb3 := (CsR.below hRb3 (bthen hb8 hdr)).more (bthen hb8 hdr).size
    clear hdr
    generalize w8.drew = wd at hB0 hRa3 hRb3 ⊢
    have hS0 := trivial
    refine wpE_take' (v := ?_) 0 [14] (of_decide_eq_true (by kernel_rfl)) (by kernel_rfl) (by kernel_rfl) (by kernel_rfl) (by kernel_rfl) (fun _ _ _ h => h) (by kernel_rfl) ?_ hS0 ?_
    rotate_left
    · intro w' hSw
      simp only [List.getElem_toArray, List.getElem_cons_succ, List.getElem_cons_zero]
      go_simp
      all_goals with_reducible rfl
    simp only [List.getElem_toArray, List.getElem_cons_succ, List.getElem_cons_zero, Act.put, List.setIfInBounds_toArray, List.set_cons_zero, List.set_cons_succ]
    refine wpE_take' (v := ?_) 1 [14] (of_decide_eq_true (by kernel_rfl)) (by kernel_rfl) (by kernel_rfl) (by kernel_rfl) (by kernel_rfl) (fun _ _ _ h => h) (by kernel_rfl) ?_ hS0 ?_
    rotate_left
    · intro w' hSw
      simp only [List.getElem_toArray, List.getElem_cons_succ, List.getElem_cons_zero]
      go_simp
      all_goals with_reducible rfl
    simp only [List.getElem_toArray, List.getElem_cons_succ, List.getElem_cons_zero, Act.put, List.setIfInBounds_toArray, List.set_cons_zero, List.set_cons_succ]
    refine wpE_take' (v := ?_) 2 [14] (of_decide_eq_true (by kernel_rfl)) (by kernel_rfl) (by kernel_rfl) (by kernel_rfl) (by kernel_rfl) (fun _ _ _ h => h) (by kernel_rfl) ?_ hS0 ?_
    rotate_left
    · intro w' hSw
      simp only [List.getElem_toArray, List.getElem_cons_succ, List.getElem_cons_zero]
      go_simp
      try simp only [if_pos kk1, if_pos kk2, if_pos kk3, if_neg kk4, kk5]
      all_goals with_reducible rfl
    simp only [List.getElem_toArray, List.getElem_cons_succ, List.getElem_cons_zero, Act.put, List.setIfInBounds_toArray, List.set_cons_zero, List.set_cons_succ]
    refine wpE_take' (v := ?_) 3 [14] (of_decide_eq_true (by kernel_rfl)) (by kernel_rfl) (by kernel_rfl) (by kernel_rfl) (by kernel_rfl) (fun _ _ _ h => h) (by kernel_rfl) ?_ hS0 ?_
    rotate_left
    · intro w' hSw
      simp only [List.getElem_toArray, List.getElem_cons_succ, List.getElem_cons_zero]
      go_simp
      all_goals with_reducible rfl
    simp only [List.getElem_toArray, List.getElem_cons_succ, List.getElem_cons_zero, Act.put, List.setIfInBounds_toArray, List.set_cons_zero, List.set_cons_succ]
    refine wpE_take' (v := ?_) 5 [14] (of_decide_eq_true (by kernel_rfl)) (by kernel_rfl) (by kernel_rfl) (by kernel_rfl) (by kernel_rfl) (fun _ _ _ h => h) (by kernel_rfl) ?_ hS0 ?_
    rotate_left
    · intro w' hSw
      simp only [List.getElem_toArray, List.getElem_cons_succ, List.getElem_cons_zero]
      go_simp
      all_goals with_reducible rfl
    simp only [List.getElem_toArray, List.getElem_cons_succ, List.getElem_cons_zero, Act.put, List.setIfInBounds_toArray, List.set_cons_zero, List.set_cons_succ]
    refine wpE_take' (v := ?_) 6 [14] (of_decide_eq_true (by kernel_rfl)) (by kernel_rfl) (by kernel_rfl) (by kernel_rfl) (by kernel_rfl) (fun _ _ _ h => h) (by kernel_rfl) ?_ hS0 ?_
    rotate_left
    · intro w' hSw
      simp only [List.getElem_toArray, List.getElem_cons_succ, List.getElem_cons_zero]
      go_simp
      all_goals with_reducible rfl
    simp only [List.getElem_toArray, List.getElem_cons_succ, List.getElem_cons_zero, Act.put, List.setIfInBounds_toArray, List.set_cons_zero, List.set_cons_succ]
    refine wpE_take' (v := ?_) 7 [14] (of_decide_eq_true (by kernel_rfl)) (by kernel_rfl) (by kernel_rfl) (by kernel_rfl) (by kernel_rfl) (fun _ _ _ h => h) (by kernel_rfl) ?_ hS0 ?_
    rotate_left
    · intro w' hSw
      simp only [List.getElem_toArray, List.getElem_cons_succ, List.getElem_cons_zero]
      go_simp
      all_goals with_reducible rfl
    simp only [List.getElem_toArray, List.getElem_cons_succ, List.getElem_cons_zero, Act.put, List.setIfInBounds_toArray, List.set_cons_zero, List.set_cons_succ]
    refine wpE_take' (v := ?_) 8 [14] (of_decide_eq_true (by kernel_rfl)) (by kernel_rfl) (by kernel_rfl) (by kernel_rfl) (by kernel_rfl) (fun _ _ _ h => h) (by kernel_rfl) ?_ hS0 ?_
    rotate_left
    · intro w' hSw
      simp only [List.getElem_toArray, List.getElem_cons_succ, List.getElem_cons_zero]
      go_simp
      try simp only [if_pos kk1, if_pos kk2, if_pos kk3, if_neg kk4, kk5]
      all_goals with_reducible rfl
    simp only [List.getElem_toArray, List.getElem_cons_succ, List.getElem_cons_zero, Act.put, List.setIfInBounds_toArray, List.set_cons_zero, List.set_cons_succ]
    refine wpE_take' (v := ?_) 9 [14] (of_decide_eq_true (by kernel_rfl)) (by kernel_rfl) (by kernel_rfl) (by kernel_rfl) (by kernel_rfl) (fun _ _ _ h => h) (by kernel_rfl) ?_ hS0 ?_
    rotate_left
    · intro w' hSw
      simp only [List.getElem_toArray, List.getElem_cons_succ, List.getElem_cons_zero]
      go_simp
      all_goals with_reducible rfl
    simp only [List.getElem_toArray, List.getElem_cons_succ, List.getElem_cons_zero, Act.put, List.setIfInBounds_toArray, List.set_cons_zero, List.set_cons_succ]
    refine wpE_take' (v := ?_) 10 [14] (of_decide_eq_true (by kernel_rfl)) (by kernel_rfl) (by kernel_rfl) (by kernel_rfl) (by kernel_rfl) (fun _ _ _ h => h) (by kernel_rfl) ?_ hS0 ?_
    rotate_left
    · intro w' hSw
      simp only [List.getElem_toArray, List.getElem_cons_succ, List.getElem_cons_zero]
      go_simp
      all_goals with_reducible rfl
    simp only [List.getElem_toArray, List.getElem_cons_succ, List.getElem_cons_zero, Act.put, List.setIfInBounds_toArray, List.set_cons_zero, List.set_cons_succ]
    refine wpE_take' (v := ?_) 11 [14] (of_decide_eq_true (by kernel_rfl)) (by kernel_rfl) (by kernel_rfl) (by kernel_rfl) (by kernel_rfl) (fun _ _ _ h => h) (by kernel_rfl) ?_ hS0 ?_
    rotate_left
    · intro w' hSw
      simp only [List.getElem_toArray, List.getElem_cons_succ, List.getElem_cons_zero]
      go_simp
      all_goals with_reducible rfl
    simp only [List.getElem_toArray, List.getElem_cons_succ, List.getElem_cons_zero, Act.put, List.setIfInBounds_toArray, List.set_cons_zero, List.set_cons_succ]
    clear hS0
    refine wpE_step' 4 (of_decide_eq_true (by kernel_rfl)) (by kernel_rfl) (by kernel_rfl) (fun K hK => ?_)
    simp only [List.getElem_toArray, List.getElem_cons_succ, List.getElem_cons_zero]
    go_simp
    go_at_call 80
    refine (Hc.out _ fi (by omega) hRa3).mono ?_
    rintro e w2 ⟨v, rfl, ⟨A2, c2, ys, rfl, own2, hyl, hyb⟩, hb2⟩
    have hyl2 : ys.length ≤ 20 := by omega
    have Hyl := hide hyl
    clear hyl
    have hRb4 := (CsR.below hRb3 hb2).more hb2.size
    refine hK.out _ _ (.inr trivial) ?_
    clear hK K
    simp only [Act.put, List.setIfInBounds_toArray, List.set_cons_zero, List.set_cons_succ]
    refine wpE_step' 12 (of_decide_eq_true (by kernel_rfl)) (by kernel_rfl) (by kernel_rfl) (fun K hK => ?_)
    simp only [List.getElem_toArray, List.getElem_cons_succ, List.getElem_cons_zero]
    go_simp
    go_at_call 80
    refine (Hc1.out _ (total - fi) (by omega) hRb4).mono ?_
    rintro e w3 ⟨v, rfl, ⟨A3, c3, zs, rfl, own3, hzl, hzb⟩, hb3⟩
    have hzl2 : zs.length ≤ 20 := by omega
    have Hzl := hide hzl
    clear hzl
    refine hK.out _ _ (.inr trivial) ?_
    clear hK K
    simp only [Act.put, List.setIfInBounds_toArray, List.set_cons_zero, List.set_cons_succ]
    have own4 := own_below own2 hb3
    obtain ⟨g3, hr3⟩ := own_IntsR own3
    have hbB := bthen hb2 hb3
    refine wpE_step' 13 (of_decide_eq_true (by kernel_rfl)) (by kernel_rfl) (by kernel_rfl) (fun K hK => ?_)
    simp only [List.getElem_toArray, List.getElem_cons_succ, List.getElem_cons_zero]
    refine app_wp _ (.tmp 80) (.tmp 88) _ rfl wd.heap.size 3 i0 _ 1 8 Try.underlying52 hi0 hz0 hz1 hz2 rfl (by omega) (.slice A2 ys.length c2) ys.length (ys.map (Value.int .i64)) rfl own4 A3 zs.length c3 (zs.map (Value.int .i64)) rfl (by simp) hr3.news (ints_one zs) (by omega) (by omega) hbB.size ?_
    intro A5 c5 w5 hown5 hg5 hat5
    refine hK.out _ _ (.inr trivial) ?_
    clear hK K
    simp only [Act.put, List.setIfInBounds_toArray, List.set_cons_zero, List.set_cons_succ]
    refine wpE_step' 14 (of_decide_eq_true (by kernel_rfl)) (by kernel_rfl) (by kernel_rfl) (fun K hK => ?_)
    simp only [List.getElem_toArray, List.getElem_cons_succ, List.getElem_cons_zero]
    go_simp
    refine hK.out _ _ (.inl rfl) ?_
    clear hK K
    simp only [Act.put, List.setIfInBounds_toArray, List.set_cons_zero, List.set_cons_succ]
    refine wpE_done (by kernel_rfl) ?_ _
    have hb5 : Below wd.heap.size wd w5 := below_app hbB own4 hg5 (Nat.le_refl _) hbB.size
    have hB5 := bthen hB0 hb5
    have hl5 : (ys ++ zs).length = ys.length + zs.length := by simp
    have Hf : Hid (ForR w w5 (.thn a a') (.slice A5 (ys.length + zs.length) c5)) := ⟨A5, c5, ys ++ zs, by rw [hl5], by
        unfold OwnI
        rw [hl5, List.map_append]
        exact own_less hown5 (hB0).size, by rw [hl5, Hyl.out, Hzl.out]; rfl, fun y hy => by
        rcases List.mem_append.1 hy with h | h
        · exact hyb y h
        · exact hzb y h⟩
    clear hl5 hown5 hg5 hat5 own4 own3 own2 hr3 hb5 hyb hzb
    go_wp2_with fail
    go_ret
    exact ⟨_, rfl, Hf.out, hB5⟩
  | bth a a' ih0 ih1 =>
    intro A b o c total w hf hs hl htot hc hR
    obtain ⟨lu, hlu⟩ := hl
    obtain ⟨⟨⟨u1, v1'⟩, hl0⟩, ⟨u2, v2'⟩, hl1⟩ := lens_kids.2 hlu
    obtain ⟨i0, hi0, hz0, hz1, hz2⟩ := info_parts infoI
    obtain ⟨hf0, hf1⟩ := hf
    have hR' : MkR w w.heap.size b o A ((a.marks ++ a'.marks) ++ [⟨2, 0, 0⟩]) := hR
    obtain ⟨rfl, hbl, d0, d1, d2⟩ := mk_end hR'
    obtain ⟨hRa, hRb⟩ := mk_app (mk_app hR').1
    have hml := a.marks_len
    have hml' := a'.marks_len
    obtain ⟨n, hn⟩ : ∃ n, a.marks.length = n := ⟨_, rfl⟩
    obtain ⟨n', hn'⟩ : ∃ n, a'.marks.length = n := ⟨_, rfl⟩
    simp only [Tm.size] at hs htot
    have hn20 : n + n' ≤ 20 := by rw [← hn, hml, ← hn', hml']; omega
    have hn1 : 1 ≤ n ∧ 1 ≤ n' := by rw [← hn, hml, ← hn', hml']; cases a <;> cases a' <;> simp [Tm.size]
    have hlen : (Tm.bth a a').marks.length = n + n' + 1 := by simp [Tm.marks, hn, hn']; omega
    rw [hlen] at hc ⊢
    rw [List.length_append, hn, hn'] at d0 d1 d2
    rw [hn] at hRb
    have hcall := fun wq tt ht hq => ih0 (some ⟨b, o, none⟩) b o c tt wq hf0 (by omega) ⟨_, hl0⟩ ht (by omega) hq
    rw [hn] at hcall
    have hcall1 := fun wq tt ht hq => ih1 (some ⟨b, o + n * 3, none⟩) b (o + n * 3) (c - n) tt wq hf1 (by omega) ⟨_, hl1⟩ ht (by omega) hq
    rw [hn'] at hcall1
    have hst := fun wq hq => l11Starts_c a' (Tm.bth a a').marks n (fun j x hx => by
      show ((a.marks ++ a'.marks) ++ [_])[n + j]? = some x
      rw [List.append_assoc, List.getElem?_append_right (by omega), hn, Nat.add_sub_cancel_left, List.getElem?_append_left (List.getElem?_eq_some_iff.1 hx).1]; exact hx) (by omega) (((n + n' : Nat) : Int) - 1) (by rw [← hml', hn']; omega) (some ⟨b, o, none⟩) b o c _ wq (Nat.le_refl _) hq (by rw [hlen]; omega)
    rw [hlen] at hst
    obtain ⟨hn1a, hn1b⟩ := hn1
    have hst20 : a.steps ≤ 20 ∧ a'.steps ≤ 20 := by
      have h2 : ∀ a : Tm, a.steps ≤ a.size := fun a => by
        induction a with
        | step l h => simp [Tm.steps, Tm.size]
        | wth a h ih => simp only [Tm.steps, Tm.size]; omega
        | thn a b iha ihb => simp only [Tm.steps, Tm.size]; omega
        | bth a b iha ihb => simp only [Tm.steps, Tm.size]; omega
      have := h2 a
      have := h2 a'
      omega
    have kk1 : n ≤ c := by omega
    have kk2 : 0 ≤ (n : Int) + (n' : Int) ∧ (n : Int) + (n' : Int) ≤ (c : Int) := by omega
    have kk3 : n ≤ ((n : Int) + (n' : Int)).toNat := by omega
    have kk4 : ¬ c = n := by omega
    have kk5 : ((n : Int) + (n' : Int)).toNat - n = n' := by omega
    have Hst := hide hst
    have Hc := hide hcall
    have Hc1 := hide hcall1
    have hal : Below w.heap.size w (w.alloc (.cells #[.int .i64 2, .int .i64 0, .int .i64 0] 43)) := by go_grown
    have hM := mb_new w ⟨2, 0, 0⟩ 43
    have hRa2 := (hRa.below hal).more hal.size
    have hRb2 := (hRb.below hal).more hal.size
    have hRt2 := (hR.below hal).more hal.size
    clear hl0 hl1 hlu
    clear hR hR' hml hml' hn hn' hlen hcall hcall1 hst ih0 ih1 hRa hRb
    go_enter Try.func80, Try.ntmps80
    go_upto_region 3 with fail
    generalize w.alloc (.cells #[.int .i64 2, .int .i64 0, .int .i64 0] 43) = W at hal hM hRa2 hRb2 hRt2 ⊢
    generalize w.heap.size = V at hM ⊢
    have v0 := hM.c0
    have v1 := hM.c1
    have v2 := hM.c2
    dsimp only at v0 v1 v2
    go_upto_region 9 with (go_at_call 74; refine (Hst.out _ hRt2).mono ?_; rintro e w9 ⟨rfl, rfl⟩)
    refine wp_regionE (fun w' => True) 12 (by kernel_rfl) ?_
    change wpE _ _ _ _ _ _ 13 #[false, false, false, false, false, false, false, false, false, false, false, false, false] _ _
    have hdr : Below w9.heap.size w9 w9.drew := by go_grown
    have hB0 := bthen hal hdr
    have hRa3 := (CsR.below hRa2 hdr).more hdr.size
    have hRb3 := (CsR.below hRb2 hdr).more hdr.size
    clear hdr
    generalize w9.drew = wd at hB0 hRa3 hRb3 ⊢
    have hS0 := trivial
    refine wpE_take' (v := ?_) 0 [12] (of_decide_eq_true (by kernel_rfl)) (by kernel_rfl) (by kernel_rfl) (by kernel_rfl) (by kernel_rfl) (fun _ _ _ h => h) (by kernel_rfl) ?_ hS0 ?_
    rotate_left
    · intro w' hSw
      simp only [List.getElem_toArray, List.getElem_cons_succ, List.getElem_cons_zero]
      go_simp
      all_goals with_reducible rfl
    simp only [List.getElem_toArray, List.getElem_cons_succ, List.getElem_cons_zero, Act.put, List.setIfInBounds_toArray, List.set_cons_zero, List.set_cons_succ]
    refine wpE_take' (v := ?_) 1 [12] (of_decide_eq_true (by kernel_rfl)) (by kernel_rfl) (by kernel_rfl) (by kernel_rfl) (by kernel_rfl) (fun _ _ _ h => h) (by kernel_rfl) ?_ hS0 ?_
    rotate_left
    · intro w' hSw
      simp only [List.getElem_toArray, List.getElem_cons_succ, List.getElem_cons_zero]
      go_simp
      all_goals with_reducible rfl
    simp only [List.getElem_toArray, List.getElem_cons_succ, List.getElem_cons_zero, Act.put, List.setIfInBounds_toArray, List.set_cons_zero, List.set_cons_succ]
    refine wpE_take' (v := ?_) 2 [12] (of_decide_eq_true (by kernel_rfl)) (by kernel_rfl) (by kernel_rfl) (by kernel_rfl) (by kernel_rfl) (fun _ _ _ h => h) (by kernel_rfl) ?_ hS0 ?_
    rotate_left
    · intro w' hSw
      simp only [List.getElem_toArray, List.getElem_cons_succ, List.getElem_cons_zero]
      go_simp
      try simp only [if_pos kk1, if_pos kk2, if_pos kk3, if_neg kk4, kk5]
      all_goals with_reducible rfl
    simp only [List.getElem_toArray, List.getElem_cons_succ, List.getElem_cons_zero, Act.put, List.setIfInBounds_toArray, List.set_cons_zero, List.set_cons_succ]
    refine wpE_take' (v := ?_) 3 [12] (of_decide_eq_true (by kernel_rfl)) (by kernel_rfl) (by kernel_rfl) (by kernel_rfl) (by kernel_rfl) (fun _ _ _ h => h) (by kernel_rfl) ?_ hS0 ?_
    rotate_left
    · intro w' hSw
      simp only [List.getElem_toArray, List.getElem_cons_succ, List.getElem_cons_zero]
      go_simp
      all_goals with_reducible rfl
    simp only [List.getElem_toArray, List.getElem_cons_succ, List.getElem_cons_zero, Act.put, List.setIfInBounds_toArray, List.set_cons_zero, List.set_cons_succ]
    refine wpE_take' (v := ?_) 5 [12] (of_decide_eq_true (by kernel_rfl)) (by kernel_rfl) (by kernel_rfl) (by kernel_rfl) (by kernel_rfl) (fun _ _ _ h => h) (by kernel_rfl) ?_ hS0 ?_
    rotate_left
    · intro w' hSw
      simp only [List.getElem_toArray, List.getElem_cons_succ, List.getElem_cons_zero]
      go_simp
      all_goals with_reducible rfl
    simp only [List.getElem_toArray, List.getElem_cons_succ, List.getElem_cons_zero, Act.put, List.setIfInBounds_toArray, List.set_cons_zero, List.set_cons_succ]
    refine wpE_take' (v := ?_) 6 [12] (of_decide_eq_true (by kernel_rfl)) (by kernel_rfl) (by kernel_rfl) (by kernel_rfl) (by kernel_rfl) (fun _ _ _ h => h) (by kernel_rfl) ?_ hS0 ?_
    rotate_left
    · intro w' hSw
      simp only [List.getElem_toArray, List.getElem_cons_succ, List.getElem_cons_zero]
      go_simp
      all_goals with_reducible rfl
    simp only [List.getElem_toArray, List.getElem_cons_succ, List.getElem_cons_zero, Act.put, List.setIfInBounds_toArray, List.set_cons_zero, List.set_cons_succ]
    refine wpE_take' (v := ?_) 7 [12] (of_decide_eq_true (by kernel_rfl)) (by kernel_rfl) (by kernel_rfl) (by kernel_rfl) (by kernel_rfl) (fun _ _ _ h => h) (by kernel_rfl) ?_ hS0 ?_
    rotate_left
    · intro w' hSw
      simp only [List.getElem_toArray, List.getElem_cons_succ, List.getElem_cons_zero]
      go_simp
      all_goals with_reducible rfl
    simp only [List.getElem_toArray, List.getElem_cons_succ, List.getElem_cons_zero, Act.put, List.setIfInBounds_toArray, List.set_cons_zero, List.set_cons_succ]
    refine wpE_take' (v := ?_) 8 [12] (of_decide_eq_true (by kernel_rfl)) (by kernel_rfl) (by kernel_rfl) (by kernel_rfl) (by kernel_rfl) (fun _ _ _ h => h) (by kernel_rfl) ?_ hS0 ?_
    rotate_left
    · intro w' hSw
      simp only [List.getElem_toArray, List.getElem_cons_succ, List.getElem_cons_zero]
      go_simp
      try simp only [if_pos kk1, if_pos kk2, if_pos kk3, if_neg kk4, kk5]
      all_goals with_reducible rfl
    simp only [List.getElem_toArray, List.getElem_cons_succ, List.getElem_cons_zero, Act.put, List.setIfInBounds_toArray, List.set_cons_zero, List.set_cons_succ]
    refine wpE_take' (v := ?_) 9 [12] (of_decide_eq_true (by kernel_rfl)) (by kernel_rfl) (by kernel_rfl) (by kernel_rfl) (by kernel_rfl) (fun _ _ _ h => h) (by kernel_rfl) ?_ hS0 ?_
    rotate_left
    · intro w' hSw
      simp only [List.getElem_toArray, List.getElem_cons_succ, List.getElem_cons_zero]
      go_simp
      all_goals with_reducible rfl
    simp only [List.getElem_toArray, List.getElem_cons_succ, List.getElem_cons_zero, Act.put, List.setIfInBounds_toArray, List.set_cons_zero, List.set_cons_succ]
    clear hS0
    refine wpE_step' 4 (of_decide_eq_true (by kernel_rfl)) (by kernel_rfl) (by kernel_rfl) (fun K hK => ?_)
    simp only [List.getElem_toArray, List.getElem_cons_succ, List.getElem_cons_zero]
    go_simp
    go_at_call 80
    refine (Hc.out _ total (by omega) hRa3).mono ?_
    rintro e w2 ⟨v, rfl, ⟨A2, c2, ys, rfl, own2, hyl, hyb⟩, hb2⟩
    have hyl2 : ys.length ≤ 20 := by omega
    have Hyl := hide hyl
    clear hyl
    have hRb4 := (CsR.below hRb3 hb2).more hb2.size
    refine hK.out _ _ (.inr trivial) ?_
    clear hK K
    simp only [Act.put, List.setIfInBounds_toArray, List.set_cons_zero, List.set_cons_succ]
    refine wpE_step' 10 (of_decide_eq_true (by kernel_rfl)) (by kernel_rfl) (by kernel_rfl) (fun K hK => ?_)
    simp only [List.getElem_toArray, List.getElem_cons_succ, List.getElem_cons_zero]
    go_simp
    go_at_call 80
    refine (Hc1.out _ total (by omega) hRb4).mono ?_
    rintro e w3 ⟨v, rfl, ⟨A3, c3, zs, rfl, own3, hzl, hzb⟩, hb3⟩
    have hzl2 : zs.length ≤ 20 := by omega
    have Hzl := hide hzl
    clear hzl
    refine hK.out _ _ (.inr trivial) ?_
    clear hK K
    simp only [Act.put, List.setIfInBounds_toArray, List.set_cons_zero, List.set_cons_succ]
    have own4 := own_below own2 hb3
    obtain ⟨g3, hr3⟩ := own_IntsR own3
    have hbB := bthen hb2 hb3
    refine wpE_step' 11 (of_decide_eq_true (by kernel_rfl)) (by kernel_rfl) (by kernel_rfl) (fun K hK => ?_)
    simp only [List.getElem_toArray, List.getElem_cons_succ, List.getElem_cons_zero]
    refine app_wp _ (.tmp 46) (.tmp 52) _ rfl wd.heap.size 3 i0 _ 1 8 Try.underlying52 hi0 hz0 hz1 hz2 rfl (by omega) (.slice A2 ys.length c2) ys.length (ys.map (Value.int .i64)) rfl own4 A3 zs.length c3 (zs.map (Value.int .i64)) rfl (by simp) hr3.news (ints_one zs) (by omega) (by omega) hbB.size ?_
    intro A5 c5 w5 hown5 hg5 hat5
    refine hK.out _ _ (.inr trivial) ?_
    clear hK K
    simp only [Act.put, List.setIfInBounds_toArray, List.set_cons_zero, List.set_cons_succ]
    refine wpE_step' 12 (of_decide_eq_true (by kernel_rfl)) (by kernel_rfl) (by kernel_rfl) (fun K hK => ?_)
    simp only [List.getElem_toArray, List.getElem_cons_succ, List.getElem_cons_zero]
    go_simp
    refine hK.out _ _ (.inl rfl) ?_
    clear hK K
    simp only [Act.put, List.setIfInBounds_toArray, List.set_cons_zero, List.set_cons_succ]
    refine wpE_done (by kernel_rfl) ?_ _
    have hb5 : Below wd.heap.size wd w5 := below_app hbB own4 hg5 (Nat.le_refl _) hbB.size
    have hB5 := bthen hB0 hb5
    have hl5 : (ys ++ zs).length = ys.length + zs.length := by simp
    have Hf : Hid (ForR w w5 (.bth a a') (.slice A5 (ys.length + zs.length) c5)) := ⟨A5, c5, ys ++ zs, by rw [hl5], by
        unfold OwnI
        rw [hl5, List.map_append]
        exact own_less hown5 (hB0).size, by rw [hl5, Hyl.out, Hzl.out]; rfl, fun y hy => by
        rcases List.mem_append.1 hy with h | h
        · exact hyb y h
        · exact hzb y h⟩
    clear hl5 hown5 hg5 hat5 own4 own3 own2 hr3 hb5 hyb hzb
    go_wp2_with fail
    go_ret
    exact ⟨_, rfl, Hf.out, hB5⟩
end Go.Proofs.Ytofodhdpppjaoaa
