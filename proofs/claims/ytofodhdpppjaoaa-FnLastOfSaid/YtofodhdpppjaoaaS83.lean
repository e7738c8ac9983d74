/-
  spec: l12Last, LastOf.
-/
import Derived.Test.YtofodhdpppjaoaaS82
import Derived.Test.YtofodhdpppjaoaaL84
namespace Go.Proofs.Ytofodhdpppjaoaa
set_option linter.unusedVariables false
set_option linter.unusedSimpArgs false
open Go Go.RowKit Pp

theorem l1In_t {n lo hi : Int} {q : Bool} (h : inB n lo hi = q) (w : World) : Calls Try.prog 75 #[.int .i64 n, .int .i64 lo, .int .i64 hi] w fun e w' => e = .returned (.bool q) ∧ w' = w := by
  subst h
  exact (l1In_c n lo hi w).mono (fun e w' h => ⟨h.1, h.2.symm⟩)
set_option maxHeartbeats 4000000 in
set_option maxRecDepth 100000 in
theorem l12Last_q (xs : List Int) (hx : ∀ j : Nat, -100000 ≤ xs.getD j 0 ∧ xs.getD j 0 ≤ 100000) (hxl : xs.length ≤ 1000) (A2 : Option Addr) (b2 o2 c2 : Nat) : ∀ (a : Tm) (A : Option Addr) (b o c i : Nat) (w : World), a.size ≤ 20 → i + a.steps ≤ xs.length → a.marks.length ≤ c → MkR w w.heap.size b o A a.marks → IntsR w w.heap.size b2 o2 A2 xs →
    Calls Try.prog 68 #[.slice A a.marks.length c, .slice A2 xs.length c2, .int .i64 (i : Int)] w fun e w' => e = .returned (.tuple #[.int .i64 (lastV a xs i).1, .bool (lastV a xs i).2.1, .int .i64 ((i + a.steps : Nat) : Int)]) ∧ Below w.heap.size w w' := by
  intro a
  induction a with
  | step l h =>
    intro A b o c i w hs hst hc hR hI
    have hR' : MkR w w.heap.size b o A ([] ++ [⟨0, l, h⟩]) := hR
    obtain ⟨rfl, hbl, d0, d1, d2⟩ := mk_end hR'
    simp only [List.length_nil, Nat.zero_mul, Nat.add_zero] at d0 d1 d2
    have hi1 : i < xs.length := by simp only [Tm.steps] at hst; omega
    have hiz : (i : Int) < (xs.length : Int) := by omega
    obtain ⟨y, hy⟩ : ∃ y, xs.getD i 0 = y := ⟨_, rfl⟩
    have x0 := hI.cell i hi1
    rw [hy] at x0
    obtain rfl := hI.addr (by omega)
    have hbl2 := hI.lt (by omega)
    obtain ⟨r, hr⟩ : ∃ r, inB y l h = r := ⟨_, rfl⟩
    have HL : Hid ((lastV (.step l h) xs i).1 = y ∧ (lastV (.step l h) xs i).2.1 = r) := ⟨by simp only [lastV]; exact hy, by simp only [lastV]; rw [hy, hr]⟩
    have Hr := hide hr
    have hw : IntKind.i64.wrap ((i : Int) + 1) = (i : Int) + 1 := IntWalk.i64_in _ (by omega)
    rw [show (Tm.step l h).marks.length = 0 + 1 from rfl]
    clear hR hR' hc hr hy
    have hal : Below w.heap.size w (w.alloc (.cells #[.int .i64 0, .int .i64 l, .int .i64 h] 43)) := by go_grown
    have hM := mb_new w ⟨0, l, h⟩ 43
    have hRa2 := ((bcell hal).1 _ _ hbl2).trans x0
    go_enter Try.func68, Try.ntmps68
    go_upto_region 3 with fail
    generalize w.alloc (.cells #[.int .i64 0, .int .i64 l, .int .i64 h] 43) = W at hal hM hRa2 ⊢
    generalize w.heap.size = V at hM ⊢
    have v0 := hM.c0
    have v1 := hM.c1
    have v2 := hM.c2
    dsimp only at v0 v1 v2
    go_upto_region 4 with fail
    go_quiet ((go_at_call 75; exact Calls.quiet_of_same (l1In_t Hr.out _)))
    go_wp2_with fail
    go_ret3
    exact ⟨by rw [HL.out.1, HL.out.2]; rfl, bthen hal (bel_drewN _ _)⟩
  | wth a h ih0 =>
    intro A b o c i w hs hst hc hR hI
    have hR' : MkR w w.heap.size b o A (a.marks ++ [⟨3, 0, h⟩]) := hR
    obtain ⟨rfl, hbl, d0, d1, d2⟩ := mk_end hR'
    have hRa := (mk_app hR').1
    have hml := a.marks_len
    obtain ⟨n, hn⟩ : ∃ n, a.marks.length = n := ⟨_, rfl⟩
    have hn20 : n ≤ 20 := by rw [← hn, hml]; simp only [Tm.size] at hs; omega
    have hlen : (Tm.wth a h).marks.length = n + 1 := by simp [Tm.marks, hn]
    rw [hlen] at hc ⊢
    rw [hn] at d0 d1 d2
    have hcall := fun wq hq hj => ih0 (some ⟨b, o, none⟩) b o c i wq (by simp only [Tm.size] at hs; omega) hst (by omega) hq hj
    rw [hn] at hcall
    obtain ⟨n0, hnn0⟩ : ∃ n, (lastV a xs (i)).1 = n := ⟨_, rfl⟩
    obtain ⟨s0, hs0⟩ : ∃ s, (lastV a xs (i)).2.1 = s := ⟨_, rfl⟩
    have hsm0 := lastV_small hx a (i)
    rw [hnn0] at hsm0
    rw [hnn0, hs0] at hcall
    have HL : Hid ((lastV (.wth a h) xs i).1 = n0 ∧ (lastV (.wth a h) xs i).2.1 = (s0 && decide (n0 ≤ h))) := ⟨hnn0, by simp only [lastV]; rw [hnn0, hs0]⟩
    have Hc := hide hcall
    have hst2 : (Tm.wth a h).steps = a.steps := rfl
    rw [hst2]
    clear hR hR' hml hn hlen hcall ih0 hnn0 hs0 hst2
    have hal : Below w.heap.size w (w.alloc (.cells #[.int .i64 3, .int .i64 0, .int .i64 h] 43)) := by go_grown
    have hM := mb_new w ⟨3, 0, h⟩ 43
    have hRa2 := (hRa.below hal).more hal.size
    have hI2 := hI.next hal
    clear hRa hI
    go_enter Try.func68, Try.ntmps68
    go_upto_region 3 with fail
    generalize w.alloc (.cells #[.int .i64 3, .int .i64 0, .int .i64 h] 43) = W at hal hM hRa2 hI2 ⊢
    generalize w.heap.size = V at hM ⊢
    have v0 := hM.c0
    have v1 := hM.c1
    have v2 := hM.c2
    dsimp only at v0 v1 v2
    obtain ⟨st, hstn⟩ : ∃ st, a.steps = st := ⟨_, rfl⟩
    rw [hstn] at Hc
    have Hstn := hide hstn
    clear hstn
    cases s0
    all_goals
      go_upto_region 7 with (go_at_call 68; refine (Hc.out _ hRa2 hI2).mono ?_; rintro e w2 ⟨rfl, hb0⟩)
      have hM2 := hM.below hb0
      clear v0 v1 v2
      have v2 := hM2.c2
      dsimp only at v2
      go_quiet (fail)
      go_wp2_with fail
      go_ret3
      exact ⟨by rw [HL.out.1, HL.out.2, Hstn.out]; rfl, bthen hal (bthen hb0 (bel_drewN _ _))⟩
  | thn a a' ih0 ih1 =>
    intro A b o c i w hs hst hc hR hI
    have hR' : MkR w w.heap.size b o A ((a.marks ++ a'.marks) ++ [⟨1, 0, 0⟩]) := hR
    obtain ⟨rfl, hbl, d0, d1, d2⟩ := mk_end hR'
    obtain ⟨hRa, hRb⟩ := mk_app (mk_app hR').1
    have hml := a.marks_len
    have hml' := a'.marks_len
    obtain ⟨n, hn⟩ : ∃ n, a.marks.length = n := ⟨_, rfl⟩
    obtain ⟨n', hn'⟩ : ∃ n, a'.marks.length = n := ⟨_, rfl⟩
    have hn20 : n + n' ≤ 20 := by rw [← hn, hml, ← hn', hml']; simp only [Tm.size] at hs; omega
    have hn1 : 1 ≤ n ∧ 1 ≤ n' := by rw [← hn, hml, ← hn', hml']; cases a <;> cases a' <;> simp [Tm.size]
    have hlen : (Tm.thn a a').marks.length = n + n' + 1 := by simp [Tm.marks, hn, hn']; omega
    have hst2 : (Tm.thn a a').steps = a.steps + a'.steps := rfl
    rw [hst2] at hst ⊢
    rw [hlen] at hc ⊢
    rw [List.length_append, hn, hn'] at d0 d1 d2
    rw [hn] at hRb
    obtain ⟨n0, hnn0⟩ : ∃ n, (lastV a xs (i)).1 = n := ⟨_, rfl⟩
    obtain ⟨s0, hs0⟩ : ∃ s, (lastV a xs (i)).2.1 = s := ⟨_, rfl⟩
    have hsm0 := lastV_small hx a (i)
    rw [hnn0] at hsm0
    obtain ⟨n1, hnn1⟩ : ∃ n, (lastV a' xs (i + a.steps)).1 = n := ⟨_, rfl⟩
    obtain ⟨s1, hs1⟩ : ∃ s, (lastV a' xs (i + a.steps)).2.1 = s := ⟨_, rfl⟩
    have hsm1 := lastV_small hx a' (i + a.steps)
    rw [hnn1] at hsm1
    have hcall := fun wq hq hj => ih0 (some ⟨b, o, none⟩) b o c i wq (by simp only [Tm.size] at hs; omega) (by omega) (by omega) hq hj
    rw [hn, hnn0, hs0] at hcall
    have hcall1 := fun wq hq hj => ih1 (some ⟨b, o + n * 3, none⟩) b (o + n * 3) (c - n) (i + a.steps) wq (by simp only [Tm.size] at hs; omega) (by omega) (by omega) hq hj
    rw [hn', hnn1, hs1] at hcall1
    have hstt := fun wq hq => l11Starts_c a' (Tm.thn a a').marks n (fun j x hx => by
      show ((a.marks ++ a'.marks) ++ [_])[n + j]? = some x
      rw [List.append_assoc, List.getElem?_append_right (by omega), hn, Nat.add_sub_cancel_left, List.getElem?_append_left (List.getElem?_eq_some_iff.1 hx).1]; exact hx) (by simp only [Tm.size] at hs; omega) (((n + n' : Nat) : Int) - 1) (by rw [← hml', hn']; omega) (some ⟨b, o, none⟩) b o c _ wq (Nat.le_refl _) hq (by rw [hlen]; omega)
    rw [hlen] at hstt
    obtain ⟨hn1a, hn1b⟩ := hn1
    have HL : Hid ((lastV (.thn a a') xs i).1 = n0 + n1 ∧ (lastV (.thn a a') xs i).2.1 = (s0 && s1)) := by
      refine ⟨?_, ?_⟩
      · simp only [lastV]; rw [lastV_next, hnn0, hnn1]
      · simp only [lastV]; rw [lastV_next, hs0, hs1]
    have hsz0 : a.size ≤ 20 ∧ a'.size ≤ 20 := by simp only [Tm.size] at hs; omega
    have hw1 : IntKind.i64.wrap (n0 + n1) = n0 + n1 := IntWalk.i64_in _ (by omega)
    have Hst := hide hstt
    have Hc := hide hcall
    have Hc1 := hide hcall1
    have hal : Below w.heap.size w (w.alloc (.cells #[.int .i64 1, .int .i64 0, .int .i64 0] 43)) := by go_grown
    have hM := mb_new w ⟨1, 0, 0⟩ 43
    have hRa2 := (hRa.below hal).more hal.size
    have hRb2 := (hRb.below hal).more hal.size
    have hRt2 := (hR.below hal).more hal.size
    have hI2 := hI.next hal
    obtain ⟨st, hstn⟩ : ∃ st, i + a.steps = st := ⟨_, rfl⟩
    rw [hstn] at Hc Hc1
    have hstn2 : i + (a.steps + a'.steps) = st + a'.steps := by omega
    rw [hstn2]
    obtain ⟨st1, hstn1⟩ : ∃ s1, st + a'.steps = s1 := ⟨_, rfl⟩
    rw [hstn1] at Hc1 ⊢
    clear hR hR' hml hml' hn hn' hlen hcall hcall1 hstt ih0 ih1 hRa hRb hI hst hst2 hnn0 hs0 hnn1 hs1 hsm0 hsm1 hsz0 hstn hstn1 hstn2
    go_enter Try.func68, Try.ntmps68
    go_upto_region 3 with fail
    generalize w.alloc (.cells #[.int .i64 1, .int .i64 0, .int .i64 0] 43) = W at hal hM hRa2 hRb2 hRt2 hI2 ⊢
    generalize w.heap.size = V at hM ⊢
    have v0 := hM.c0
    have v1 := hM.c1
    have v2 := hM.c2
    dsimp only at v0 v1 v2
    go_upto_region 9 with (go_at_call 74; refine (Hst.out _ hRt2).mono ?_; rintro e w9 ⟨rfl, rfl⟩)
    cases s0
    all_goals
      go_upto_region 10 with (go_at_call 68; refine (Hc.out _ hRa2 hI2).mono ?_; rintro e w2 ⟨rfl, hb0⟩)
      have hM2 := hM.below hb0
      have hRb3 := (CsR.below hRb2 hb0).more hb0.size
      have hI3 := hI2.next hb0
      clear v0 v1 v2
      go_upto_region 11 with (go_at_call 68; refine (Hc1.out _ hRb3 hI3).mono ?_; rintro e w3 ⟨rfl, hb1⟩)
      have hM3 := hM2.below hb1
      have v0 := hM3.c0
      dsimp only at v0
      go_wp2_with fail
      go_ret3
      exact ⟨by rw [HL.out.1, HL.out.2]; rfl, bthen hal (bthen hb0 hb1)⟩
  | bth a a' ih0 ih1 =>
    intro A b o c i w hs hst hc hR hI
    have hR' : MkR w w.heap.size b o A ((a.marks ++ a'.marks) ++ [⟨2, 0, 0⟩]) := hR
    obtain ⟨rfl, hbl, d0, d1, d2⟩ := mk_end hR'
    obtain ⟨hRa, hRb⟩ := mk_app (mk_app hR').1
    have hml := a.marks_len
    have hml' := a'.marks_len
    obtain ⟨n, hn⟩ : ∃ n, a.marks.length = n := ⟨_, rfl⟩
    obtain ⟨n', hn'⟩ : ∃ n, a'.marks.length = n := ⟨_, rfl⟩
    have hn20 : n + n' ≤ 20 := by rw [← hn, hml, ← hn', hml']; simp only [Tm.size] at hs; omega
    have hn1 : 1 ≤ n ∧ 1 ≤ n' := by rw [← hn, hml, ← hn', hml']; cases a <;> cases a' <;> simp [Tm.size]
    have hlen : (Tm.bth a a').marks.length = n + n' + 1 := by simp [Tm.marks, hn, hn']; omega
    have hst2 : (Tm.bth a a').steps = a.steps + a'.steps := rfl
    rw [hst2] at hst ⊢
    rw [hlen] at hc ⊢
    rw [List.length_append, hn, hn'] at d0 d1 d2
    rw [hn] at hRb
    obtain ⟨n0, hnn0⟩ : ∃ n, (lastV a xs (i)).1 = n := ⟨_, rfl⟩
    obtain ⟨s0, hs0⟩ : ∃ s, (lastV a xs (i)).2.1 = s := ⟨_, rfl⟩
    have hsm0 := lastV_small hx a (i)
    rw [hnn0] at hsm0
    obtain ⟨n1, hnn1⟩ : ∃ n, (lastV a' xs (i + a.steps)).1 = n := ⟨_, rfl⟩
    obtain ⟨s1, hs1⟩ : ∃ s, (lastV a' xs (i + a.steps)).2.1 = s := ⟨_, rfl⟩
    have hsm1 := lastV_small hx a' (i + a.steps)
    rw [hnn1] at hsm1
    have hcall := fun wq hq hj => ih0 (some ⟨b, o, none⟩) b o c i wq (by simp only [Tm.size] at hs; omega) (by omega) (by omega) hq hj
    rw [hn, hnn0, hs0] at hcall
    have hcall1 := fun wq hq hj => ih1 (some ⟨b, o + n * 3, none⟩) b (o + n * 3) (c - n) (i + a.steps) wq (by simp only [Tm.size] at hs; omega) (by omega) (by omega) hq hj
    rw [hn', hnn1, hs1] at hcall1
    have hstt := fun wq hq => l11Starts_c a' (Tm.bth a a').marks n (fun j x hx => by
      show ((a.marks ++ a'.marks) ++ [_])[n + j]? = some x
      rw [List.append_assoc, List.getElem?_append_right (by omega), hn, Nat.add_sub_cancel_left, List.getElem?_append_left (List.getElem?_eq_some_iff.1 hx).1]; exact hx) (by simp only [Tm.size] at hs; omega) (((n + n' : Nat) : Int) - 1) (by rw [← hml', hn']; omega) (some ⟨b, o, none⟩) b o c _ wq (Nat.le_refl _) hq (by rw [hlen]; omega)
    rw [hlen] at hstt
    obtain ⟨hn1a, hn1b⟩ := hn1
    have HL : Hid ((lastV (.bth a a') xs i).1 = n0 ∧ (lastV (.bth a a') xs i).2.1 = (s0 && s1 && decide (n0 = n1))) := by
      refine ⟨?_, ?_⟩
      · simp only [lastV]; rw [hnn0]
      · simp only [lastV]; rw [lastV_next, hs0, hs1, hnn0, hnn1]
    have hsz0 : a.size ≤ 20 ∧ a'.size ≤ 20 := by simp only [Tm.size] at hs; omega
    have hw1 : IntKind.i64.wrap (n0 + n1) = n0 + n1 := IntWalk.i64_in _ (by omega)
    have Hst := hide hstt
    have Hc := hide hcall
    have Hc1 := hide hcall1
    have hal : Below w.heap.size w (w.alloc (.cells #[.int .i64 2, .int .i64 0, .int .i64 0] 43)) := by go_grown
    have hM := mb_new w ⟨2, 0, 0⟩ 43
    have hRa2 := (hRa.below hal).more hal.size
    have hRb2 := (hRb.below hal).more hal.size
    have hRt2 := (hR.below hal).more hal.size
    have hI2 := hI.next hal
    obtain ⟨st, hstn⟩ : ∃ st, i + a.steps = st := ⟨_, rfl⟩
    rw [hstn] at Hc Hc1
    have hstn2 : i + (a.steps + a'.steps) = st + a'.steps := by omega
    rw [hstn2]
    obtain ⟨st1, hstn1⟩ : ∃ s1, st + a'.steps = s1 := ⟨_, rfl⟩
    rw [hstn1] at Hc1 ⊢
    clear hR hR' hml hml' hn hn' hlen hcall hcall1 hstt ih0 ih1 hRa hRb hI hst hst2 hnn0 hs0 hnn1 hs1 hsm0 hsm1 hsz0 hstn hstn1 hstn2
    go_enter Try.func68, Try.ntmps68
    go_upto_region 3 with fail
    generalize w.alloc (.cells #[.int .i64 2, .int .i64 0, .int .i64 0] 43) = W at hal hM hRa2 hRb2 hRt2 hI2 ⊢
    generalize w.heap.size = V at hM ⊢
    have v0 := hM.c0
    have v1 := hM.c1
    have v2 := hM.c2
    dsimp only at v0 v1 v2
    go_upto_region 9 with (go_at_call 74; refine (Hst.out _ hRt2).mono ?_; rintro e w9 ⟨rfl, rfl⟩)
    cases s0
    all_goals cases s1
    all_goals
      go_upto_region 10 with (go_at_call 68; refine (Hc.out _ hRa2 hI2).mono ?_; rintro e w2 ⟨rfl, hb0⟩)
      have hM2 := hM.below hb0
      have hRb3 := (CsR.below hRb2 hb0).more hb0.size
      have hI3 := hI2.next hb0
      clear v0 v1 v2
      go_upto_region 11 with (go_at_call 68; refine (Hc1.out _ hRb3 hI3).mono ?_; rintro e w3 ⟨rfl, hb1⟩)
      have hM3 := hM2.below hb1
      have v0 := hM3.c0
      dsimp only at v0
      go_wp2_with fail
      go_ret3
      exact ⟨by rw [HL.out.1, HL.out.2]; rfl, bthen hal (bthen hb0 hb1)⟩
set_option maxHeartbeats 2000000 in
theorem sLastOf_c (t : List Mk) (xs : List Int) (hx : ∀ j : Nat, -100000 ≤ xs.getD j 0 ∧ xs.getD j 0 ≤ 100000) (A A2 : Option Addr) (b o c b2 o2 c2 B : Nat) (w : World) (hc : t.length ≤ c) (hB : B ≤ w.heap.size) (hR : MkR w B b o A t) (hI : IntsR w B b2 o2 A2 xs) (hn : t.length ≤ 2000000) :
    Calls Try.prog 35 #[.slice A t.length c, .slice A2 xs.length c2] w fun e w' => e = .returned (.tuple #[.int .i64 (lastOf t xs).1, .bool (lastOf t xs).2]) ∧ Below w.heap.size w w' := by
  cases ht : termOf t with
  | none =>
    have hl : lastOf t xs = (-1, false) := by unfold lastOf; rw [ht]
    have hk : termOk t = false := by unfold termOk; rw [ht]; rfl
    rw [hl]
    have Hk := hide hk
    clear ht hl hk
    go_enter Try.func35, Try.ntmps35
    go_wp2_with (go_at_call 30; go_fit (sTermOk_c t A b o c B w hB hR hn); rintro e w2 ⟨rfl, hb⟩; rw [Hk.out])
    go_ret2
    exact ⟨rfl, hb⟩
  | some a =>
    have hl : lastOf t xs = if a.steps = xs.length ∧ (lastV a xs 0).2.1 = true then ((lastV a xs 0).1, true) else (-1, false) := by unfold lastOf; rw [ht]
    have hk : termOk t = true := by unfold termOk; rw [ht]; rfl
    have hst := stepsOf_tm ht
    obtain ⟨hf, hm, h11⟩ := term_back ht
    have hsz : a.size ≤ 20 := by rw [← Tm.marks_len, hm]; omega
    have hst20 : a.steps ≤ 20 := by
      have h2 : ∀ a : Tm, a.steps ≤ a.size := fun a => by
        induction a with
        | step l h => simp [Tm.steps, Tm.size]
        | wth a h ih => simp only [Tm.steps, Tm.size]; omega
        | thn a b iha ihb => simp only [Tm.steps, Tm.size]; omega
        | bth a b iha ihb => simp only [Tm.steps, Tm.size]; omega
      have := h2 a
      omega
    have Hk := hide hk
    have Hst := hide hst
    by_cases hlen : a.steps = xs.length
    · have hz : ((xs.length : Int) != (a.steps : Int)) = false := by simp [hlen]
      have hcall := fun wq hq hj => l12Last_q xs hx (by omega) A2 b2 o2 c2 a A b o c 0 wq hsz (by omega) (by rw [hm]; exact hc) hq hj
      rw [hm] at hcall
      obtain ⟨n0, hn0⟩ : ∃ n, (lastV a xs 0).1 = n := ⟨_, rfl⟩
      obtain ⟨s0, hs0⟩ : ∃ s, (lastV a xs 0).2.1 = s := ⟨_, rfl⟩
      rw [hn0, hs0] at hl hcall
      have hl2 : lastOf t xs = if s0 = true then (n0, true) else (-1, false) := by
        rw [hl]
        cases s0
        · rw [if_neg (by simp), if_neg (by simp)]
        · rw [if_pos ⟨hlen, rfl⟩, if_pos rfl]
      rw [hl2]
      have Hc := hide hcall
      clear hn0 hs0 hl hl2 hlen hcall hk hst ht hm h11 hsz hst20
      cases s0
      all_goals
        go_enter Try.func35, Try.ntmps35
        go_wp2_with (first
          | (go_at_call 30; go_fit (sTermOk_c t A b o c B w hB hR hn); rintro e w2 ⟨rfl, hb⟩; rw [Hk.out])
          | (go_at_call 65; go_fit (sStepsOf_c t A b o c _ _ hb.size (hR.more hB |>.below hb) hn); rintro e w3 ⟨rfl, hb3⟩; rw [Hst.out]; have hb4 := bthen hb hb3)
          | (go_at_call 68; refine (Hc.out _ (((hR.more hB).below hb4).more hb4.size) (((hI.more hB).below hb4).more hb4.size)).mono ?_; rintro e w5 ⟨rfl, hb5⟩))
        go_ret2
        exact ⟨rfl, bthen hb4 hb5⟩
    · have hl2 : lastOf t xs = (-1, false) := by rw [hl, if_neg (fun h => hlen h.1)]
      rw [hl2]
      have hz : ((xs.length : Int) != (a.steps : Int)) = true := by simp; omega
      clear hl hl2 hlen hk hst ht hm h11 hsz hst20
      go_enter Try.func35, Try.ntmps35
      go_wp2_with (first
        | (go_at_call 30; go_fit (sTermOk_c t A b o c B w hB hR hn); rintro e w2 ⟨rfl, hb⟩; rw [Hk.out])
        | (go_at_call 65; go_fit (sStepsOf_c t A b o c _ _ hb.size (hR.more hB |>.below hb) hn); rintro e w3 ⟨rfl, hb3⟩; rw [Hst.out]))
      go_ret2
      exact ⟨rfl, bthen hb hb3⟩
end Go.Proofs.Ytofodhdpppjaoaa
