/-
  spec: l11Binds, l11Held, l11Text, TermText.
  spec: l11Text, TermText.
-/
import Derived.Test.YtmnajkhoacogjaaS90
import Derived.Test.YtmnajkhoacogjaaS80
import Derived.Test.YtmnajkhoacogjaaZ1
namespace Go.Proofs.Ytmnajkhoacogjaa
set_option linter.unusedVariables false
set_option linter.unusedSimpArgs false
open Go Go.RowKit Pp

theorem text_len : ∀ {a : Tm}, a.fine → a.text.length ≤ 10 * a.size := by
  intro a
  induction a with
  | step l h =>
    intro hf
    obtain ⟨f0, f1, f2⟩ := hf
    have h1 := num_len l (by omega)
    have h2 := num_len h (by omega)
    simp only [Tm.text, Tm.size]
    split
    · omega
    · simp only [List.length_append, List.length_cons]; omega
  | wth a h ih =>
    intro hf
    have h1 := ih hf.1
    have h2 := num_len h (by have := hf.2; omega)
    simp only [Tm.text, Tm.size, brk]
    split <;> simp only [List.length_append, List.length_cons, List.length_nil] <;> omega
  | thn a b iha ihb =>
    intro hf
    have h1 := iha hf.1
    have h2 := ihb hf.2
    simp only [Tm.text, Tm.size, brk]
    split <;> simp only [List.length_append, List.length_cons, List.length_nil] <;> omega
  | bth a b iha ihb =>
    intro hf
    have h1 := iha hf.1
    have h2 := ihb hf.2
    simp only [Tm.text, Tm.size, brk]
    split <;> split <;> simp only [List.length_append, List.length_cons, List.length_nil] <;> omega
theorem brk_len (q : Bool) (l : List UInt8) : (brk q l).length ≤ l.length + 2 := by
  unfold brk; split <;> simp
/-- The last mark of a part. -/
theorem tm_last (a : Tm) : ∃ m t, a.marks = t ++ [m] ∧ (m.k = 1 ↔ a.binds = 0) ∧ (m.k = 2 ↔ a.binds = 1) := by
  cases a with
  | step l h => exact ⟨_, [], rfl, by simp [Tm.binds], by simp [Tm.binds]⟩
  | wth a h => exact ⟨_, _, rfl, by simp [Tm.binds], by simp [Tm.binds]⟩
  | thn a b => exact ⟨_, _, rfl, by simp [Tm.binds], by simp [Tm.binds]⟩
  | bth a b => exact ⟨_, _, rfl, by simp [Tm.binds], by simp [Tm.binds]⟩
theorem binds_le (a : Tm) : a.binds ≤ 2 := by cases a <;> simp [Tm.binds]
set_option maxHeartbeats 1000000 in
theorem l11Binds_q (a : Tm) (A : Option Addr) (b o c : Nat) (w : World) (hs : a.size ≤ 20) (hR : MkR w w.heap.size b o A a.marks) :
    Calls Try.prog 49 #[.slice A a.marks.length c] w fun e w' => e = .returned (.int .i64 (a.binds : Int)) ∧ w' = w := by
  have hml := a.marks_len
  obtain ⟨m, t, hm, k1, k2⟩ := tm_last a
  have hb := binds_le a
  rw [hm] at hR hml ⊢
  obtain ⟨rfl, hbl, d0, d1, d2⟩ := mk_end hR
  have hl : (t ++ [m]).length = t.length + 1 := by simp
  rw [hl] at hml ⊢
  obtain ⟨n, hn⟩ : ∃ n, t.length = n := ⟨_, rfl⟩
  rw [hn] at d0 hml ⊢
  have hn20 : n ≤ 20 := by omega
  clear hR hl hm hn d1 d2 hml hs
  by_cases h1 : a.binds = 0
  · have e1 : (m.k == 1) = true := by simp [k1.2 h1]
    rw [h1]
    clear k1 k2 h1
    go_enter Try.func49, Try.ntmps49
    go_wp2_with fail
    go_ret
    exact ⟨rfl, rfl⟩
  · have e1 : (m.k == 1) = false := by simp; exact fun e => h1 (k1.1 e)
    by_cases h2 : a.binds = 1
    · have e2 : (m.k == 2) = true := by simp [k2.2 h2]
      rw [h2]
      clear k1 k2 h1 h2
      go_enter Try.func49, Try.ntmps49
      go_wp2_with fail
      go_ret
      exact ⟨rfl, rfl⟩
    · have e2 : (m.k == 2) = false := by simp; exact fun e => h2 (k2.1 e)
      have h3 : a.binds = 2 := by omega
      rw [h3]
      clear k1 k2 h1 h2 h3
      go_enter Try.func49, Try.ntmps49
      go_wp2_with fail
      go_ret
      exact ⟨rfl, rfl⟩
set_option maxHeartbeats 1000000 in
theorem l11Held_q (a : Tm) (q : Nat) (hq : q ≤ 2) (A : Option Addr) (b o c : Nat) (w : World) (hf : a.fine) (hs : a.size ≤ 20) (hR : MkR w w.heap.size b o A a.marks)
    (hT : ∀ wq, MkR wq wq.heap.size b o A a.marks → Calls Try.prog 40 #[.slice A a.marks.length c] wq fun e w' => e = .returned (txt a.text) ∧ Below wq.heap.size wq w') :
    Calls Try.prog 45 #[.slice A a.marks.length c, .int .i64 (q : Int)] w fun e w' => e = .returned (txt (brk (decide (a.binds < q)) a.text)) ∧ Below w.heap.size w w' := by
  have hB := l11Binds_q a A b o c w hs hR
  have hl := text_len hf
  obtain ⟨ds, hds⟩ : ∃ ds, a.text = ds := ⟨_, rfl⟩
  obtain ⟨n, hn⟩ : ∃ n, a.marks.length = n := ⟨_, rfl⟩
  obtain ⟨k, hk⟩ : ∃ k, a.binds = k := ⟨_, rfl⟩
  rw [hds] at hl hT ⊢
  rw [hn] at hB hT ⊢
  rw [hk] at hB ⊢
  have hb := binds_le a
  rw [hk] at hb
  have hT2 := hT w hR
  have hdl : ds.length ≤ 200 := by omega
  clear hds hn hT hR hl hk
  by_cases h : k < q
  · have hz : (k : Int) < (q : Int) := by omega
    rw [decide_eq_true h]
    go_enter Try.func45, Try.ntmps45
    go_wp2_with (first
      | (go_at_call 49; refine hB.mono ?_; rintro e w2 ⟨rfl, rfl⟩)
      | (go_at_call 40; refine hT2.mono ?_; rintro e w3 ⟨rfl, hb3⟩; unfold txt))
    go_ret
    exact ⟨by unfold txt; rw [show (⟨#[40]⟩ : ByteArray) = ⟨[(40 : UInt8)].toArray⟩ from rfl, show (⟨#[41]⟩ : ByteArray) = ⟨[(41 : UInt8)].toArray⟩ from rfl, bytes_app, bytes_app]; rfl, hb3⟩
  · have hz : ¬ (k : Int) < (q : Int) := by omega
    rw [decide_eq_false h]
    go_enter Try.func45, Try.ntmps45
    go_wp2_with (first
      | (go_at_call 49; refine hB.mono ?_; rintro e w2 ⟨rfl, rfl⟩)
      | (go_at_call 40; refine hT2.mono ?_; rintro e w3 ⟨rfl, hb3⟩))
    go_ret
    exact ⟨rfl, hb3⟩

set_option maxHeartbeats 4000000 in
set_option maxRecDepth 100000 in
theorem l11Text_q : ∀ (a : Tm) (A : Option Addr) (b o c : Nat) (w : World), a.fine → a.size ≤ 20 → a.marks.length ≤ c → MkR w w.heap.size b o A a.marks →
    Calls Try.prog 40 #[.slice A a.marks.length c] w fun e w' => e = .returned (txt a.text) ∧ Below w.heap.size w w' := by
  intro a
  induction a with
  | step l h =>
    intro A b o c w hf hs hc hR
    obtain ⟨f0, f1, f2⟩ := hf
    have hR' : MkR w w.heap.size b o A ([] ++ [⟨0, l, h⟩]) := hR
    obtain ⟨rfl, hbl, d0, d1, d2⟩ := mk_end hR'
    simp only [List.length_nil, Nat.zero_mul, Nat.add_zero] at d0 d1 d2
    rw [show (Tm.step l h).marks.length = 0 + 1 from rfl]
    clear hR hR' hc
    have hal : Below w.heap.size w (w.alloc (.cells #[.int .i64 0, .int .i64 l, .int .i64 h] 72)) := by go_grown
    have hM := mb_new w ⟨0, l, h⟩ 72
    have hRs : True := trivial
    have hl1 := num_len l (by omega)
    have hl2 := num_len h (by omega)
    obtain ⟨x, hx⟩ : ∃ x, num l = x := ⟨_, rfl⟩
    obtain ⟨y, hy⟩ : ∃ y, num h = y := ⟨_, rfl⟩
    rw [hx] at hl1
    rw [hy] at hl2
    have hcx := fun wq => num_c l (by omega) wq
    have hcy := fun wq => num_c h (by omega) wq
    rw [hx] at hcx
    rw [hy] at hcy
    have Hcx := hide hcx
    have Hcy := hide hcy
    by_cases hlh : l = h
    · have ht : (Tm.step l h).text = x := by simp [Tm.text, hlh]; rw [← hlh, hx]
      rw [ht]
      subst hlh
      clear hx hy hcx hcy ht
      go_enter Try.func40, Try.ntmps40
      go_upto_region 3 with fail
      generalize w.alloc (.cells #[.int .i64 0, .int .i64 l, .int .i64 l] 72) = W at hal hM hRs ⊢
      generalize w.heap.size = V at hM ⊢
      have v0 := hM.c0
      have v1 := hM.c1
      have v2 := hM.c2
      dsimp only at v0 v1 v2
      go_wp2_with (go_at_call 38; refine (Hcx.out _).mono ?_; rintro e w2 ⟨rfl, hb2⟩)
      go_ret
      exact ⟨rfl, bthen hal hb2⟩
    · have ht : (Tm.step l h).text = x ++ 45 :: y := by simp [Tm.text, hlh, hx, hy]
      have hz : (l == h) = false := by simpa using hlh
      rw [ht]
      clear hx hy hcx hcy ht hlh
      go_enter Try.func40, Try.ntmps40
      go_upto_region 3 with fail
      generalize w.alloc (.cells #[.int .i64 0, .int .i64 l, .int .i64 h] 72) = W at hal hM hRs ⊢
      generalize w.heap.size = V at hM ⊢
      have v0 := hM.c0
      have v1 := hM.c1
      have v2 := hM.c2
      dsimp only at v0 v1 v2
      go_upto_region 7 with fail
      refine wp_regionE (fun w' => w'.cell? ⟨V, 1, none⟩ = some (.int .i64 l) ∧ w'.cell? ⟨V, 2, none⟩ = some (.int .i64 h)) 8 (by kernel_rfl) ?_
      change wpE _ _ _ _ _ _ (8 + 1) #[false, false, false, false, false, false, false, false, false] _ _
      have hdr : Below W.heap.size W W.drew := by go_grown
      have hMd := hM.below hdr
      generalize W.drew = wd at hdr hMd ⊢
      have hS0 : wd.cell? ⟨V, 1, none⟩ = some (.int .i64 l) ∧ wd.cell? ⟨V, 2, none⟩ = some (.int .i64 h) := ⟨hMd.c1, hMd.c2⟩
      refine wpE_take' (v := ?_) 0 [8] (of_decide_eq_true (by kernel_rfl)) (by kernel_rfl) (by kernel_rfl) (by kernel_rfl) (by kernel_rfl) (fun _ _ _ h => h) (by kernel_rfl) ?_ hS0 ?_
      rotate_left
      · intro w' hSw
        obtain ⟨hs0, hs1⟩ := hSw
        simp only [List.getElem_toArray, List.getElem_cons_succ, List.getElem_cons_zero]
        go_simp
        try simp only [if_pos kk1, if_pos kk2, if_pos kk3, if_neg kk4, kk5]
        all_goals with_reducible rfl
      simp only [List.getElem_toArray, List.getElem_cons_succ, List.getElem_cons_zero, Act.put, List.setIfInBounds_toArray, List.set_cons_zero, List.set_cons_succ]
      refine wpE_take' (v := ?_) 1 [8] (of_decide_eq_true (by kernel_rfl)) (by kernel_rfl) (by kernel_rfl) (by kernel_rfl) (by kernel_rfl) (fun _ _ _ h => h) (by kernel_rfl) ?_ hS0 ?_
      rotate_left
      · intro w' hSw
        obtain ⟨hs0, hs1⟩ := hSw
        simp only [List.getElem_toArray, List.getElem_cons_succ, List.getElem_cons_zero]
        go_simp
        try simp only [if_pos kk1, if_pos kk2, if_pos kk3, if_neg kk4, kk5]
        all_goals with_reducible rfl
      simp only [List.getElem_toArray, List.getElem_cons_succ, List.getElem_cons_zero, Act.put, List.setIfInBounds_toArray, List.set_cons_zero, List.set_cons_succ]
      refine wpE_take' (v := ?_) 4 [8] (of_decide_eq_true (by kernel_rfl)) (by kernel_rfl) (by kernel_rfl) (by kernel_rfl) (by kernel_rfl) (fun _ _ _ h => h) (by kernel_rfl) ?_ hS0 ?_
      rotate_left
      · intro w' hSw
        obtain ⟨hs0, hs1⟩ := hSw
        simp only [List.getElem_toArray, List.getElem_cons_succ, List.getElem_cons_zero]
        go_simp
        try simp only [if_pos kk1, if_pos kk2, if_pos kk3, if_neg kk4, kk5]
        all_goals with_reducible rfl
      simp only [List.getElem_toArray, List.getElem_cons_succ, List.getElem_cons_zero, Act.put, List.setIfInBounds_toArray, List.set_cons_zero, List.set_cons_succ]
      refine wpE_take' (v := ?_) 5 [8] (of_decide_eq_true (by kernel_rfl)) (by kernel_rfl) (by kernel_rfl) (by kernel_rfl) (by kernel_rfl) (fun _ _ _ h => h) (by kernel_rfl) ?_ hS0 ?_
      rotate_left
      · intro w' hSw
        obtain ⟨hs0, hs1⟩ := hSw
        simp only [List.getElem_toArray, List.getElem_cons_succ, List.getElem_cons_zero]
        go_simp
        try simp only [if_pos kk1, if_pos kk2, if_pos kk3, if_neg kk4, kk5]
        all_goals with_reducible rfl
      simp only [List.getElem_toArray, List.getElem_cons_succ, List.getElem_cons_zero, Act.put, List.setIfInBounds_toArray, List.set_cons_zero, List.set_cons_succ]
      refine wpE_step' 2 (of_decide_eq_true (by kernel_rfl)) (by kernel_rfl) (by kernel_rfl) (fun K hK => ?_)
      simp only [List.getElem_toArray, List.getElem_cons_succ, List.getElem_cons_zero]
      go_simp
      go_at_call 38
      refine (Hcx.out _).mono ?_
      rintro e w2 ⟨rfl, hb2⟩
      unfold txt
      replace hMd := hMd.below hb2
      replace hdr := bthen hdr hb2
      refine hK.out _ _ (.inr ⟨hMd.c1, hMd.c2⟩) ?_
      clear hK K hS0
      simp only [Act.put, List.setIfInBounds_toArray, List.set_cons_zero, List.set_cons_succ]
      have hS0 : w2.cell? ⟨V, 1, none⟩ = some (.int .i64 l) ∧ w2.cell? ⟨V, 2, none⟩ = some (.int .i64 h) := ⟨hMd.c1, hMd.c2⟩
      clear hb2
      refine wpE_take' (v := ?_) 3 [7, 8] (of_decide_eq_true (by kernel_rfl)) (by kernel_rfl) (by kernel_rfl) (by kernel_rfl) (by kernel_rfl) (fun _ _ _ h => h) (by kernel_rfl) ?_ hS0 ?_
      rotate_left
      · intro w' hSw
        obtain ⟨hs0, hs1⟩ := hSw
        simp only [List.getElem_toArray, List.getElem_cons_succ, List.getElem_cons_zero]
        go_simp
        try rw [if_neg (by omega)]
        all_goals with_reducible rfl
      simp only [List.getElem_toArray, List.getElem_cons_succ, List.getElem_cons_zero, Act.put, List.setIfInBounds_toArray, List.set_cons_zero, List.set_cons_succ]
      refine wpE_step' 6 (of_decide_eq_true (by kernel_rfl)) (by kernel_rfl) (by kernel_rfl) (fun K hK => ?_)
      simp only [List.getElem_toArray, List.getElem_cons_succ, List.getElem_cons_zero]
      go_simp
      go_at_call 38
      refine (Hcy.out _).mono ?_
      rintro e w2 ⟨rfl, hb2⟩
      unfold txt
      replace hMd := hMd.below hb2
      replace hdr := bthen hdr hb2
      refine hK.out _ _ (.inr ⟨hMd.c1, hMd.c2⟩) ?_
      clear hK K hS0
      simp only [Act.put, List.setIfInBounds_toArray, List.set_cons_zero, List.set_cons_succ]
      have hS0 : w2.cell? ⟨V, 1, none⟩ = some (.int .i64 l) ∧ w2.cell? ⟨V, 2, none⟩ = some (.int .i64 h) := ⟨hMd.c1, hMd.c2⟩
      clear hb2
      refine wpE_take' (v := ?_) 7 [8] (of_decide_eq_true (by kernel_rfl)) (by kernel_rfl) (by kernel_rfl) (by kernel_rfl) (by kernel_rfl) (fun _ _ _ h => h) (by kernel_rfl) ?_ hS0 ?_
      rotate_left
      · intro w' hSw
        obtain ⟨hs0, hs1⟩ := hSw
        simp only [List.getElem_toArray, List.getElem_cons_succ, List.getElem_cons_zero]
        go_simp
        try rw [if_neg (by omega)]
        all_goals with_reducible rfl
      simp only [List.getElem_toArray, List.getElem_cons_succ, List.getElem_cons_zero, Act.put, List.setIfInBounds_toArray, List.set_cons_zero, List.set_cons_succ]
      refine wpE_step' 8 (of_decide_eq_true (by kernel_rfl)) (by kernel_rfl) (by kernel_rfl) (fun K hK => ?_)
      simp only [List.getElem_toArray, List.getElem_cons_succ, List.getElem_cons_zero]
      go_simp
      refine hK.out _ _ (.inl rfl) ?_
      clear hK K
      simp only [Act.put, List.setIfInBounds_toArray, List.set_cons_zero, List.set_cons_succ]
      refine wpE_done (by kernel_rfl) ?_ _
      go_wp2_with fail
      go_ret
      exact ⟨by unfold txt; rw [show (⟨#[45]⟩ : ByteArray) = ⟨[(45 : UInt8)].toArray⟩ from rfl, bytes_app, bytes_app]; simp, bthen hal hdr⟩
  | wth a h ih0 =>
    intro A b o c w hf hs hc hR
    obtain ⟨hf0, hh1, hh2⟩ := hf
    have hR' : MkR w w.heap.size b o A (a.marks ++ [⟨3, 0, h⟩]) := hR
    obtain ⟨rfl, hbl, d0, d1, d2⟩ := mk_end hR'
    have hRa := (mk_app hR').1
    have hml := a.marks_len
    obtain ⟨n, hn⟩ : ∃ n, a.marks.length = n := ⟨_, rfl⟩
    simp only [Tm.size] at hs
    have hn20 : n ≤ 20 := by rw [← hn, hml]; omega
    have hlen : (Tm.wth a h).marks.length = n + 1 := by simp [Tm.marks, hn]
    rw [hlen] at hc ⊢
    rw [hn] at d0 d1 d2
    have hh0 := fun wq hq => l11Held_q a 2 (by omega) (some ⟨b, o, none⟩) b o c wq hf0 (by omega) hq (fun wp hp => ih0 (some ⟨b, o, none⟩) b o c wp hf0 (by omega) (by omega) hp)
    obtain ⟨x, hx⟩ : ∃ x, brk (decide (a.binds < 2)) a.text = x := ⟨_, rfl⟩
    obtain ⟨y, hy⟩ : ∃ y, num h = y := ⟨_, rfl⟩
    have ht : (Tm.wth a h).text = x ++ 60 :: y := by rw [← hx, ← hy]; rfl
    have hxl : x.length ≤ 300 := by rw [← hx]; have := brk_len (decide (a.binds < 2)) a.text; have := text_len hf0; omega
    have hyl : y.length ≤ 3 := by rw [← hy]; exact num_len h (by omega)
    rw [hx, hn] at hh0
    have hcy := fun wq => num_c h (by omega) wq
    rw [hy] at hcy
    have kk1 : n ≤ c := by omega
    have Hc := hide hh0
    have Hcy := hide hcy
    rw [ht]
    have hal : Below w.heap.size w (w.alloc (.cells #[.int .i64 3, .int .i64 0, .int .i64 h] 72)) := by go_grown
    have hM := mb_new w ⟨3, 0, h⟩ 72
    have hRs := (hRa.below hal).more hal.size
    clear hR hR' hml hn hlen hh0 ih0 hRa hx hy ht hcy
    go_enter Try.func40, Try.ntmps40
    go_upto_region 3 with fail
    generalize w.alloc (.cells #[.int .i64 3, .int .i64 0, .int .i64 h] 72) = W at hal hM hRs ⊢
    generalize w.heap.size = V at hM ⊢
    have v0 := hM.c0
    have v1 := hM.c1
    have v2 := hM.c2
    dsimp only at v0 v1 v2
    go_upto_region 9 with fail
    refine wp_regionE (fun w' => w'.cell? ⟨V, 1, none⟩ = some (.int .i64 0) ∧ w'.cell? ⟨V, 2, none⟩ = some (.int .i64 h)) 9 (by kernel_rfl) ?_
    change wpE _ _ _ _ _ _ (9 + 1) #[false, false, false, false, false, false, false, false, false, false] _ _
    have hdr : Below W.heap.size W W.drew := by go_grown
    have hMd := hM.below hdr
    generalize W.drew = wd at hdr hMd ⊢
    have hS0 : wd.cell? ⟨V, 1, none⟩ = some (.int .i64 0) ∧ wd.cell? ⟨V, 2, none⟩ = some (.int .i64 h) := ⟨hMd.c1, hMd.c2⟩
    replace hRs := (CsR.below hRs hdr).more hdr.size
    refine wpE_take' (v := ?_) 0 [9] (of_decide_eq_true (by kernel_rfl)) (by kernel_rfl) (by kernel_rfl) (by kernel_rfl) (by kernel_rfl) (fun _ _ _ h => h) (by kernel_rfl) ?_ hS0 ?_
    rotate_left
    · intro w' hSw
      obtain ⟨hs0, hs1⟩ := hSw
      simp only [List.getElem_toArray, List.getElem_cons_succ, List.getElem_cons_zero]
      go_simp
      try simp only [if_pos kk1, if_pos kk2, if_pos kk3, if_neg kk4, kk5]
      all_goals with_reducible rfl
    simp only [List.getElem_toArray, List.getElem_cons_succ, List.getElem_cons_zero, Act.put, List.setIfInBounds_toArray, List.set_cons_zero, List.set_cons_succ]
    refine wpE_take' (v := ?_) 1 [9] (of_decide_eq_true (by kernel_rfl)) (by kernel_rfl) (by kernel_rfl) (by kernel_rfl) (by kernel_rfl) (fun _ _ _ h => h) (by kernel_rfl) ?_ hS0 ?_
    rotate_left
    · intro w' hSw
      obtain ⟨hs0, hs1⟩ := hSw
      simp only [List.getElem_toArray, List.getElem_cons_succ, List.getElem_cons_zero]
      go_simp
      try simp only [if_pos kk1, if_pos kk2, if_pos kk3, if_neg kk4, kk5]
      all_goals with_reducible rfl
    simp only [List.getElem_toArray, List.getElem_cons_succ, List.getElem_cons_zero, Act.put, List.setIfInBounds_toArray, List.set_cons_zero, List.set_cons_succ]
    refine wpE_take' (v := ?_) 2 [9] (of_decide_eq_true (by kernel_rfl)) (by kernel_rfl) (by kernel_rfl) (by kernel_rfl) (by kernel_rfl) (fun _ _ _ h => h) (by kernel_rfl) ?_ hS0 ?_
    rotate_left
    · intro w' hSw
      obtain ⟨hs0, hs1⟩ := hSw
      simp only [List.getElem_toArray, List.getElem_cons_succ, List.getElem_cons_zero]
      go_simp
      try simp only [if_pos kk1, if_pos kk2, if_pos kk3, if_neg kk4, kk5]
      all_goals with_reducible rfl
    simp only [List.getElem_toArray, List.getElem_cons_succ, List.getElem_cons_zero, Act.put, List.setIfInBounds_toArray, List.set_cons_zero, List.set_cons_succ]
    refine wpE_take' (v := ?_) 5 [9] (of_decide_eq_true (by kernel_rfl)) (by kernel_rfl) (by kernel_rfl) (by kernel_rfl) (by kernel_rfl) (fun _ _ _ h => h) (by kernel_rfl) ?_ hS0 ?_
    rotate_left
    · intro w' hSw
      obtain ⟨hs0, hs1⟩ := hSw
      simp only [List.getElem_toArray, List.getElem_cons_succ, List.getElem_cons_zero]
      go_simp
      try simp only [if_pos kk1, if_pos kk2, if_pos kk3, if_neg kk4, kk5]
      all_goals with_reducible rfl
    simp only [List.getElem_toArray, List.getElem_cons_succ, List.getElem_cons_zero, Act.put, List.setIfInBounds_toArray, List.set_cons_zero, List.set_cons_succ]
    refine wpE_take' (v := ?_) 6 [9] (of_decide_eq_true (by kernel_rfl)) (by kernel_rfl) (by kernel_rfl) (by kernel_rfl) (by kernel_rfl) (fun _ _ _ h => h) (by kernel_rfl) ?_ hS0 ?_
    rotate_left
    · intro w' hSw
      obtain ⟨hs0, hs1⟩ := hSw
      simp only [List.getElem_toArray, List.getElem_cons_succ, List.getElem_cons_zero]
      go_simp
      try simp only [if_pos kk1, if_pos kk2, if_pos kk3, if_neg kk4, kk5]
      all_goals with_reducible rfl
    simp only [List.getElem_toArray, List.getElem_cons_succ, List.getElem_cons_zero, Act.put, List.setIfInBounds_toArray, List.set_cons_zero, List.set_cons_succ]
    refine wpE_step' 3 (of_decide_eq_true (by kernel_rfl)) (by kernel_rfl) (by kernel_rfl) (fun K hK => ?_)
    simp only [List.getElem_toArray, List.getElem_cons_succ, List.getElem_cons_zero]
    go_simp
    go_at_call 45
    refine (Hc.out _ hRs).mono ?_
    rintro e w2 ⟨rfl, hb2⟩
    unfold txt
    replace hMd := hMd.below hb2
    replace hdr := bthen hdr hb2
    refine hK.out _ _ (.inr ⟨hMd.c1, hMd.c2⟩) ?_
    clear hK K hS0
    simp only [Act.put, List.setIfInBounds_toArray, List.set_cons_zero, List.set_cons_succ]
    have hS0 : w2.cell? ⟨V, 1, none⟩ = some (.int .i64 0) ∧ w2.cell? ⟨V, 2, none⟩ = some (.int .i64 h) := ⟨hMd.c1, hMd.c2⟩
    clear hb2
    refine wpE_take' (v := ?_) 4 [8, 9] (of_decide_eq_true (by kernel_rfl)) (by kernel_rfl) (by kernel_rfl) (by kernel_rfl) (by kernel_rfl) (fun _ _ _ h => h) (by kernel_rfl) ?_ hS0 ?_
    rotate_left
    · intro w' hSw
      obtain ⟨hs0, hs1⟩ := hSw
      simp only [List.getElem_toArray, List.getElem_cons_succ, List.getElem_cons_zero]
      go_simp
      try rw [if_neg (by omega)]
      all_goals with_reducible rfl
    simp only [List.getElem_toArray, List.getElem_cons_succ, List.getElem_cons_zero, Act.put, List.setIfInBounds_toArray, List.set_cons_zero, List.set_cons_succ]
    refine wpE_step' 7 (of_decide_eq_true (by kernel_rfl)) (by kernel_rfl) (by kernel_rfl) (fun K hK => ?_)
    simp only [List.getElem_toArray, List.getElem_cons_succ, List.getElem_cons_zero]
    go_simp
    go_at_call 38
    refine (Hcy.out _).mono ?_
    rintro e w2 ⟨rfl, hb2⟩
    unfold txt
    replace hMd := hMd.below hb2
    replace hdr := bthen hdr hb2
    refine hK.out _ _ (.inr ⟨hMd.c1, hMd.c2⟩) ?_
    clear hK K hS0
    simp only [Act.put, List.setIfInBounds_toArray, List.set_cons_zero, List.set_cons_succ]
    have hS0 : w2.cell? ⟨V, 1, none⟩ = some (.int .i64 0) ∧ w2.cell? ⟨V, 2, none⟩ = some (.int .i64 h) := ⟨hMd.c1, hMd.c2⟩
    clear hb2
    refine wpE_take' (v := ?_) 8 [9] (of_decide_eq_true (by kernel_rfl)) (by kernel_rfl) (by kernel_rfl) (by kernel_rfl) (by kernel_rfl) (fun _ _ _ h => h) (by kernel_rfl) ?_ hS0 ?_
    rotate_left
    · intro w' hSw
      obtain ⟨hs0, hs1⟩ := hSw
      simp only [List.getElem_toArray, List.getElem_cons_succ, List.getElem_cons_zero]
      go_simp
      try rw [if_neg (by omega)]
      all_goals with_reducible rfl
    simp only [List.getElem_toArray, List.getElem_cons_succ, List.getElem_cons_zero, Act.put, List.setIfInBounds_toArray, List.set_cons_zero, List.set_cons_succ]
    refine wpE_step' 9 (of_decide_eq_true (by kernel_rfl)) (by kernel_rfl) (by kernel_rfl) (fun K hK => ?_)
    simp only [List.getElem_toArray, List.getElem_cons_succ, List.getElem_cons_zero]
    go_simp
    refine hK.out _ _ (.inl rfl) ?_
    clear hK K
    simp only [Act.put, List.setIfInBounds_toArray, List.set_cons_zero, List.set_cons_succ]
    refine wpE_done (by kernel_rfl) ?_ _
    go_wp2_with fail
    go_ret
    exact ⟨by unfold txt; rw [show (⟨#[60]⟩ : ByteArray) = ⟨[(60 : UInt8)].toArray⟩ from rfl, bytes_app, bytes_app]; simp, bthen hal hdr⟩
  | thn a a' ih0 ih1 =>
    intro A b o c w hf hs hc hR
    obtain ⟨hf0, hf1⟩ := hf
    have hR' : MkR w w.heap.size b o A ((a.marks ++ a'.marks) ++ [⟨1, 0, 0⟩]) := hR
    obtain ⟨rfl, hbl, d0, d1, d2⟩ := mk_end hR'
    obtain ⟨hRa, hRb⟩ := mk_app (mk_app hR').1
    have hml := a.marks_len
    have hml' := a'.marks_len
    obtain ⟨n, hn⟩ : ∃ n, a.marks.length = n := ⟨_, rfl⟩
    obtain ⟨n', hn'⟩ : ∃ n, a'.marks.length = n := ⟨_, rfl⟩
    simp only [Tm.size] at hs
    have hn20 : n + n' ≤ 20 := by rw [← hn, hml, ← hn', hml']; omega
    have hn1 : 1 ≤ n ∧ 1 ≤ n' := by rw [← hn, hml, ← hn', hml']; cases a <;> cases a' <;> simp [Tm.size]
    have hlen : (Tm.thn a a').marks.length = n + n' + 1 := by simp [Tm.marks, hn, hn']; omega
    rw [hlen] at hc ⊢
    rw [List.length_append, hn, hn'] at d0 d1 d2
    rw [hn] at hRb
    have hh0 := fun wq hq => l11Held_q a 0 (by omega) (some ⟨b, o, none⟩) b o c wq hf0 (by omega) hq (fun wp hp => ih0 (some ⟨b, o, none⟩) b o c wp hf0 (by omega) (by omega) hp)
    have hh1 := fun wq hq => l11Held_q a' 1 (by omega) (some ⟨b, o + n * 3, none⟩) b (o + n * 3) (c - n) wq hf1 (by omega) hq (fun wp hp => ih1 (some ⟨b, o + n * 3, none⟩) b (o + n * 3) (c - n) wp hf1 (by omega) (by omega) hp)
    obtain ⟨x, hx⟩ : ∃ x, brk (decide (a.binds < 0)) a.text = x := ⟨_, rfl⟩
    obtain ⟨y, hy⟩ : ∃ y, brk (decide (a'.binds < 1)) a'.text = y := ⟨_, rfl⟩
    have ht : (Tm.thn a a').text = x ++ 59 :: y := by rw [← hx, ← hy]; simp [Tm.text, brk]
    have hxl : x.length ≤ 300 := by rw [← hx]; have := brk_len (decide (a.binds < 0)) a.text; have := text_len hf0; omega
    have hyl : y.length ≤ 300 := by rw [← hy]; have := brk_len (decide (a'.binds < 1)) a'.text; have := text_len hf1; omega
    rw [hx, hn] at hh0
    rw [hy, hn'] at hh1
    have hst := fun wq hq => l11Starts_c a' (Tm.thn a a').marks n (fun j x hx => by
      show ((a.marks ++ a'.marks) ++ [_])[n + j]? = some x
      rw [List.append_assoc, List.getElem?_append_right (by omega), hn, Nat.add_sub_cancel_left, List.getElem?_append_left (List.getElem?_eq_some_iff.1 hx).1]; exact hx) (by omega) (((n + n' : Nat) : Int) - 1) (by rw [← hml', hn']; omega) (some ⟨b, o, none⟩) b o c _ wq (Nat.le_refl _) hq (by rw [hlen]; omega)
    rw [hlen] at hst
    obtain ⟨hn1a, hn1b⟩ := hn1
    have kk1 : n ≤ c := by omega
    have kk2 : 0 ≤ (n : Int) + (n' : Int) ∧ (n : Int) + (n' : Int) ≤ (c : Int) := by omega
    have kk3 : n ≤ ((n : Int) + (n' : Int)).toNat := by omega
    have kk4 : ¬ c = n := by omega
    have kk5 : ((n : Int) + (n' : Int)).toNat - n = n' := by omega
    have Hst := hide hst
    have Hc := hide hh0
    have Hc1 := hide hh1
    rw [ht]
    have hal : Below w.heap.size w (w.alloc (.cells #[.int .i64 1, .int .i64 0, .int .i64 0] 72)) := by go_grown
    have hM := mb_new w ⟨1, 0, 0⟩ 72
    have hRs := And.intro ((hRa.below hal).more hal.size) (And.intro ((hRb.below hal).more hal.size) ((hR.below hal).more hal.size))
    clear hR hR' hml hml' hn hn' hlen hh0 hh1 hst ih0 ih1 hRa hRb hx hy ht
    go_enter Try.func40, Try.ntmps40
    go_upto_region 3 with fail
    generalize w.alloc (.cells #[.int .i64 1, .int .i64 0, .int .i64 0] 72) = W at hal hM hRs ⊢
    generalize w.heap.size = V at hM ⊢
    have v0 := hM.c0
    have v1 := hM.c1
    have v2 := hM.c2
    dsimp only at v0 v1 v2
    obtain ⟨hRa2, hRb2, hRt2⟩ := hRs
    go_upto_region 12 with (go_at_call 46; refine (Hst.out _ hRt2).mono ?_; rintro e w9 ⟨rfl, hw9⟩; obtain rfl := hw9.symm; clear hw9)
    refine wp_regionE (fun w' => w'.cell? ⟨V, 1, none⟩ = some (.int .i64 0) ∧ w'.cell? ⟨V, 2, none⟩ = some (.int .i64 0)) 11 (by kernel_rfl) ?_
    change wpE _ _ _ _ _ _ (11 + 1) #[false, false, false, false, false, false, false, false, false, false, false, false] _ _
    have hdr : Below W.heap.size W W.drew := by go_grown
    have hMd := hM.below hdr
    generalize W.drew = wd at hdr hMd ⊢
    have hS0 : wd.cell? ⟨V, 1, none⟩ = some (.int .i64 0) ∧ wd.cell? ⟨V, 2, none⟩ = some (.int .i64 0) := ⟨hMd.c1, hMd.c2⟩
    replace hRa2 := (CsR.below hRa2 hdr).more hdr.size
    replace hRb2 := (CsR.below hRb2 hdr).more hdr.size
    refine wpE_take' (v := ?_) 0 [11] (of_decide_eq_true (by kernel_rfl)) (by kernel_rfl) (by kernel_rfl) (by kernel_rfl) (by kernel_rfl) (fun _ _ _ h => h) (by kernel_rfl) ?_ hS0 ?_
    rotate_left
    · intro w' hSw
      obtain ⟨hs0, hs1⟩ := hSw
      simp only [List.getElem_toArray, List.getElem_cons_succ, List.getElem_cons_zero]
      go_simp
      try simp only [if_pos kk1, if_pos kk2, if_pos kk3, if_neg kk4, kk5]
      all_goals with_reducible rfl
    simp only [List.getElem_toArray, List.getElem_cons_succ, List.getElem_cons_zero, Act.put, List.setIfInBounds_toArray, List.set_cons_zero, List.set_cons_succ]
    refine wpE_take' (v := ?_) 1 [11] (of_decide_eq_true (by kernel_rfl)) (by kernel_rfl) (by kernel_rfl) (by kernel_rfl) (by kernel_rfl) (fun _ _ _ h => h) (by kernel_rfl) ?_ hS0 ?_
    rotate_left
    · intro w' hSw
      obtain ⟨hs0, hs1⟩ := hSw
      simp only [List.getElem_toArray, List.getElem_cons_succ, List.getElem_cons_zero]
      go_simp
      try simp only [if_pos kk1, if_pos kk2, if_pos kk3, if_neg kk4, kk5]
      all_goals with_reducible rfl
    simp only [List.getElem_toArray, List.getElem_cons_succ, List.getElem_cons_zero, Act.put, List.setIfInBounds_toArray, List.set_cons_zero, List.set_cons_succ]
    refine wpE_take' (v := ?_) 2 [11] (of_decide_eq_true (by kernel_rfl)) (by kernel_rfl) (by kernel_rfl) (by kernel_rfl) (by kernel_rfl) (fun _ _ _ h => h) (by kernel_rfl) ?_ hS0 ?_
    rotate_left
    · intro w' hSw
      obtain ⟨hs0, hs1⟩ := hSw
      simp only [List.getElem_toArray, List.getElem_cons_succ, List.getElem_cons_zero]
      go_simp
      try simp only [if_pos kk1, if_pos kk2, if_pos kk3, if_neg kk4, kk5]
      all_goals with_reducible rfl
    simp only [List.getElem_toArray, List.getElem_cons_succ, List.getElem_cons_zero, Act.put, List.setIfInBounds_toArray, List.set_cons_zero, List.set_cons_succ]
    refine wpE_take' (v := ?_) 5 [11] (of_decide_eq_true (by kernel_rfl)) (by kernel_rfl) (by kernel_rfl) (by kernel_rfl) (by kernel_rfl) (fun _ _ _ h => h) (by kernel_rfl) ?_ hS0 ?_
    rotate_left
    · intro w' hSw
      obtain ⟨hs0, hs1⟩ := hSw
      simp only [List.getElem_toArray, List.getElem_cons_succ, List.getElem_cons_zero]
      go_simp
      try simp only [if_pos kk1, if_pos kk2, if_pos kk3, if_neg kk4, kk5]
      all_goals with_reducible rfl
    simp only [List.getElem_toArray, List.getElem_cons_succ, List.getElem_cons_zero, Act.put, List.setIfInBounds_toArray, List.set_cons_zero, List.set_cons_succ]
    refine wpE_take' (v := ?_) 6 [11] (of_decide_eq_true (by kernel_rfl)) (by kernel_rfl) (by kernel_rfl) (by kernel_rfl) (by kernel_rfl) (fun _ _ _ h => h) (by kernel_rfl) ?_ hS0 ?_
    rotate_left
    · intro w' hSw
      obtain ⟨hs0, hs1⟩ := hSw
      simp only [List.getElem_toArray, List.getElem_cons_succ, List.getElem_cons_zero]
      go_simp
      try simp only [if_pos kk1, if_pos kk2, if_pos kk3, if_neg kk4, kk5]
      all_goals with_reducible rfl
    simp only [List.getElem_toArray, List.getElem_cons_succ, List.getElem_cons_zero, Act.put, List.setIfInBounds_toArray, List.set_cons_zero, List.set_cons_succ]
    refine wpE_take' (v := ?_) 7 [11] (of_decide_eq_true (by kernel_rfl)) (by kernel_rfl) (by kernel_rfl) (by kernel_rfl) (by kernel_rfl) (fun _ _ _ h => h) (by kernel_rfl) ?_ hS0 ?_
    rotate_left
    · intro w' hSw
      obtain ⟨hs0, hs1⟩ := hSw
      simp only [List.getElem_toArray, List.getElem_cons_succ, List.getElem_cons_zero]
      go_simp
      try simp only [if_pos kk1, if_pos kk2, if_pos kk3, if_neg kk4, kk5]
      all_goals with_reducible rfl
    simp only [List.getElem_toArray, List.getElem_cons_succ, List.getElem_cons_zero, Act.put, List.setIfInBounds_toArray, List.set_cons_zero, List.set_cons_succ]
    refine wpE_take' (v := ?_) 8 [11] (of_decide_eq_true (by kernel_rfl)) (by kernel_rfl) (by kernel_rfl) (by kernel_rfl) (by kernel_rfl) (fun _ _ _ h => h) (by kernel_rfl) ?_ hS0 ?_
    rotate_left
    · intro w' hSw
      obtain ⟨hs0, hs1⟩ := hSw
      simp only [List.getElem_toArray, List.getElem_cons_succ, List.getElem_cons_zero]
      go_simp
      try simp only [if_pos kk1, if_pos kk2, if_pos kk3, if_neg kk4, kk5]
      all_goals with_reducible rfl
    simp only [List.getElem_toArray, List.getElem_cons_succ, List.getElem_cons_zero, Act.put, List.setIfInBounds_toArray, List.set_cons_zero, List.set_cons_succ]
    refine wpE_step' 3 (of_decide_eq_true (by kernel_rfl)) (by kernel_rfl) (by kernel_rfl) (fun K hK => ?_)
    simp only [List.getElem_toArray, List.getElem_cons_succ, List.getElem_cons_zero]
    go_simp
    go_at_call 45
    refine (Hc.out _ hRa2).mono ?_
    rintro e w2 ⟨rfl, hb2⟩
    unfold txt
    replace hMd := hMd.below hb2
    replace hdr := bthen hdr hb2
    refine hK.out _ _ (.inr ⟨hMd.c1, hMd.c2⟩) ?_
    clear hK K hS0
    simp only [Act.put, List.setIfInBounds_toArray, List.set_cons_zero, List.set_cons_succ]
    have hS0 : w2.cell? ⟨V, 1, none⟩ = some (.int .i64 0) ∧ w2.cell? ⟨V, 2, none⟩ = some (.int .i64 0) := ⟨hMd.c1, hMd.c2⟩
    replace hRb2 := (CsR.below hRb2 hb2).more hb2.size
    clear hb2
    refine wpE_take' (v := ?_) 4 [10, 11] (of_decide_eq_true (by kernel_rfl)) (by kernel_rfl) (by kernel_rfl) (by kernel_rfl) (by kernel_rfl) (fun _ _ _ h => h) (by kernel_rfl) ?_ hS0 ?_
    rotate_left
    · intro w' hSw
      obtain ⟨hs0, hs1⟩ := hSw
      simp only [List.getElem_toArray, List.getElem_cons_succ, List.getElem_cons_zero]
      go_simp
      try rw [if_neg (by omega)]
      all_goals with_reducible rfl
    simp only [List.getElem_toArray, List.getElem_cons_succ, List.getElem_cons_zero, Act.put, List.setIfInBounds_toArray, List.set_cons_zero, List.set_cons_succ]
    refine wpE_step' 9 (of_decide_eq_true (by kernel_rfl)) (by kernel_rfl) (by kernel_rfl) (fun K hK => ?_)
    simp only [List.getElem_toArray, List.getElem_cons_succ, List.getElem_cons_zero]
    go_simp
    go_at_call 45
    refine (Hc1.out _ hRb2).mono ?_
    rintro e w2 ⟨rfl, hb2⟩
    unfold txt
    replace hMd := hMd.below hb2
    replace hdr := bthen hdr hb2
    refine hK.out _ _ (.inr ⟨hMd.c1, hMd.c2⟩) ?_
    clear hK K hS0
    simp only [Act.put, List.setIfInBounds_toArray, List.set_cons_zero, List.set_cons_succ]
    have hS0 : w2.cell? ⟨V, 1, none⟩ = some (.int .i64 0) ∧ w2.cell? ⟨V, 2, none⟩ = some (.int .i64 0) := ⟨hMd.c1, hMd.c2⟩
    clear hb2
    refine wpE_take' (v := ?_) 10 [11] (of_decide_eq_true (by kernel_rfl)) (by kernel_rfl) (by kernel_rfl) (by kernel_rfl) (by kernel_rfl) (fun _ _ _ h => h) (by kernel_rfl) ?_ hS0 ?_
    rotate_left
    · intro w' hSw
      obtain ⟨hs0, hs1⟩ := hSw
      simp only [List.getElem_toArray, List.getElem_cons_succ, List.getElem_cons_zero]
      go_simp
      try rw [if_neg (by omega)]
      all_goals with_reducible rfl
    simp only [List.getElem_toArray, List.getElem_cons_succ, List.getElem_cons_zero, Act.put, List.setIfInBounds_toArray, List.set_cons_zero, List.set_cons_succ]
    refine wpE_step' 11 (of_decide_eq_true (by kernel_rfl)) (by kernel_rfl) (by kernel_rfl) (fun K hK => ?_)
    simp only [List.getElem_toArray, List.getElem_cons_succ, List.getElem_cons_zero]
    go_simp
    refine hK.out _ _ (.inl rfl) ?_
    clear hK K
    simp only [Act.put, List.setIfInBounds_toArray, List.set_cons_zero, List.set_cons_succ]
    refine wpE_done (by kernel_rfl) ?_ _
    go_wp2_with fail
    go_ret
    exact ⟨by unfold txt; rw [show (⟨#[59]⟩ : ByteArray) = ⟨[(59 : UInt8)].toArray⟩ from rfl, bytes_app, bytes_app]; simp, bthen hal hdr⟩
  | bth a a' ih0 ih1 =>
    intro A b o c w hf hs hc hR
    obtain ⟨hf0, hf1⟩ := hf
    have hR' : MkR w w.heap.size b o A ((a.marks ++ a'.marks) ++ [⟨2, 0, 0⟩]) := hR
    obtain ⟨rfl, hbl, d0, d1, d2⟩ := mk_end hR'
    obtain ⟨hRa, hRb⟩ := mk_app (mk_app hR').1
    have hml := a.marks_len
    have hml' := a'.marks_len
    obtain ⟨n, hn⟩ : ∃ n, a.marks.length = n := ⟨_, rfl⟩
    obtain ⟨n', hn'⟩ : ∃ n, a'.marks.length = n := ⟨_, rfl⟩
    simp only [Tm.size] at hs
    have hn20 : n + n' ≤ 20 := by rw [← hn, hml, ← hn', hml']; omega
    have hn1 : 1 ≤ n ∧ 1 ≤ n' := by rw [← hn, hml, ← hn', hml']; cases a <;> cases a' <;> simp [Tm.size]
    have hlen : (Tm.bth a a').marks.length = n + n' + 1 := by simp [Tm.marks, hn, hn']; omega
    rw [hlen] at hc ⊢
    rw [List.length_append, hn, hn'] at d0 d1 d2
    rw [hn] at hRb
    have hh0 := fun wq hq => l11Held_q a 1 (by omega) (some ⟨b, o, none⟩) b o c wq hf0 (by omega) hq (fun wp hp => ih0 (some ⟨b, o, none⟩) b o c wp hf0 (by omega) (by omega) hp)
    have hh1 := fun wq hq => l11Held_q a' 2 (by omega) (some ⟨b, o + n * 3, none⟩) b (o + n * 3) (c - n) wq hf1 (by omega) hq (fun wp hp => ih1 (some ⟨b, o + n * 3, none⟩) b (o + n * 3) (c - n) wp hf1 (by omega) (by omega) hp)
    obtain ⟨x, hx⟩ : ∃ x, brk (decide (a.binds < 1)) a.text = x := ⟨_, rfl⟩
    obtain ⟨y, hy⟩ : ∃ y, brk (decide (a'.binds < 2)) a'.text = y := ⟨_, rfl⟩
    have ht : (Tm.bth a a').text = x ++ 38 :: y := by rw [← hx, ← hy]; simp [Tm.text, brk]
    have hxl : x.length ≤ 300 := by rw [← hx]; have := brk_len (decide (a.binds < 1)) a.text; have := text_len hf0; omega
    have hyl : y.length ≤ 300 := by rw [← hy]; have := brk_len (decide (a'.binds < 2)) a'.text; have := text_len hf1; omega
    rw [hx, hn] at hh0
    rw [hy, hn'] at hh1
    have hst := fun wq hq => l11Starts_c a' (Tm.bth a a').marks n (fun j x hx => by
      show ((a.marks ++ a'.marks) ++ [_])[n + j]? = some x
      rw [List.append_assoc, List.getElem?_append_right (by omega), hn, Nat.add_sub_cancel_left, List.getElem?_append_left (List.getElem?_eq_some_iff.1 hx).1]; exact hx) (by omega) (((n + n' : Nat) : Int) - 1) (by rw [← hml', hn']; omega) (some ⟨b, o, none⟩) b o c _ wq (Nat.le_refl _) hq (by rw [hlen]; omega)
    rw [hlen] at hst
    obtain ⟨hn1a, hn1b⟩ := hn1
    have kk1 : n ≤ c := by omega
    have kk2 : 0 ≤ (n : Int) + (n' : Int) ∧ (n : Int) + (n' : Int) ≤ (c : Int) := by omega
    have kk3 : n ≤ ((n : Int) + (n' : Int)).toNat := by omega
    have kk4 : ¬ c = n := by omega
    have kk5 : ((n : Int) + (n' : Int)).toNat - n = n' := by omega
    have Hst := hide hst
    have Hc := hide hh0
    have Hc1 := hide hh1
    rw [ht]
    have hal : Below w.heap.size w (w.alloc (.cells #[.int .i64 2, .int .i64 0, .int .i64 0] 72)) := by go_grown
    have hM := mb_new w ⟨2, 0, 0⟩ 72
    have hRs := And.intro ((hRa.below hal).more hal.size) (And.intro ((hRb.below hal).more hal.size) ((hR.below hal).more hal.size))
    clear hR hR' hml hml' hn hn' hlen hh0 hh1 hst ih0 ih1 hRa hRb hx hy ht
    go_enter Try.func40, Try.ntmps40
    go_upto_region 3 with fail
    generalize w.alloc (.cells #[.int .i64 2, .int .i64 0, .int .i64 0] 72) = W at hal hM hRs ⊢
    generalize w.heap.size = V at hM ⊢
    have v0 := hM.c0
    have v1 := hM.c1
    have v2 := hM.c2
    dsimp only at v0 v1 v2
    obtain ⟨hRa2, hRb2, hRt2⟩ := hRs
    go_upto_region 13 with (go_at_call 46; refine (Hst.out _ hRt2).mono ?_; rintro e w9 ⟨rfl, hw9⟩; obtain rfl := hw9.symm; clear hw9)
    refine wp_regionE (fun w' => w'.cell? ⟨V, 1, none⟩ = some (.int .i64 0) ∧ w'.cell? ⟨V, 2, none⟩ = some (.int .i64 0)) 11 (by kernel_rfl) ?_
    change wpE _ _ _ _ _ _ (11 + 1) #[false, false, false, false, false, false, false, false, false, false, false, false] _ _
    have hdr : Below W.heap.size W W.drew := by go_grown
    have hMd := hM.below hdr
    generalize W.drew = wd at hdr hMd ⊢
    have hS0 : wd.cell? ⟨V, 1, none⟩ = some (.int .i64 0) ∧ wd.cell? ⟨V, 2, none⟩ = some (.int .i64 0) := ⟨hMd.c1, hMd.c2⟩
    replace hRa2 := (CsR.below hRa2 hdr).more hdr.size
    replace hRb2 := (CsR.below hRb2 hdr).more hdr.size
    refine wpE_take' (v := ?_) 0 [11] (of_decide_eq_true (by kernel_rfl)) (by kernel_rfl) (by kernel_rfl) (by kernel_rfl) (by kernel_rfl) (fun _ _ _ h => h) (by kernel_rfl) ?_ hS0 ?_
    rotate_left
    · intro w' hSw
      obtain ⟨hs0, hs1⟩ := hSw
      simp only [List.getElem_toArray, List.getElem_cons_succ, List.getElem_cons_zero]
      go_simp
      try simp only [if_pos kk1, if_pos kk2, if_pos kk3, if_neg kk4, kk5]
      all_goals with_reducible rfl
    simp only [List.getElem_toArray, List.getElem_cons_succ, List.getElem_cons_zero, Act.put, List.setIfInBounds_toArray, List.set_cons_zero, List.set_cons_succ]
    refine wpE_take' (v := ?_) 1 [11] (of_decide_eq_true (by kernel_rfl)) (by kernel_rfl) (by kernel_rfl) (by kernel_rfl) (by kernel_rfl) (fun _ _ _ h => h) (by kernel_rfl) ?_ hS0 ?_
    rotate_left
    · intro w' hSw
      obtain ⟨hs0, hs1⟩ := hSw
      simp only [List.getElem_toArray, List.getElem_cons_succ, List.getElem_cons_zero]
      go_simp
      try simp only [if_pos kk1, if_pos kk2, if_pos kk3, if_neg kk4, kk5]
      all_goals with_reducible rfl
    simp only [List.getElem_toArray, List.getElem_cons_succ, List.getElem_cons_zero, Act.put, List.setIfInBounds_toArray, List.set_cons_zero, List.set_cons_succ]
    refine wpE_take' (v := ?_) 2 [11] (of_decide_eq_true (by kernel_rfl)) (by kernel_rfl) (by kernel_rfl) (by kernel_rfl) (by kernel_rfl) (fun _ _ _ h => h) (by kernel_rfl) ?_ hS0 ?_
    rotate_left
    · intro w' hSw
      obtain ⟨hs0, hs1⟩ := hSw
      simp only [List.getElem_toArray, List.getElem_cons_succ, List.getElem_cons_zero]
      go_simp
      try simp only [if_pos kk1, if_pos kk2, if_pos kk3, if_neg kk4, kk5]
      all_goals with_reducible rfl
    simp only [List.getElem_toArray, List.getElem_cons_succ, List.getElem_cons_zero, Act.put, List.setIfInBounds_toArray, List.set_cons_zero, List.set_cons_succ]
    refine wpE_take' (v := ?_) 5 [11] (of_decide_eq_true (by kernel_rfl)) (by kernel_rfl) (by kernel_rfl) (by kernel_rfl) (by kernel_rfl) (fun _ _ _ h => h) (by kernel_rfl) ?_ hS0 ?_
    rotate_left
    · intro w' hSw
      obtain ⟨hs0, hs1⟩ := hSw
      simp only [List.getElem_toArray, List.getElem_cons_succ, List.getElem_cons_zero]
      go_simp
      try simp only [if_pos kk1, if_pos kk2, if_pos kk3, if_neg kk4, kk5]
      all_goals with_reducible rfl
    simp only [List.getElem_toArray, List.getElem_cons_succ, List.getElem_cons_zero, Act.put, List.setIfInBounds_toArray, List.set_cons_zero, List.set_cons_succ]
    refine wpE_take' (v := ?_) 6 [11] (of_decide_eq_true (by kernel_rfl)) (by kernel_rfl) (by kernel_rfl) (by kernel_rfl) (by kernel_rfl) (fun _ _ _ h => h) (by kernel_rfl) ?_ hS0 ?_
    rotate_left
    · intro w' hSw
      obtain ⟨hs0, hs1⟩ := hSw
      simp only [List.getElem_toArray, List.getElem_cons_succ, List.getElem_cons_zero]
      go_simp
      try simp only [if_pos kk1, if_pos kk2, if_pos kk3, if_neg kk4, kk5]
      all_goals with_reducible rfl
    simp only [List.getElem_toArray, List.getElem_cons_succ, List.getElem_cons_zero, Act.put, List.setIfInBounds_toArray, List.set_cons_zero, List.set_cons_succ]
    refine wpE_take' (v := ?_) 7 [11] (of_decide_eq_true (by kernel_rfl)) (by kernel_rfl) (by kernel_rfl) (by kernel_rfl) (by kernel_rfl) (fun _ _ _ h => h) (by kernel_rfl) ?_ hS0 ?_
    rotate_left
    · intro w' hSw
      obtain ⟨hs0, hs1⟩ := hSw
      simp only [List.getElem_toArray, List.getElem_cons_succ, List.getElem_cons_zero]
      go_simp
      try simp only [if_pos kk1, if_pos kk2, if_pos kk3, if_neg kk4, kk5]
      all_goals with_reducible rfl
    simp only [List.getElem_toArray, List.getElem_cons_succ, List.getElem_cons_zero, Act.put, List.setIfInBounds_toArray, List.set_cons_zero, List.set_cons_succ]
    refine wpE_take' (v := ?_) 8 [11] (of_decide_eq_true (by kernel_rfl)) (by kernel_rfl) (by kernel_rfl) (by kernel_rfl) (by kernel_rfl) (fun _ _ _ h => h) (by kernel_rfl) ?_ hS0 ?_
    rotate_left
    · intro w' hSw
      obtain ⟨hs0, hs1⟩ := hSw
      simp only [List.getElem_toArray, List.getElem_cons_succ, List.getElem_cons_zero]
      go_simp
      try simp only [if_pos kk1, if_pos kk2, if_pos kk3, if_neg kk4, kk5]
      all_goals with_reducible rfl
    simp only [List.getElem_toArray, List.getElem_cons_succ, List.getElem_cons_zero, Act.put, List.setIfInBounds_toArray, List.set_cons_zero, List.set_cons_succ]
    refine wpE_step' 3 (of_decide_eq_true (by kernel_rfl)) (by kernel_rfl) (by kernel_rfl) (fun K hK => ?_)
    simp only [List.getElem_toArray, List.getElem_cons_succ, List.getElem_cons_zero]
    go_simp
    go_at_call 45
    refine (Hc.out _ hRa2).mono ?_
    rintro e w2 ⟨rfl, hb2⟩
    unfold txt
    replace hMd := hMd.below hb2
    replace hdr := bthen hdr hb2
    refine hK.out _ _ (.inr ⟨hMd.c1, hMd.c2⟩) ?_
    clear hK K hS0
    simp only [Act.put, List.setIfInBounds_toArray, List.set_cons_zero, List.set_cons_succ]
    have hS0 : w2.cell? ⟨V, 1, none⟩ = some (.int .i64 0) ∧ w2.cell? ⟨V, 2, none⟩ = some (.int .i64 0) := ⟨hMd.c1, hMd.c2⟩
    replace hRb2 := (CsR.below hRb2 hb2).more hb2.size
    clear hb2
    refine wpE_take' (v := ?_) 4 [10, 11] (of_decide_eq_true (by kernel_rfl)) (by kernel_rfl) (by kernel_rfl) (by kernel_rfl) (by kernel_rfl) (fun _ _ _ h => h) (by kernel_rfl) ?_ hS0 ?_
    rotate_left
    · intro w' hSw
      obtain ⟨hs0, hs1⟩ := hSw
      simp only [List.getElem_toArray, List.getElem_cons_succ, List.getElem_cons_zero]
      go_simp
      try rw [if_neg (by omega)]
      all_goals with_reducible rfl
    simp only [List.getElem_toArray, List.getElem_cons_succ, List.getElem_cons_zero, Act.put, List.setIfInBounds_toArray, List.set_cons_zero, List.set_cons_succ]
    refine wpE_step' 9 (of_decide_eq_true (by kernel_rfl)) (by kernel_rfl) (by kernel_rfl) (fun K hK => ?_)
    simp only [List.getElem_toArray, List.getElem_cons_succ, List.getElem_cons_zero]
    go_simp
    go_at_call 45
    refine (Hc1.out _ hRb2).mono ?_
    rintro e w2 ⟨rfl, hb2⟩
    unfold txt
    replace hMd := hMd.below hb2
    replace hdr := bthen hdr hb2
    refine hK.out _ _ (.inr ⟨hMd.c1, hMd.c2⟩) ?_
    clear hK K hS0
    simp only [Act.put, List.setIfInBounds_toArray, List.set_cons_zero, List.set_cons_succ]
    have hS0 : w2.cell? ⟨V, 1, none⟩ = some (.int .i64 0) ∧ w2.cell? ⟨V, 2, none⟩ = some (.int .i64 0) := ⟨hMd.c1, hMd.c2⟩
    clear hb2
    refine wpE_take' (v := ?_) 10 [11] (of_decide_eq_true (by kernel_rfl)) (by kernel_rfl) (by kernel_rfl) (by kernel_rfl) (by kernel_rfl) (fun _ _ _ h => h) (by kernel_rfl) ?_ hS0 ?_
    rotate_left
    · intro w' hSw
      obtain ⟨hs0, hs1⟩ := hSw
      simp only [List.getElem_toArray, List.getElem_cons_succ, List.getElem_cons_zero]
      go_simp
      try rw [if_neg (by omega)]
      all_goals with_reducible rfl
    simp only [List.getElem_toArray, List.getElem_cons_succ, List.getElem_cons_zero, Act.put, List.setIfInBounds_toArray, List.set_cons_zero, List.set_cons_succ]
    refine wpE_step' 11 (of_decide_eq_true (by kernel_rfl)) (by kernel_rfl) (by kernel_rfl) (fun K hK => ?_)
    simp only [List.getElem_toArray, List.getElem_cons_succ, List.getElem_cons_zero]
    go_simp
    refine hK.out _ _ (.inl rfl) ?_
    clear hK K
    simp only [Act.put, List.setIfInBounds_toArray, List.set_cons_zero, List.set_cons_succ]
    refine wpE_done (by kernel_rfl) ?_ _
    go_wp2_with fail
    go_ret
    exact ⟨by unfold txt; rw [show (⟨#[38]⟩ : ByteArray) = ⟨[(38 : UInt8)].toArray⟩ from rfl, bytes_app, bytes_app]; simp, bthen hal hdr⟩
set_option maxHeartbeats 1000000 in
theorem sTermText_q (t : List Mk) (A : Option Addr) (b o c B : Nat) (w : World) (hc : t.length ≤ c) (hB : B ≤ w.heap.size) (hR : MkR w B b o A t) (hn : t.length ≤ 2000000) :
    Calls Try.prog 29 #[.slice A t.length c] w fun e w' => e = .returned (txt (termText t)) ∧ Below w.heap.size w w' := by
  cases ht : termOf t with
  | none =>
    have hl : termText t = [] := by unfold termText; rw [ht]
    have hk : termOk t = false := by unfold termOk; rw [ht]; rfl
    rw [hl]
    have Hk := hide hk
    clear ht hl hk
    go_enter Try.func29, Try.ntmps29
    go_wp2_with (go_at_call 39; go_fit (sTermOk_c t A b o c B w hB hR hn); rintro e w2 ⟨rfl, hb⟩; rw [Hk.out])
    go_ret
    exact ⟨rfl, hb⟩
  | some a =>
    have hl : termText t = a.text := by unfold termText; rw [ht]
    have hk : termOk t = true := by unfold termOk; rw [ht]; rfl
    rw [hl]
    obtain ⟨hf, hm, h11⟩ := term_back ht
    have hsz : a.size ≤ 20 := by rw [← Tm.marks_len, hm]; omega
    have hcall := fun wq hq => l11Text_q a A b o c wq hf hsz (by rw [hm]; exact hc) hq
    rw [hm] at hcall
    have Hc := hide hcall
    have Hk := hide hk
    clear ht hl hm h11 hk hcall
    go_enter Try.func29, Try.ntmps29
    go_wp2_with (first
      | (go_at_call 39; go_fit (sTermOk_c t A b o c B w hB hR hn); rintro e w2 ⟨rfl, hb⟩; rw [Hk.out])
      | (go_at_call 40; refine (Hc.out _ (((hR.more hB).below hb).more hb.size)).mono ?_; rintro e w3 ⟨rfl, hb3⟩))
    go_ret
    exact ⟨rfl, bthen hb hb3⟩
end Go.Proofs.Ytmnajkhoacogjaa
