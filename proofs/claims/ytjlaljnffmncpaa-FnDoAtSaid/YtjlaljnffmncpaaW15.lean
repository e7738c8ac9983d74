/-
  The law of DoAt: its walk.
-/
import Derived.Test.YtjlaljnffmncpaaD21
namespace Go.Proofs.Ytjlaljnffmncpaa
set_option linter.unusedVariables false
set_option linter.unusedSimpArgs false
open Go.RowKit Pp

/-- What the law asks of a done point. -/
theorem doAt_no {p : Pl} {s q : St} {pt t : Int} (h : doAt p s pt t = (q, false)) : (stateOk p s = true ∧ q = s) ∨ (stateOk p s = false ∧ q = ⟨0, []⟩) := by
  unfold doAt at h
  split at h
  · rename_i hs
    split at h
    · cases (Prod.mk.inj h).2
    · exact .inl ⟨hs, (Prod.mk.inj h).1.symm⟩
  · rename_i hs
    exact .inr ⟨by simpa using hs, (Prod.mk.inj h).1.symm⟩
theorem doAt_law {p : Pl} {s q : St} {pt t : Int} (h : doAt p s pt t = (q, true)) : stateOk p q = true ∧ q.now = t ∧ q.done.length = s.done.length ∧ ∃ k : Nat, pt = k ∧ k < q.done.length ∧ q.done.getD k 0 = t ∧ (goesOn p s = true → goesOn p q = true) := by
  have hok := doAt_ok h
  obtain ⟨hm, hq, h0, hl, _⟩ := doAt_yes h
  obtain ⟨k, rfl⟩ := Int.eq_ofNat_of_zero_le h0
  simp only [Int.toNat_natCast] at hq hl
  refine ⟨hok, by rw [hq], by rw [hq]; simp, k, rfl, by rw [hq]; simpa using hl, ?_, fun hg => ?_⟩
  · rw [hq]
    simp [List.getD_eq_getElem?_getD, List.getElem?_set, hl]
  · obtain ⟨hs, y, hy⟩ := goesOn_iff.1 hg
    rw [hq]
    have hok' := hok
    rw [hq] at hok'
    exact goesOn_iff.2 ⟨stateOk_iff.1 hok', doAt_goes hs hy hm⟩

set_option maxHeartbeats 1000000 in
set_option maxRecDepth 100000 in
theorem sameInts_len (xs ys : List Int) (h : xs.length ≠ ys.length) (A A' : Option Addr) (c c' : Nat) (w : World) :
    Calls Try.prog 31 #[.slice A xs.length c, .slice A' ys.length c'] w fun e w' => e = .returned (.bool false) ∧ w = w' := by
  have hi : ¬ (xs.length : Int) = (ys.length : Int) := by omega
  go_enter Try.func31, Try.ntmps31
  go_wp2_with fail
  go_ret
  exact ⟨rfl, rfl⟩
set_option maxHeartbeats 1000000 in
set_option maxRecDepth 100000 in
theorem sameEmpty_c (now : Int) (xs : List Int) (r : Bool) (hr : decide (now = 0 ∧ xs = []) = r) (A A' : Option Addr) (b' c c' : Nat) (w : World) (hR' : IntsR w w.heap.size b' 0 A' xs) :
    Calls Try.prog 63 #[.agg #[.int .i64 0, .slice A 0 c], .agg #[.int .i64 now, .slice A' xs.length c']] w fun e w' => e = .returned (.bool r) ∧ Below w.heap.size w w' := by
  have hW : Below w.heap.size w ((w.alloc (.cells #[.int .i64 0, .slice A 0 c] 70)).alloc (.cells #[.int .i64 now, .slice A' xs.length c'] 70)) := by go_grown
  by_cases h1 : now = 0
  · subst h1
    by_cases h2 : xs = []
    · subst h2
      obtain rfl : r = true := by rw [← hr]; simp
      exact sameState_yes 0 [] A A' b' 0 c b' 0 c' _ w (by simp) (Nat.le_refl _) ⟨by simp, by simp, by simp⟩ hR'
    · obtain rfl : r = false := by rw [← hr]; simp [h2]
      have hl : ([] : List Int).length ≠ xs.length := fun e => h2 (List.eq_nil_of_length_eq_zero e.symm)
      have Hl := hide hl
      clear hl hr h2
      go_enter Try.func63, Try.ntmps63
      go_wp2_with (go_at_call 31; go_fit (sameInts_len [] xs Hl.out A A' c c' _); rintro e w5 ⟨rfl, rfl⟩)
      go_ret
      exact ⟨rfl, hW⟩
  · obtain rfl : r = false := by rw [← hr]; simp [h1]
    clear hr
    go_enter Try.func63, Try.ntmps63
    go_wp2_with fail
    go_ret
    exact ⟨rfl, hW⟩

set_option maxHeartbeats 8000000 in
set_option maxRecDepth 100000 in
theorem lawDoAt_c (a0 : Option Addr) (len0 cap0 : Nat) (z0 : List Int) (w : World) (w0 : RowU w a0 len0 cap0 z0) :
    Calls Try.prog 11 #[.slice a0 len0 cap0] w fun e w' => e = .returned (.bool true) ∧ Below w.heap.size w w' := by
  obtain ⟨hlc, hAs, hby⟩ := w0.bytes
  clear w0
  by_cases hlen : (1048576 : Int) < (len0 : Int)
  · go_enter Try.func11, Try.ntmps11
    go_wp2_with fail
    go_ret
    exact ⟨rfl, Below.refl _ _⟩
  · go_enter Try.func11, Try.ntmps11
    go_upto_region 4 with (go_at_call 60; go_fit (drawDoAt_c a0 len0 cap0 z0 _ (by omega) hlc hAs hby); rintro e w1 ⟨n, A, c, bs, b, now, At, ct, xs, bt, pt, tm, rfl, ⟨hn0, hn7⟩, hbl, hnow, hxl, hpt, hrd, hI, hW⟩)
    have hba : Below w1.heap.size w1 (w1.alloc (.cells #[.int .i64 n, .slice A bs.length c] 25)) := by go_grown
    have hP := (pb_new (n := n) (c := c) (t := 25) hW hrd).alloc (.cells #[.int .i64 now, .slice At xs.length ct] 70)
    have h4 := rs_new (n := now) (c := ct) (t := 70) ((hI.below hba).more hba.size)
    simp only [World.size_alloc] at h4
    generalize (w1.alloc (.cells #[.int .i64 n, .slice A bs.length c] 25)).alloc (.cells #[.int .i64 now, .slice At xs.length ct] 70) = wa at hP h4 ⊢
    generalize w1.heap.size + 1 = X4 at h4 ⊢
    generalize w1.heap.size = X at hP ⊢
    clear hW hrd hlen hby hAs hba hI
    have hbl6 : bs.length ≤ 2000000 := by omega
    have hxl6 : xs.length ≤ 2000000 := by omega
    have p0 := hP.c0
    have p1 := hP.c1
    have s0 := h4.c0
    have s1 := h4.c1
    obtain ⟨q, r, hq⟩ : ∃ q r, doAt ⟨n, bs⟩ ⟨now, xs⟩ pt tm = (q, r) := ⟨_, _, rfl⟩
    have Hq := hide hq
    have hql : q.done.length ≤ 2000000 := by
      cases r
      · rcases doAt_no hq with ⟨_, e⟩ | ⟨_, e⟩ <;> rw [e]
        · exact hxl6
        · exact Nat.zero_le _
      · rw [(doAt_law hq).2.2.1]; exact hxl6
    go_upto_region 5 with (go_at_call 61; go_fit (doAt_c ⟨n, bs⟩ ⟨now, xs⟩ pt tm q r Hq.out A At b 0 c bt 0 ct _ _ hbl6 hxl6 (Nat.le_refl _) hP.rd h4.rd); rintro e w2 ⟨A2, c2, g2, rfl, hr2, _, hb2⟩)
    have hb3 : Below w2.heap.size w2 (w2.alloc (.cells #[.int .i64 q.now, .slice A2 q.done.length c2] 70)) := by go_grown
    have h5 := rs_new (n := q.now) (c := c2) (t := 70) hr2
    replace hP := hP.below (bthen hb2 hb3)
    replace h4 := h4.below (bthen hb2 hb3)
    generalize w2.alloc (.cells #[.int .i64 q.now, .slice A2 q.done.length c2] 70) = w3 at hP h4 h5 ⊢
    generalize w2.heap.size = X5 at h5 ⊢
    clear hr2 hb2 hb3 p0 p1 s0 s1
    have p0 := hP.c0
    have p1 := hP.c1
    have s0 := h4.c0
    have s1 := h4.c1
    go_upto_region 6 with (go_at_call 62; go_fit (sDoAt_c ⟨n, bs⟩ ⟨now, xs⟩ pt tm q r Hq.out A At b 0 c bt 0 ct _ _ hbl6 hxl6 (Nat.le_refl _) hP.rd h4.rd); rintro e w4 ⟨A4, c4, g4, rfl, hr4, _, hb4⟩)
    have hb5 : Below w4.heap.size w4 (w4.alloc (.cells #[.int .i64 q.now, .slice A4 q.done.length c4] 70)) := by go_grown
    have h7 := rs_new (n := q.now) (c := c4) (t := 70) hr4
    replace hP := hP.below (bthen hb4 hb5)
    replace h4 := h4.below (bthen hb4 hb5)
    replace h5 := h5.below (bthen hb4 hb5)
    generalize w4.alloc (.cells #[.int .i64 q.now, .slice A4 q.done.length c4] 70) = w5 at hP h4 h5 h7 ⊢
    generalize w4.heap.size = X7 at h7 ⊢
    clear hr4 hb4 hb5 p0 p1 s0 s1
    have i0 := h5.c0
    have i1 := h5.c1
    have j0 := h7.c0
    have j1 := h7.c1
    go_upto_region 8 with (go_at_call 63; go_fit (sameState_yes q.now q.done A2 A4 g2 0 c2 g4 0 c4 _ _ hql (Nat.le_refl _) h5.rd h7.rd); rintro e w6 ⟨rfl, hb6⟩; replace hP := hP.below hb6; replace h4 := h4.below hb6; replace h5 := h5.below hb6)
    clear i0 i1 j0 j1 h7 hb6
    have p0 := hP.c0
    have p1 := hP.c1
    have s0 := h4.c0
    have s1 := h4.c1
    have i0 := h5.c0
    have i1 := h5.c1
    cases r
    · rcases doAt_no hq with ⟨_, e⟩ | ⟨hso, e⟩
      · subst e
        clear hq
        go_wp2_with (first
          | (go_at_call 63; go_fit (sameState_yes now xs A2 At g2 0 c2 bt 0 ct _ _ hxl6 (Nat.le_refl _) h5.rd h4.rd); rintro e w7 ⟨rfl, hb7⟩; have hP7 := hP.below hb7)
          | (go_at_call 19; go_fit (alive_c _); rintro e w9 ⟨rfl, hb9⟩; have hP9 := hP7.below hb9))
        go_ret
        exact ⟨rfl, hP9.bel⟩
      · subst e
        clear hq
        have Hso := hide hso
        clear hso
        dsimp only [List.length_nil] at h5 i0 i1 ⊢
        obtain ⟨r, hr⟩ : ∃ r, decide (now = 0 ∧ xs = []) = r := ⟨_, rfl⟩
        have Hr := hide hr
        clear hr
        cases r
        · go_wp2_with (first | (go_at_call 63; go_fit (sameEmpty_c now xs _ Hr.out A2 At bt c2 ct _ h4.rd); rintro e w7 ⟨rfl, hb7⟩; have hP7 := hP.below hb7; have h47 := h4.below hb7; have u0 := hP7.c0; have u1 := hP7.c1; have u2 := h47.c0; have u3 := h47.c1) | (go_at_call 64; go_fit (stateOk_c ⟨n, bs⟩ ⟨now, xs⟩ A At b 0 c bt 0 ct _ _ hbl6 hxl6 (Nat.le_refl _) hP7.rd h47.rd); rintro e w8 ⟨rfl, hb8⟩; rw [Hso.out]; have hP8 := hP7.below hb8) | (go_at_call 19; go_fit (alive_c _); rintro e w9 ⟨rfl, hb9⟩; have hP9 := (hP8).below hb9))
          go_ret
          exact ⟨rfl, hP9.bel⟩
        · go_wp2_with (first | (go_at_call 63; go_fit (sameEmpty_c now xs _ Hr.out A2 At bt c2 ct _ h4.rd); rintro e w7 ⟨rfl, hb7⟩; have hP7 := hP.below hb7; have h47 := h4.below hb7; have u0 := hP7.c0; have u1 := hP7.c1; have u2 := h47.c0; have u3 := h47.c1) | (go_at_call 19; go_fit (alive_c _); rintro e w9 ⟨rfl, hb9⟩; have hP9 := (hP7).below hb9))
          go_ret
          exact ⟨rfl, hP9.bel⟩
    · obtain ⟨hso, hqn, hqd, k, rfl, hkl, hkt, hgo⟩ := doAt_law hq
      clear hq
      obtain ⟨qn, qd⟩ := q
      dsimp only at hqn hqd hkl hkt hso h5 i0 i1 hql ⊢
      subst hqn
      obtain rfl := h5.rd.addr (by omega)
      have hkz : (k : Int) < (qd.length : Int) := by omega
      have Hso := hide hso
      have Hkt := hide hkt
      clear hso hkt hqd
      cases hg : goesOn ⟨n, bs⟩ ⟨now, xs⟩
      · have Hg := hide hg
        clear hg hgo
        go_wp2_with (first | (go_at_call 64; go_fit (stateOk_c ⟨n, bs⟩ ⟨qn, qd⟩ A _ b 0 c g2 0 c2 _ _ hbl6 hql (Nat.le_refl _) hP.rd h5.rd); rintro e w7 ⟨rfl, hb7⟩; rw [Hso.out]; have hP7 := hP.below hb7; have h47 := h4.below hb7; have h57 := h5.below hb7; have u0 := hP7.c0; have u1 := hP7.c1; have u2 := h47.c0; have u3 := h47.c1; have u4 := h57.c0; have u5 := h57.c1; have u6 := h57.rd.cell k hkl; rw [Hkt.out] at u6; simp only [Nat.zero_add] at u6) | (go_at_call 65; go_fit (goesOn_c ⟨n, bs⟩ ⟨now, xs⟩ A At b 0 c bt 0 ct _ _ hbl6 hxl6 (Nat.le_refl _) hP7.rd h47.rd); rintro e w8 ⟨rfl, hb8⟩; rw [Hg.out]; have hP8 := hP7.below hb8; have h58 := h57.below hb8; have v0 := hP8.c0; have v1 := hP8.c1; have v2 := h58.c0; have v3 := h58.c1))
        go_ret
        exact ⟨rfl, hP8.bel⟩
      · have Hg := hide hg
        have Hg2 := hide (hgo hg)
        clear hg hgo
        go_wp2_with (first | (go_at_call 64; go_fit (stateOk_c ⟨n, bs⟩ ⟨qn, qd⟩ A _ b 0 c g2 0 c2 _ _ hbl6 hql (Nat.le_refl _) hP.rd h5.rd); rintro e w7 ⟨rfl, hb7⟩; rw [Hso.out]; have hP7 := hP.below hb7; have h47 := h4.below hb7; have h57 := h5.below hb7; have u0 := hP7.c0; have u1 := hP7.c1; have u2 := h47.c0; have u3 := h47.c1; have u4 := h57.c0; have u5 := h57.c1; have u6 := h57.rd.cell k hkl; rw [Hkt.out] at u6; simp only [Nat.zero_add] at u6) | (go_at_call 65; go_fit (goesOn_c ⟨n, bs⟩ ⟨now, xs⟩ A At b 0 c bt 0 ct _ _ hbl6 hxl6 (Nat.le_refl _) hP7.rd h47.rd); rintro e w8 ⟨rfl, hb8⟩; rw [Hg.out]; have hP8 := hP7.below hb8; have h58 := h57.below hb8; have v0 := hP8.c0; have v1 := hP8.c1; have v2 := h58.c0; have v3 := h58.c1) | (go_at_call 65; go_fit (goesOn_c ⟨n, bs⟩ ⟨qn, qd⟩ A _ b 0 c g2 0 c2 _ _ hbl6 hql (Nat.le_refl _) hP8.rd h58.rd); rintro e w9 ⟨rfl, hb9⟩; rw [Hg2.out]; have hP9 := hP8.below hb9))
        go_ret
        exact ⟨rfl, hP9.bel⟩
end Go.Proofs.Ytjlaljnffmncpaa
