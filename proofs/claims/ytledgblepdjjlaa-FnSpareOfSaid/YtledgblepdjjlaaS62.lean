/-
  spec: SpareOf.
-/
import Derived.Test.YtledgblepdjjlaaS61
import Derived.Test.YtledgblepdjjlaaS2c
import Derived.Test.YtledgblepdjjlaaI3
namespace Go.Proofs.Ytledgblepdjjlaa
set_option linter.unusedVariables false
set_option linter.unusedSimpArgs false
open Go.RowKit Pp

theorem lowP_len2 {p q : Pl} {v : Int} {r : Bool} (h : lowP p v = (q, r)) : q.bs.length ≤ 2000000 := by
  unfold lowP at h
  split at h
  · have h1 := (Prod.mk.inj h).1
    unfold toldP at h1
    split at h1
    · rename_i hk
      have := (planOk_iff.1 hk).2.1
      rw [← h1]
      dsimp only at this ⊢
      omega
    · rw [← h1]; exact Nat.zero_le _
  · rw [← (Prod.mk.inj h).1]; exact Nat.zero_le _
set_option maxHeartbeats 4000000 in
set_option maxRecDepth 100000 in
theorem sSpareOf_c (n : Int) (bs : List Bd) (A : Option Addr) (b o c B : Nat) (w : World) (hn : bs.length ≤ 2000000) (hB : B ≤ w.heap.size) (hR : BdsR w B b o A bs) :
    Calls Try.prog 29 #[.agg #[.int .i64 n, .slice A bs.length c]] w fun e w' => e = .returned (.int .i64 (spare ⟨n, bs⟩)) ∧ Below w.heap.size w w' := by
  have hD := po_new (t := 32) (n := n) (c := c) (Below.refl w.heap.size w) (hR.more hB)
  clear hR hB
  cases hf : fits ⟨n, bs⟩
  · have hs : spare ⟨n, bs⟩ = -1 := by unfold spare; rw [hf]; rfl
    rw [hs]
    have Hf := hide hf
    clear hf hs
    go_enter Try.func29, Try.ntmps29
    go_upto_region 1 with fail
    generalize w.alloc (.cells #[.int .i64 n, .slice A bs.length c] 32) = W at hD ⊢
    go_wp2_with fail
    go_loopg [3, 4] 0 (fun gh s3 s4 wr => s3 = .int .i64 (-1) ∧ s4 = .int .i64 0 ∧ PO w wr w.heap.size b o n A c bs)
    case atStart => exact ⟨rfl, rfl, hD⟩
    case round =>
      clear hD
      obtain ⟨rfl, rfl, hD⟩ := hrel
      have p0 := hD.c0
      have p1 := hD.c1
      go_wp2_with (go_at_call 80; go_fit (sFitsOk_c ⟨n, bs⟩ A b o c _ _ hn (Nat.le_refl _) hD.rd); rintro e w1 ⟨rfl, hb1⟩; rw [Hf.out]; replace hD := hD.below hb1; clear p0 p1; have p0 := hD.c0; have p1 := hD.c1)
      go_ret
      exact ⟨rfl, hD.bel⟩
  · have hs : spare ⟨n, bs⟩ = (spareD ⟨n, bs⟩ 99 : Nat) := by unfold spare; rw [hf]; rfl
    have hz0 := lowFits_zero hf
    have Hf := hide hf
    have Hs := hide hs
    have Hz := hide hz0
    have Hp : Hid (planOk ⟨n, bs⟩ = true) := planOk_of_fits hf
    clear hf hs hz0
    go_enter Try.func29, Try.ntmps29
    go_upto_region 1 with fail
    generalize w.alloc (.cells #[.int .i64 n, .slice A bs.length c] 32) = W at hD ⊢
    go_wp2_with fail
    go_loopg [3, 4] 100 (fun gh s3 s4 wr => ∃ j : Nat, j ≤ 100 ∧ gh = 100 - j ∧ s4 = .int .i64 j ∧ s3 = .int .i64 ((j : Int) - 1) ∧ Hid (0 < j → lowFits ⟨n, bs⟩ ((j - 1 : Nat) : Int) = true) ∧ PO w wr w.heap.size b o n A c bs)
    case atStart => exact ⟨0, by omega, rfl, rfl, rfl, fun h => absurd h (by omega), hD⟩
    case round =>
      clear hD
      obtain ⟨j, hj, rfl, rfl, rfl, HN, hD⟩ := hrel
      have p0 := hD.c0
      have p1 := hD.c1
      by_cases hlt : j ≤ 99
      · have hlt' : (j : Int) ≤ 99 := by omega
        have hj99 : (0 : Int) ≤ (j : Int) ∧ (j : Int) ≤ 99 := by omega
        obtain ⟨q, r, hq⟩ : ∃ q r, lowP ⟨n, bs⟩ (j : Int) = (q, r) := ⟨_, _, rfl⟩
        have hql := lowP_len2 hq
        have hlf : lowFits ⟨n, bs⟩ (j : Int) = (r && fits q) := by unfold lowFits; rw [hq]
        have Hq := hide hq
        have Hlf := hide hlf
        have hbest : Hid (lowFits ⟨n, bs⟩ (j : Int) = false → ((j : Int) - 1 = (spareD ⟨n, bs⟩ 99 : Nat))) := fun h => by
          have hj0 : 0 < j := by
            rcases Nat.eq_zero_or_pos j with e | e
            · subst e
              have := Hz.out
              simp only [Int.natCast_zero] at h
              rw [h] at this; cases this
            · exact e
          have e := spareD_eq (p := ⟨n, bs⟩) (m := 99) (j := j - 1) (by
            cases hff : fits ⟨n, bs⟩
            · rw [Hf.out] at hff; cases hff
            · rfl) (by omega) (HN.out hj0) (fun i h1 h2 => by
              rw [Bool.eq_false_iff]
              intro hi
              have := lowFits_mono (u := (j : Int)) (by omega) (show (j : Int) ≤ (i : Int) by omega) hi
              rw [h] at this; cases this)
          rw [e]; omega
        clear hq hlf
        cases r
        · have hfin := hbest.out (by rw [Hlf.out]; rfl)
          have Hfin := hide hfin
          clear hfin
          go_wp2_with (first | (go_at_call 80; go_fit (sFitsOk_c ⟨n, bs⟩ A b o c _ _ hn (Nat.le_refl _) hD.rd); rintro e w1 ⟨rfl, hb1⟩; rw [Hf.out]; replace hD := hD.below hb1; clear p0 p1; have p0 := hD.c0; have p1 := hD.c1) | (go_at_call 81; go_fit (sLowered_q n bs (j : Int) Hp.out hj99 q _ Hq.out A b o c _ _ (Nat.le_refl _) hD.rd); rintro e w2 ⟨A2, c2, g2, rfl, hr2, hb2⟩; have hD2 := (hD.below hb2).alloc (.cells #[.int .i64 q.n, .slice A2 q.bs.length c2] 32); have hP2 := po_new (t := 32) (n := q.n) (c := c2) (bthen hD.bel hb2) hr2; have y0 := hP2.c0; have y1 := hP2.c1))
          go_ret
          exact ⟨by rw [Hs.out, ← Hfin.out]; rfl, hD2.bel⟩
        · cases hg : fits q
          · have hfin := hbest.out (by rw [Hlf.out, hg]; rfl)
            have Hfin := hide hfin
            have Hg := hide hg
            clear hfin hg
            go_wp2_with (first | (go_at_call 80; go_fit (sFitsOk_c ⟨n, bs⟩ A b o c _ _ hn (Nat.le_refl _) hD.rd); rintro e w1 ⟨rfl, hb1⟩; rw [Hf.out]; replace hD := hD.below hb1; clear p0 p1; have p0 := hD.c0; have p1 := hD.c1) | (go_at_call 81; go_fit (sLowered_q n bs (j : Int) Hp.out hj99 q _ Hq.out A b o c _ _ (Nat.le_refl _) hD.rd); rintro e w2 ⟨A2, c2, g2, rfl, hr2, hb2⟩; have hD2 := (hD.below hb2).alloc (.cells #[.int .i64 q.n, .slice A2 q.bs.length c2] 32); have hP2 := po_new (t := 32) (n := q.n) (c := c2) (bthen hD.bel hb2) hr2; have y0 := hP2.c0; have y1 := hP2.c1) | (go_at_call 80; go_fit (sFitsOk_c q A2 g2 0 c2 _ _ hql (Nat.le_refl _) hP2.rd); rintro e w3 ⟨rfl, hb3⟩; rw [Hg.out]; have hD3 := hD2.below hb3))
            go_ret
            exact ⟨by rw [Hs.out, ← Hfin.out]; rfl, hD3.bel⟩
          · have Hyes : Hid (lowFits ⟨n, bs⟩ (j : Int) = true) := by unfold Hid; rw [Hlf.out, hg]; rfl
            have Hg := hide hg
            clear hg
            go_wp2_with (first | (go_at_call 80; go_fit (sFitsOk_c ⟨n, bs⟩ A b o c _ _ hn (Nat.le_refl _) hD.rd); rintro e w1 ⟨rfl, hb1⟩; rw [Hf.out]; replace hD := hD.below hb1; clear p0 p1; have p0 := hD.c0; have p1 := hD.c1) | (go_at_call 81; go_fit (sLowered_q n bs (j : Int) Hp.out hj99 q _ Hq.out A b o c _ _ (Nat.le_refl _) hD.rd); rintro e w2 ⟨A2, c2, g2, rfl, hr2, hb2⟩; have hD2 := (hD.below hb2).alloc (.cells #[.int .i64 q.n, .slice A2 q.bs.length c2] 32); have hP2 := po_new (t := 32) (n := q.n) (c := c2) (bthen hD.bel hb2) hr2; have y0 := hP2.c0; have y1 := hP2.c1) | (go_at_call 80; go_fit (sFitsOk_c q A2 g2 0 c2 _ _ hql (Nat.le_refl _) hP2.rd); rintro e w3 ⟨rfl, hb3⟩; rw [Hg.out]; have hD3 := hD2.below hb3))
            go_roundg (100 - (j + 1))
            case measure => go_light; omega
            case rel => go_light; exact ⟨j + 1, by omega, rfl, by go_num, by first | rfl | (congr 1; omega) | go_num, fun _ => by rw [Nat.add_sub_cancel]; exact Hyes.out, hD3⟩
      · obtain rfl : j = 100 := by omega
        have hfin : (99 : Int) = (spareD ⟨n, bs⟩ 99 : Nat) := by
          have e := spareD_eq (p := ⟨n, bs⟩) (m := 99) (j := 99) Hf.out (Nat.le_refl _) (HN.out (by omega)) (fun i h1 h2 => by omega)
          rw [e]; rfl
        have Hfin := hide hfin
        clear hfin
        go_wp2_with fail
        go_ret
        exact ⟨by rw [Hs.out, ← Hfin.out]; rfl, hD.bel⟩
end Go.Proofs.Ytledgblepdjjlaa
