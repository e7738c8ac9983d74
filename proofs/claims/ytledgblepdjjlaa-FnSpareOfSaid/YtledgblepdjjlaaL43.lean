/-
  impl: SpareOf.
-/
import Derived.Test.YtledgblepdjjlaaL42
import Derived.Test.YtledgblepdjjlaaL2c
namespace Go.Proofs.Ytledgblepdjjlaa
set_option linter.unusedVariables false
set_option linter.unusedSimpArgs false
open Go.RowKit Pp

theorem lowP_len {p q : Pl} {v : Int} {r : Bool} (h : lowP p v = (q, r)) : q.bs.length ≤ 16 := by
  unfold lowP at h
  split at h
  · have h1 := (Prod.mk.inj h).1
    unfold toldP at h1
    split at h1
    · rename_i hk
      rw [← h1]; exact (planOk_iff.1 hk).2.1
    · rw [← h1]; exact Nat.zero_le _
  · rw [← (Prod.mk.inj h).1]; exact Nat.zero_le _
set_option maxHeartbeats 4000000 in
set_option maxRecDepth 100000 in
theorem spareOf_c (n : Int) (bs : List Bd) (A : Option Addr) (b o c B : Nat) (w : World) (hn : bs.length ≤ 2000000) (hB : B ≤ w.heap.size) (hR : BdsR w B b o A bs) :
    Calls Try.prog 28 #[.agg #[.int .i64 n, .slice A bs.length c]] w fun e w' => e = .returned (.int .i64 (spare ⟨n, bs⟩)) ∧ Below w.heap.size w w' := by
  have hD := po_new (t := 32) (n := n) (c := c) (Below.refl w.heap.size w) (hR.more hB)
  clear hR hB
  cases hf : fits ⟨n, bs⟩
  · have hs : spare ⟨n, bs⟩ = -1 := by unfold spare; rw [hf]; rfl
    rw [hs]
    have Hf := hide hf
    clear hf hs
    go_enter Try.func28, Try.ntmps28
    go_upto_region 1 with fail
    generalize w.alloc (.cells #[.int .i64 n, .slice A bs.length c] 32) = W at hD ⊢
    have p0 := hD.c0
    have p1 := hD.c1
    go_wp2_with (go_at_call 30; go_fit (fitsOk_c ⟨n, bs⟩ A b o c _ _ hn (Nat.le_refl _) hD.rd); rintro e w1 ⟨rfl, hb1⟩; rw [Hf.out]; replace hD := hD.below hb1)
    go_ret
    exact ⟨rfl, hD.bel⟩
  · have hs : spare ⟨n, bs⟩ = (spareD ⟨n, bs⟩ 99 : Nat) := by unfold spare; rw [hf]; rfl
    have Hf := hide hf
    have Hs := hide hs
    clear hf hs
    go_enter Try.func28, Try.ntmps28
    go_upto_region 1 with fail
    generalize w.alloc (.cells #[.int .i64 n, .slice A bs.length c] 32) = W at hD ⊢
    have p0 := hD.c0
    have p1 := hD.c1
    go_upto_region 3 with (go_at_call 30; go_fit (fitsOk_c ⟨n, bs⟩ A b o c _ _ hn (Nat.le_refl _) hD.rd); rintro e w1 ⟨rfl, hb1⟩; rw [Hf.out]; replace hD := hD.below hb1)
    clear p0 p1
    go_wp2_with fail
    go_loopg [3] 100 (fun gh s3 wr => ∃ m : Nat, m ≤ 99 ∧ gh = m + 1 ∧ s3 = .int .i64 m ∧ Hid (spareD ⟨n, bs⟩ 99 = spareD ⟨n, bs⟩ m) ∧ PO w wr w.heap.size b o n A c bs)
    case atStart => exact ⟨99, by omega, rfl, rfl, rfl, hD⟩
    case round =>
      clear hD
      obtain ⟨m, hm, rfl, rfl, Hm, hD⟩ := hrel
      have p0 := hD.c0
      have p1 := hD.c1
      rcases Nat.eq_zero_or_pos m with hm0 | hm0
      · subst hm0
        go_wp2_with fail
        go_ret
        exact ⟨by rw [Hs.out, Hm.out]; rfl, hD.bel⟩
      · have hmz : (0 : Int) < (m : Int) := by omega
        obtain ⟨m', hm'⟩ : ∃ m', m = m' + 1 := ⟨m - 1, by omega⟩
        have hwr : IntKind.i64.wrap ((m : Int) - 1) = (m : Int) - 1 := IntWalk.i64_in _ (by omega)
        have Hm' := hide hm'
        clear hm'
        obtain ⟨q, r, hq⟩ : ∃ q r, lowP ⟨n, bs⟩ (m : Int) = (q, r) := ⟨_, _, rfl⟩
        have hql := lowP_len hq
        have hlf : lowFits ⟨n, bs⟩ (m : Int) = (r && fits q) := by unfold lowFits; rw [hq]
        have Hq := hide hq
        have Hlf := hide hlf
        have hsz := hD.bel.size
        clear hq hlf
        have hno : Hid (r = false ∨ fits q = false → spareD ⟨n, bs⟩ 99 = spareD ⟨n, bs⟩ m') := by
          intro h
          rw [Hm.out, Hm'.out]
          simp only [spareD]
          rw [← Hm'.out, Hlf.out]
          rcases h with h | h <;> rw [h] <;> simp
        cases r
        · go_wp2_with (go_at_call 32; go_fit (lowered_q n bs (m : Int) q _ Hq.out A b o c _ _ hn (Nat.le_refl _) hD.rd); rintro e w2 ⟨A2, c2, g2, rfl, hr2, hb2⟩; have hD2 := (hD.below hb2).alloc (.cells #[.int .i64 q.n, .slice A2 q.bs.length c2] 32); have hP2 := po_new (t := 32) (n := q.n) (c := c2) (bthen hD.bel hb2) hr2; have y0 := hP2.c0; have y1 := hP2.c1)
          go_roundg m
          case measure => go_light; omega
          case rel => go_light; exact ⟨m', by have e := Hm'.out; omega, by have e := Hm'.out; omega, by have e := Hm'.out; subst e; go_num, hno.out (by first | exact .inl rfl | exact .inl trivial | simp), hD2⟩
        · cases hg : fits q
          · have Hg := hide hg
            have hno2 : Hid (spareD ⟨n, bs⟩ 99 = spareD ⟨n, bs⟩ m') := hno.out (.inr hg)
            clear hg
            go_wp2_with (first
              | (go_at_call 32; go_fit (lowered_q n bs (m : Int) q _ Hq.out A b o c _ _ hn (Nat.le_refl _) hD.rd); rintro e w2 ⟨A2, c2, g2, rfl, hr2, hb2⟩; have hD2 := (hD.below hb2).alloc (.cells #[.int .i64 q.n, .slice A2 q.bs.length c2] 32); have hP2 := po_new (t := 32) (n := q.n) (c := c2) (bthen hD.bel hb2) hr2; have y0 := hP2.c0; have y1 := hP2.c1)
              | (go_at_call 30; go_fit (fitsOk_c q A2 g2 0 c2 _ _ (by omega) (Nat.le_refl _) hP2.rd); rintro e w3 ⟨rfl, hb3⟩; rw [Hg.out]; have hD3 := hD2.below hb3))
            go_roundg m
            case measure => go_light; omega
            case rel => go_light; exact ⟨m', by have e := Hm'.out; omega, by have e := Hm'.out; omega, by have e := Hm'.out; subst e; go_num, hno2, hD3⟩
          · have hyes : spareD ⟨n, bs⟩ m = m := by
              have e := Hm'.out
              have h := Hlf.out
              rw [e] at h ⊢
              simp only [spareD]
              rw [h, hg]; rfl
            have Hg := hide hg
            have Hy := hide hyes
            clear hg hyes
            go_wp2_with (first
              | (go_at_call 32; go_fit (lowered_q n bs (m : Int) q _ Hq.out A b o c _ _ hn (Nat.le_refl _) hD.rd); rintro e w2 ⟨A2, c2, g2, rfl, hr2, hb2⟩; have hD2 := (hD.below hb2).alloc (.cells #[.int .i64 q.n, .slice A2 q.bs.length c2] 32); have hP2 := po_new (t := 32) (n := q.n) (c := c2) (bthen hD.bel hb2) hr2; have y0 := hP2.c0; have y1 := hP2.c1)
              | (go_at_call 30; go_fit (fitsOk_c q A2 g2 0 c2 _ _ (by omega) (Nat.le_refl _) hP2.rd); rintro e w3 ⟨rfl, hb3⟩; rw [Hg.out]; have hD3 := hD2.below hb3))
            go_ret
            exact ⟨by rw [Hs.out, Hm.out, Hy.out]; rfl, hD3.bel⟩
end Go.Proofs.Ytledgblepdjjlaa
