/-
  spec.StrongOk, spec.StrongPlan.
-/
import Derived.Test.YtdijfkpccbkdfaaL23
import Derived.Test.YtdijfkpccbkdfaaS22
import Derived.Test.YtdijfkpccbkdfaaS21
import Derived.Test.YtdijfkpccbkdfaaS2c
namespace Go.Proofs.Ytdijfkpccbkdfaa
set_option linter.unusedVariables false
set_option linter.unusedSimpArgs false
open Go.RowKit Pp

set_option maxHeartbeats 2000000 in
set_option maxRecDepth 100000 in
theorem sStrongOk_c (n : Int) (bs : List Bd) (ps : List Pr) (A A2 : Option Addr) (b o c b2 o2 c2 B : Nat) (w : World) (hn : bs.length ≤ 2000000) (hn2 : ps.length ≤ 2000000) (hB : B ≤ w.heap.size) (hR : BdsR w B b o A bs) (hP : CsR w B b2 o2 A2 ps.length (prCs ps)) :
    Calls Try.prog 36 #[.agg #[.int .i64 n, .slice A bs.length c, .slice A2 ps.length c2]] w fun e w' => e = .returned (.bool (strongOk ⟨n, bs⟩ ps)) ∧ Below w.heap.size w w' := by
  cases hd : dealOk ⟨n, bs⟩ ps
  · have Hr : Hid (strongOk ⟨n, bs⟩ ps = false) := by unfold Hid strongOk; rw [hd]; rfl
    have Hd := hide hd
    clear hd
    have hD := pd_new (n := n) (c := c) (c2 := c2) (t := 28) hB hR hP
    clear hR hP hB
    go_enter Try.func36, Try.ntmps36
    go_upto_region 1 with fail
    generalize w.alloc (.cells #[.int .i64 n, .slice A bs.length c, .slice A2 ps.length c2] 28) = W at hD ⊢
    have p0 := hD.r.c0
    have p1 := hD.r.c1
    have p2 := hD.r.c2
    go_wp2_with (go_at_call 41; go_fit (sDealOk_c n bs ps A A2 b o c b2 o2 c2 _ _ hn hn2 (Nat.le_refl _) hD.r.rd hD.r.rp); rintro e w2 ⟨rfl, hb⟩; rw [Hd.out]; replace hD := hD.below hb; clear p0 p1 p2; have p0 := hD.r.c0; have p1 := hD.r.c1; have p2 := hD.r.c2)
    go_ret
    exact ⟨by rw [Hr.out]; rfl, hD.bel⟩
  · have hdl := dealOk_iff.1 hd
    have hn6 := (planOk_iff.1 hdl.1).1
    dsimp only at hn6
    obtain ⟨m, rfl⟩ := Int.eq_ofNat_of_zero_le (show 0 ≤ n by omega)
    have hnn : nn ⟨(m : Int), bs⟩ = m := by simp [nn]
    have hw := own_within hdl
    rw [hnn] at hw
    obtain ⟨qs, hq⟩ : ∃ qs, bs.map (ownB ps) = qs := ⟨_, rfl⟩
    have Hw : Hid (Within m 200 qs) := by rw [← hq]; exact hw
    have Hr : Hid (strongOk ⟨m, bs⟩ ps = diagOk m (clo (tab0 qs) m)) := by
      unfold Hid strongOk strong own
      rw [hd, hnn, hq]; simp
    have Hlow : Hid (∀ k, k ≤ m → Low m (clo (tab0 qs) k)) := (small_ok (by omega) (by omega) (by omega) Hw.out).2
    have hm1 : 1 ≤ m := by omega
    have hm2 : m ≤ 100 := by omega
    have h12 : bs.length ≤ 12 := hdl.2.1
    have hql : qs.length ≤ 100000 := by rw [← hq, List.length_map]; omega
    have Hd := hide hd
    have Hdl := hide hdl
    have Hq := hide hq
    have hm : m ≤ 1000 := by omega
    clear hd hdl hq hw hnn hn6
    have hD := pd_new (n := (m : Int)) (c := c) (c2 := c2) (t := 28) hB hR hP
    clear hR hP hB
    go_enter Try.func36, Try.ntmps36
    go_upto_region 1 with fail
    generalize w.alloc (.cells #[.int .i64 (m : Int), .slice A bs.length c, .slice A2 ps.length c2] 28) = W at hD ⊢
    have p0 := hD.r.c0
    have p1 := hD.r.c1
    have p2 := hD.r.c2
    go_wp2_with (first
      | (go_at_call 41; go_fit (sDealOk_c (m : Int) bs ps A A2 b o c b2 o2 c2 _ _ hn hn2 (Nat.le_refl _) hD.r.rd hD.r.rp); rintro e w2 ⟨rfl, hb⟩; rw [Hd.out]; replace hD := hD.below hb; clear p0 p1 p2; have p0 := hD.r.c0; have p1 := hD.r.c1; have p2 := hD.r.c2)
      | (go_at_call 77; go_fit (strong_q (m : Int) bs ps Hdl.out qs Hq.out A A2 b o c b2 o2 c2 _ _ (Nat.le_refl _) hD.r.rd hD.r.rp); rintro e w3 ⟨A1, c1, g1, rfl, hr1, own1, hb⟩; replace hD := hD.below hb; clear p0 p1 p2; have p0 := hD.r.c0; have p1 := hD.r.c1; have p2 := hD.r.c2)
      | (go_at_call 81; go_fit (l2Closed_c m qs A1 g1 0 c1 _ _ hm1 hm2 (by omega) (Nat.le_refl _) hr1 Hlow.out); rintro e w4 ⟨ob, c4, rb, rc, rfl, hT, hb⟩; replace hD := hD.below hb)
      | (go_at_call 80; go_fit (l2Fits_c (clo (tab0 qs) m) m c4 ob _ rb rc _ hm hT); rintro e w5 ⟨rfl, rfl⟩))
    go_ret
    exact ⟨by rw [Hr.out]; rfl, hD.bel⟩

set_option maxHeartbeats 2000000 in
set_option maxRecDepth 100000 in
theorem sStrongPlan_q (n : Int) (bs : List Bd) (ps : List Pr) (q : Pl) (r : Bool) (hq : strongPlan ⟨n, bs⟩ ps = (q, r)) (A A2 : Option Addr) (b o c b2 o2 c2 B : Nat) (w : World) (hn : bs.length ≤ 2000000) (hn2 : ps.length ≤ 2000000) (hB : B ≤ w.heap.size) (hR : BdsR w B b o A bs) (hP : CsR w B b2 o2 A2 ps.length (prCs ps)) :
    Calls Try.prog 34 #[.agg #[.int .i64 n, .slice A bs.length c, .slice A2 ps.length c2]] w fun e w' => ∃ A1 c1 g1, e = .returned (.tuple #[.agg #[.int .i64 q.n, .slice A1 q.bs.length c1], .bool r]) ∧
      BdsR w' w'.heap.size g1 0 A1 q.bs ∧ OwnB w.heap.size w' (.slice A1 q.bs.length c1) q.bs ∧ Below w.heap.size w w' := by
  have hD := (pd_new (n := n) (c := c) (c2 := c2) (t := 28) hB hR hP).alloc (.cells #[.int .i64 0, .slice none 0 0] 25)
  have hY : ZB w ((w.alloc (.cells #[.int .i64 n, .slice A bs.length c, .slice A2 ps.length c2] 28)).alloc (.cells #[.int .i64 0, .slice none 0 0] 25)) (w.heap.size + 1) := by
    have h : ZB w ((w.alloc (.cells #[.int .i64 n, .slice A bs.length c, .slice A2 ps.length c2] 28)).alloc (.cells #[.int .i64 0, .slice none 0 0] 25)) (w.alloc (.cells #[.int .i64 n, .slice A bs.length c, .slice A2 ps.length c2] 28)).heap.size := zb_new (by simp)
    simpa using h
  clear hR hP hB
  cases hd : dealOk ⟨n, bs⟩ ps
  · have hq2 : q = ⟨0, []⟩ ∧ r = false := by unfold strongPlan at hq; rw [hd] at hq; simpa [eq_comm] using hq
    obtain ⟨rfl, rfl⟩ := hq2
    have Hd := hide hd
    clear hd hq
    go_enter Try.func34, Try.ntmps34
    go_upto_region 1 with fail
    generalize (w.alloc (.cells #[.int .i64 n, .slice A bs.length c, .slice A2 ps.length c2] 28)).alloc (.cells #[.int .i64 0, .slice none 0 0] 25) = W at hD hY ⊢
    generalize w.heap.size + 1 = Y at hY ⊢
    have p0 := hD.r.c0
    have p1 := hD.r.c1
    have p2 := hD.r.c2
    go_wp2_with (go_at_call 41; go_fit (sDealOk_c n bs ps A A2 b o c b2 o2 c2 _ _ hn hn2 (Nat.le_refl _) hD.r.rd hD.r.rp); rintro e w2 ⟨rfl, hb⟩; rw [Hd.out]; replace hD := hD.below hb; clear p0 p1 p2; have p0 := hD.r.c0; have p1 := hD.r.c1; have p2 := hD.r.c2; replace hY := hY.below hb; have y0 := hY.z0; have y1 := hY.z1; have yf0 := hY.zf 0; have yf1 := hY.zf 1)
    obtain ⟨r0, r1, ho2, hb7⟩ := hY.fin (n := 0) (A := none) (c := 0) (bs := []) hD.bel (World.ownsRow_nil _ _ _ _) (by simp [Value.ownBlock])
    simp only [List.length_nil] at r0 r1 ho2 hb7
    refine bodyPost_ret (v := .tuple #[.agg #[.int .i64 0, .slice none 0 0], .bool false]) (by simp [results, Try.results34, go_sem, r0, r1]) rfl ?_
    exact ⟨none, 0, 0, rfl, BdsR.nil _ _ _, ho2, hb7⟩
  · have hdl := dealOk_iff.1 hd
    obtain ⟨qs, hqs⟩ : ∃ qs, bs.map (ownB ps) = qs := ⟨_, rfl⟩
    have hq2 : toldP ⟨n, qs⟩ = q ∧ planOk ⟨n, qs⟩ = r := by unfold strongPlan own at hq; rw [hd, if_pos rfl] at hq; dsimp only at hq; rw [hqs] at hq; exact Prod.mk.inj hq
    obtain ⟨ht, hr⟩ := hq2
    have h12 : bs.length ≤ 12 := hdl.2.1
    have hql : qs.length ≤ 2000000 := by rw [← hqs, List.length_map]; omega
    have Hd := hide hd
    have Hdl := hide hdl
    have Hqs := hide hqs
    have Ht := hide ht
    have Hr := hide hr
    clear hd hdl hqs ht hr hq
    go_enter Try.func34, Try.ntmps34
    go_upto_region 1 with fail
    generalize (w.alloc (.cells #[.int .i64 n, .slice A bs.length c, .slice A2 ps.length c2] 28)).alloc (.cells #[.int .i64 0, .slice none 0 0] 25) = W at hD hY ⊢
    generalize w.heap.size + 1 = Y at hY ⊢
    have p0 := hD.r.c0
    have p1 := hD.r.c1
    have p2 := hD.r.c2
    cases r
    · have hq3 : q = ⟨0, []⟩ := by rw [← Ht.out]; unfold toldP; rw [Hr.out]; rfl
      subst hq3
      go_wp2_with (first
        | (go_at_call 41; go_fit (sDealOk_c n bs ps A A2 b o c b2 o2 c2 _ _ hn hn2 (Nat.le_refl _) hD.r.rd hD.r.rp); rintro e w2 ⟨rfl, hb⟩; rw [Hd.out]; replace hD := hD.below hb; clear p0 p1 p2; have p0 := hD.r.c0; have p1 := hD.r.c1; have p2 := hD.r.c2; replace hY := hY.below hb)
        | (go_at_call 77; go_fit (strong_q n bs ps Hdl.out qs Hqs.out A A2 b o c b2 o2 c2 _ _ (Nat.le_refl _) hD.r.rd hD.r.rp); rintro e w3 ⟨A1, c1, g1, rfl, hr1, own1, hb⟩; have hsz := hD.bel.size; have hYw := hY.ex; replace hD := hD.below hb; clear p0 p1 p2; have p0 := hD.r.c0; have p1 := hD.r.c1; have p2 := hD.r.c2; replace hY := hY.below hb; (try clear y0 y1 yf0 yf1); have y0 := hY.z0; have y1 := hY.z1; have yf0 := hY.zf 0; have yf1 := hY.zf 1)
        | (go_at_call 76; go_fit (sPlanOk_c ⟨n, qs⟩ A1 g1 0 c1 _ _ hql (Nat.le_refl _) hr1); rintro e w4 ⟨rfl, hb⟩; rw [Hr.out]; replace hD := hD.below hb; clear p0 p1 p2; have p0 := hD.r.c0; have p1 := hD.r.c1; have p2 := hD.r.c2; replace hY := hY.below hb; clear y0 y1 yf0 yf1; have y0 := hY.z0; have y1 := hY.z1; have yf0 := hY.zf 0; have yf1 := hY.zf 1))
      obtain ⟨r0, r1, ho2, hb7⟩ := hY.fin (n := 0) (A := none) (c := 0) (bs := []) hD.bel (World.ownsRow_nil _ _ _ _) (by simp [Value.ownBlock])
      simp only [List.length_nil] at r0 r1 ho2 hb7
      refine bodyPost_ret (v := .tuple #[.agg #[.int .i64 0, .slice none 0 0], .bool false]) (by simp [results, Try.results34, go_sem, r0, r1]) rfl ?_
      first | exact ⟨none, 0, 0, rfl, BdsR.nil _ _ _, ho2, hb7⟩ | exact ⟨none, 0, rfl, ⟨0, BdsR.nil _ _ _⟩, ho2, hb7⟩
    · have hq3 : q = ⟨n, qs⟩ := by rw [← Ht.out]; unfold toldP; rw [Hr.out]; rfl
      subst hq3
      go_wp2_with (first
        | (go_at_call 41; go_fit (sDealOk_c n bs ps A A2 b o c b2 o2 c2 _ _ hn hn2 (Nat.le_refl _) hD.r.rd hD.r.rp); rintro e w2 ⟨rfl, hb⟩; rw [Hd.out]; replace hD := hD.below hb; clear p0 p1 p2; have p0 := hD.r.c0; have p1 := hD.r.c1; have p2 := hD.r.c2; replace hY := hY.below hb)
        | (go_at_call 77; go_fit (strong_q n bs ps Hdl.out qs Hqs.out A A2 b o c b2 o2 c2 _ _ (Nat.le_refl _) hD.r.rd hD.r.rp); rintro e w3 ⟨A1, c1, g1, rfl, hr1, own1, hb⟩; have hsz := hD.bel.size; have hYw := hY.ex; replace hD := hD.below hb; clear p0 p1 p2; have p0 := hD.r.c0; have p1 := hD.r.c1; have p2 := hD.r.c2; replace hY := hY.below hb; (try clear y0 y1 yf0 yf1); have y0 := hY.z0; have y1 := hY.z1; have yf0 := hY.zf 0; have yf1 := hY.zf 1)
        | (go_at_call 76; go_fit (sPlanOk_c ⟨n, qs⟩ A1 g1 0 c1 _ _ hql (Nat.le_refl _) hr1); rintro e w4 ⟨rfl, hb⟩; rw [Hr.out]; replace hD := hD.below hb; clear p0 p1 p2; have p0 := hD.r.c0; have p1 := hD.r.c1; have p2 := hD.r.c2; replace hY := hY.below hb; clear y0 y1 yf0 yf1; have y0 := hY.z0; have y1 := hY.z1; have yf0 := hY.zf 0; have yf1 := hY.zf 1))
      have ne : (Value.slice A1 qs.length c1).ownBlock ≠ some Y := fun e => by have := (own1.lt _ e).1; omega
      obtain ⟨r0, r1, ho2, hb7⟩ := hY.fin (n := n) hD.bel (own_less own1 hsz) ne
      refine bodyPost_ret (v := .tuple #[.agg #[.int .i64 n, .slice A1 qs.length c1], .bool true]) (by simp [results, Try.results34, go_sem, r0, r1]) rfl ?_
      obtain ⟨g, hr⟩ := OwnB.readsA ho2
      first | exact ⟨A1, c1, g, rfl, hr, ho2, hb7⟩ | exact ⟨A1, c1, rfl, ⟨g, hr⟩, ho2, hb7⟩
end Go.Proofs.Ytdijfkpccbkdfaa
