/-
  impl.StrongOk, impl.StrongPlan.
-/
import Derived.Test.YtdijfkpccbkdfaaL22
import Derived.Test.YtdijfkpccbkdfaaL2b
namespace Go.Proofs.Ytdijfkpccbkdfaa
set_option linter.unusedVariables false
set_option linter.unusedSimpArgs false
open Go.RowKit Pp

noncomputable def strongOk (p : Pl) (ps : List Pr) : Bool := dealOk p ps && strong p ps
noncomputable def strongPlan (p : Pl) (ps : List Pr) : Pl × Bool := if dealOk p ps then (toldP (own p ps), planOk (own p ps)) else (⟨0, []⟩, false)

set_option maxHeartbeats 2000000 in
set_option maxRecDepth 100000 in
theorem strongOk_c (n : Int) (bs : List Bd) (ps : List Pr) (A A2 : Option Addr) (b o c b2 o2 c2 B : Nat) (w : World) (hn : bs.length ≤ 2000000) (hn2 : ps.length ≤ 2000000) (hB : B ≤ w.heap.size) (hR : BdsR w B b o A bs) (hP : CsR w B b2 o2 A2 ps.length (prCs ps)) :
    Calls Try.prog 37 #[.agg #[.int .i64 n, .slice A bs.length c, .slice A2 ps.length c2]] w fun e w' => e = .returned (.bool (strongOk ⟨n, bs⟩ ps)) ∧ Below w.heap.size w w' := by
  cases hd : dealOk ⟨n, bs⟩ ps
  · have Hr : Hid (strongOk ⟨n, bs⟩ ps = false) := by unfold Hid strongOk; rw [hd]; rfl
    have Hd := hide hd
    clear hd
    have hD := pd_new (n := n) (c := c) (c2 := c2) (t := 28) hB hR hP
    clear hR hP hB
    go_enter Try.func37, Try.ntmps37
    go_upto_region 1 with fail
    generalize w.alloc (.cells #[.int .i64 n, .slice A bs.length c, .slice A2 ps.length c2] 28) = W at hD ⊢
    have p0 := hD.r.c0
    have p1 := hD.r.c1
    have p2 := hD.r.c2
    go_wp2_with (go_at_call 45; go_fit (dealOk_c n bs ps A A2 b o c b2 o2 c2 _ _ hn hn2 (Nat.le_refl _) hD.r.rd hD.r.rp); rintro e w2 ⟨rfl, hb⟩; rw [Hd.out]; replace hD := hD.below hb; clear p0 p1 p2; have p0 := hD.r.c0; have p1 := hD.r.c1; have p2 := hD.r.c2)
    go_ret
    exact ⟨by rw [Hr.out]; rfl, hD.bel⟩
  · have hdl := dealOk_iff.1 hd
    have hn6 := (planOk_iff.1 hdl.1).1
    dsimp only at hn6
    obtain ⟨m, rfl⟩ := Int.eq_ofNat_of_zero_le (show 0 ≤ n by omega)
    have hnn : nn ⟨(m : Int), bs⟩ = m := by simp [nn]
    have hw := own_within hdl
    rw [hnn] at hw
    obtain ⟨qs, hq⟩ : ∃ qs, bs.map (ownB ps) = qs := ⟨_, rfl⟩
    have Hw : Hid (Within m 200 qs) := by rw [← hq]; exact hw
    have Hr : Hid (strongOk ⟨m, bs⟩ ps = diagOk m (clF wrap64 (tab0 qs) m m)) := by
      unfold Hid strongOk strong own
      rw [hd, hnn, hq, small_clF (by omega) (by omega) (by omega) Hw.out _ fine_wrap]; simp
    have h12 : bs.length ≤ 12 := hdl.2.1
    have hql : qs.length ≤ 100000 := by rw [← hq, List.length_map]; omega
    have Hd := hide hd
    have Hdl := hide hdl
    have Hq := hide hq
    have hm : m ≤ 1000 := by omega
    clear hd hdl hq hw hnn hn6
    have hD := pd_new (n := (m : Int)) (c := c) (c2 := c2) (t := 28) hB hR hP
    clear hR hP hB
    go_enter Try.func37, Try.ntmps37
    go_upto_region 1 with fail
    generalize w.alloc (.cells #[.int .i64 (m : Int), .slice A bs.length c, .slice A2 ps.length c2] 28) = W at hD ⊢
    have p0 := hD.r.c0
    have p1 := hD.r.c1
    have p2 := hD.r.c2
    go_wp2_with (first
      | (go_at_call 45; go_fit (dealOk_c (m : Int) bs ps A A2 b o c b2 o2 c2 _ _ hn hn2 (Nat.le_refl _) hD.r.rd hD.r.rp); rintro e w2 ⟨rfl, hb⟩; rw [Hd.out]; replace hD := hD.below hb; clear p0 p1 p2; have p0 := hD.r.c0; have p1 := hD.r.c1; have p2 := hD.r.c2)
      | (go_at_call 79; go_fit (own_q (m : Int) bs ps Hdl.out qs Hq.out A A2 b o c b2 o2 c2 _ _ (Nat.le_refl _) hD.r.rd hD.r.rp); rintro e w3 ⟨A1, c1, g1, rfl, hr1, own1, hb⟩; replace hD := hD.below hb; clear p0 p1 p2; have p0 := hD.r.c0; have p1 := hD.r.c1; have p2 := hD.r.c2; have hsz := hD.bel.size; replace hD := hD.alloc (.cells #[.int .i64 (m : Int), .slice A1 qs.length c1] 25); have hr2 := (hr1.below (show Below w3.heap.size w3 (w3.alloc (.cells #[.int .i64 (m : Int), .slice A1 qs.length c1] 25)) by go_grown)))
      | (go_at_call 66; go_fit (start_c m qs 200 A1 g1 0 c1 _ _ hm hql (by simp) hr2 Hw.out); rintro e w4 ⟨rfl, hT, hb⟩; replace hD := hD.below hb; simp only [World.size_alloc] at hT)
      | (go_at_call 82; go_fit (close_c _ _ m (w3.heap.size + 1) (tab0 qs) _ hm hT (fun i hi => by unfold rbs; omega)); rintro e w5 ⟨rfl, hT5, hs⟩; have hbel : Below w.heap.size w w5 := hD.bel.trans ((below_of hs).mono (by omega))))
    go_ret
    exact ⟨by rw [Hr.out]; rfl, hbel⟩

set_option maxHeartbeats 2000000 in
set_option maxRecDepth 100000 in
theorem strongPlan_q (n : Int) (bs : List Bd) (ps : List Pr) (q : Pl) (r : Bool) (hq : strongPlan ⟨n, bs⟩ ps = (q, r)) (A A2 : Option Addr) (b o c b2 o2 c2 B : Nat) (w : World) (hn : bs.length ≤ 2000000) (hn2 : ps.length ≤ 2000000) (hB : B ≤ w.heap.size) (hR : BdsR w B b o A bs) (hP : CsR w B b2 o2 A2 ps.length (prCs ps)) :
    Calls Try.prog 35 #[.agg #[.int .i64 n, .slice A bs.length c, .slice A2 ps.length c2]] w fun e w' => ∃ A1 c1 g1, e = .returned (.tuple #[.agg #[.int .i64 q.n, .slice A1 q.bs.length c1], .bool r]) ∧
      BdsR w' w'.heap.size g1 0 A1 q.bs ∧ OwnB w.heap.size w' (.slice A1 q.bs.length c1) q.bs ∧ Below w.heap.size w w' := by
  have hD := (pd_new (n := n) (c := c) (c2 := c2) (t := 28) hB hR hP).alloc (.cells #[.int .i64 0, .slice none 0 0] 25)
  have hY : ZB w ((w.alloc (.cells #[.int .i64 n, .slice A bs.length c, .slice A2 ps.length c2] 28)).alloc (.cells #[.int .i64 0, .slice none 0 0] 25)) (w.heap.size + 1) := by
    have h : ZB w ((w.alloc (.cells #[.int .i64 n, .slice A bs.length c, .slice A2 ps.length c2] 28)).alloc (.cells #[.int .i64 0, .slice none 0 0] 25)) (w.alloc (.cells #[.int .i64 n, .slice A bs.length c, .slice A2 ps.length c2] 28)).heap.size := zb_new (by simp)
    simpa using h
  clear hR hP hB
  cases hd : dealOk ⟨n, bs⟩ ps
  · have hq2 : q = ⟨0, []⟩ ∧ r = false := by unfold strongPlan at hq; rw [hd] at hq; simpa [eq_comm] using hq
    obtain ⟨rfl, rfl⟩ := hq2
    have Hd := hide hd
    clear hd hq
    go_enter Try.func35, Try.ntmps35
    go_upto_region 1 with fail
    generalize (w.alloc (.cells #[.int .i64 n, .slice A bs.length c, .slice A2 ps.length c2] 28)).alloc (.cells #[.int .i64 0, .slice none 0 0] 25) = W at hD hY ⊢
    generalize w.heap.size + 1 = Y at hY ⊢
    have p0 := hD.r.c0
    have p1 := hD.r.c1
    have p2 := hD.r.c2
    go_wp2_with (go_at_call 45; go_fit (dealOk_c n bs ps A A2 b o c b2 o2 c2 _ _ hn hn2 (Nat.le_refl _) hD.r.rd hD.r.rp); rintro e w2 ⟨rfl, hb⟩; rw [Hd.out]; replace hD := hD.below hb; clear p0 p1 p2; have p0 := hD.r.c0; have p1 := hD.r.c1; have p2 := hD.r.c2; replace hY := hY.below hb; have y0 := hY.z0; have y1 := hY.z1; have yf0 := hY.zf 0; have yf1 := hY.zf 1)
    obtain ⟨r0, r1, ho2, hb7⟩ := hY.fin (n := 0) (A := none) (c := 0) (bs := []) hD.bel (World.ownsRow_nil _ _ _ _) (by simp [Value.ownBlock])
    simp only [List.length_nil] at r0 r1 ho2 hb7
    refine bodyPost_ret (v := .tuple #[.agg #[.int .i64 0, .slice none 0 0], .bool false]) (by simp [results, Try.results35, go_sem, r0, r1]) rfl ?_
    exact ⟨none, 0, 0, rfl, BdsR.nil _ _ _, ho2, hb7⟩
  · have hdl := dealOk_iff.1 hd
    obtain ⟨qs, hqs⟩ : ∃ qs, bs.map (ownB ps) = qs := ⟨_, rfl⟩
    have hq2 : toldP ⟨n, qs⟩ = q ∧ planOk ⟨n, qs⟩ = r := by unfold strongPlan own at hq; rw [hd, if_pos rfl] at hq; dsimp only at hq; rw [hqs] at hq; exact Prod.mk.inj hq
    obtain ⟨ht, hr⟩ := hq2
    have h12 : bs.length ≤ 12 := hdl.2.1
    have hql : qs.length ≤ 2000000 := by rw [← hqs, List.length_map]; omega
    have Hd := hide hd
    have Hdl := hide hdl
    have Hqs := hide hqs
    have Ht := hide ht
    have Hr := hide hr
    clear hd hdl hqs ht hr hq
    go_enter Try.func35, Try.ntmps35
    go_upto_region 1 with fail
    generalize (w.alloc (.cells #[.int .i64 n, .slice A bs.length c, .slice A2 ps.length c2] 28)).alloc (.cells #[.int .i64 0, .slice none 0 0] 25) = W at hD hY ⊢
    generalize w.heap.size + 1 = Y at hY ⊢
    have p0 := hD.r.c0
    have p1 := hD.r.c1
    have p2 := hD.r.c2
    go_wp2_with (first
      | (go_at_call 45; go_fit (dealOk_c n bs ps A A2 b o c b2 o2 c2 _ _ hn hn2 (Nat.le_refl _) hD.r.rd hD.r.rp); rintro e w2 ⟨rfl, hb⟩; rw [Hd.out]; replace hD := hD.below hb; clear p0 p1 p2; have p0 := hD.r.c0; have p1 := hD.r.c1; have p2 := hD.r.c2; replace hY := hY.below hb)
      | (go_at_call 79; go_fit (own_q n bs ps Hdl.out qs Hqs.out A A2 b o c b2 o2 c2 _ _ (Nat.le_refl _) hD.r.rd hD.r.rp); rintro e w3 ⟨A1, c1, g1, rfl, hr1, own1, hb⟩; replace hD := hD.below hb; clear p0 p1 p2; have p0 := hD.r.c0; have p1 := hD.r.c1; have p2 := hD.r.c2; replace hY := hY.below hb; have hsz := hD.bel.size; have hYw := hY.ex)
      | (go_at_call 78; go_fit (told_q ⟨n, qs⟩ q r Ht.out Hr.out A1 g1 0 c1 _ _ hql (Nat.le_refl _) hr1); rintro e w4 ⟨A3, c3, g3, rfl, hr3, own3, hb⟩; replace hD := hD.below hb; clear p0 p1 p2; have p0 := hD.r.c0; have p1 := hD.r.c1; have p2 := hD.r.c2; replace hY := hY.below hb; have y0 := hY.z0; have y1 := hY.z1; have yf0 := hY.zf 0; have yf1 := hY.zf 1; have hYl := hY.ex))
    have ne : (Value.slice A3 q.bs.length c3).ownBlock ≠ some Y := fun e => by have := (own3.lt _ e).1; omega
    obtain ⟨r0, r1, ho2, hb7⟩ := hY.fin (n := q.n) hD.bel (own_less own3 hsz) ne
    refine bodyPost_ret (v := .tuple #[.agg #[.int .i64 q.n, .slice A3 q.bs.length c3], .bool r]) (by simp [results, Try.results35, go_sem, r0, r1]) rfl ?_
    obtain ⟨g, hr⟩ := OwnB.readsA ho2
    exact ⟨A3, c3, g, rfl, hr, ho2, hb7⟩
end Go.Proofs.Ytdijfkpccbkdfaa
