/-
  impl.WeakOk.
-/
import Derived.Test.YtdijfkpccbkdfaaL30
namespace Go.Proofs.Ytdijfkpccbkdfaa
set_option linter.unusedVariables false
set_option linter.unusedSimpArgs false
open Go Go.RowKit Go.Shelf Pp
attribute [local go_sem] Oper.semAt_some

noncomputable def weakF (p : Pl) (ps : List Pr) (xs : List (List Int)) : Bool := xs.all fun ls => fits (planForR p ps ls).1
noncomputable def weakR (p : Pl) (ps : List Pr) : Bool := dealOk p ps && weakF p ps (comeF ps ps.length [])
theorem weakF_snoc (p : Pl) (ps : List Pr) (pre : List (List Int)) (ls : List Int) : weakF p ps (pre ++ [ls]) = (weakF p ps pre && fits (planForR p ps ls).1) := by simp [weakF]
theorem weakF_pre {p : Pl} {ps : List Pr} {pre xs : List (List Int)} (h : pre <+: xs) (hw : weakF p ps pre = false) : weakF p ps xs = false := by
  obtain ⟨t, rfl⟩ := h
  unfold weakF at *
  rw [List.all_append, hw]; rfl

set_option maxHeartbeats 4000000 in
set_option maxRecDepth 100000 in
theorem weakOk_c (n : Int) (bs : List Bd) (ps : List Pr) (A A2 : Option Addr) (b o c b2 o2 c2 B : Nat) (w : World) (hn : bs.length ≤ 2000000) (hn2 : ps.length ≤ 2000000) (hB : B ≤ w.heap.size) (hR : BdsR w B b o A bs) (hP : CsR w B b2 o2 A2 ps.length (prCs ps)) :
    Calls Try.prog 39 #[.agg #[.int .i64 n, .slice A bs.length c, .slice A2 ps.length c2]] w fun e w' => e = .returned (.bool (weakR ⟨n, bs⟩ ps)) ∧ Below w.heap.size w w' := by
  refine (callsIn_wide (n := 9)).1 ?_
  have hb0 : 0 < bs.length → b < w.heap.size := fun h => Nat.lt_of_lt_of_le (hR.lt h) hB
  have hb20 : 0 < ps.length → b2 < w.heap.size := fun h => Nat.lt_of_lt_of_le (hP.lt h) hB
  obtain ⟨wa, hwa⟩ : ∃ wa, (w.alloc (.cells #[.int .i64 n, .slice A bs.length c, .slice A2 ps.length c2] 28)).alloc (.cells #[.bool false] 4) = wa := ⟨_, rfl⟩
  have hD := (pd_new (n := n) (c := c) (c2 := c2) (t := 28) hB hR hP).alloc (.cells #[.bool false] 4)
  rw [hwa] at hD
  have hca : wa.cell? ⟨w.heap.size + 1, 0, none⟩ = some (.bool false) := by rw [← hwa]; simp [go_sem]
  have hfa : wa.frozen? ⟨w.heap.size + 1, 0, none⟩ = false := by rw [← hwa]; simp [go_sem]
  have hsa : wa.heap.size = w.heap.size + 2 := by rw [← hwa]; simp
  obtain ⟨X, hXe⟩ : ∃ X, w.heap.size + 1 = X := ⟨_, rfl⟩
  rw [hXe] at hca hfa
  have hXa : X < wa.heap.size := by omega
  have hwX : w.heap.size < X := by omega
  clear hR hP hB
  obtain ⟨p0, p1, p2⟩ : _ ∧ _ ∧ _ := ⟨hD.r.c0, hD.r.c1, hD.r.c2⟩
  cases hd : dealOk ⟨n, bs⟩ ps
  · have Hr : Hid (weakR ⟨n, bs⟩ ps = false) := by unfold Hid weakR; rw [hd]; rfl
    have Hd := hide hd
    clear hd
    refine callsIn_of_wp_marks Try.func39 rfl trivial ?_ rfl
    simp only [Try.ntmps39, List.size_toArray, List.length_cons, List.length_nil, Nat.reduceAdd, Nat.reduceSub, Array.replicate_succ, Array.replicate_zero, List.push_toArray, List.append_toArray, List.nil_append, List.cons_append]
    gi_wp2_with (refine ⟨trivial, ?_⟩; gi_at_call 45; refine (callsIn_wide.2 (dealOk_c n bs ps A A2 b o c b2 o2 c2 _ _ hn hn2 (Nat.le_refl _) hD.r.rd hD.r.rp)).mono ?_; rintro e w2 ⟨rfl, hb⟩; rw [Hd.out]; have hc2 := (hb.cell (p := ⟨X, 0, none⟩) hXa).trans hca; have hf2 := (hb.frozen (p := ⟨X, 0, none⟩) hXa).trans hfa; replace hD := hD.below hb; clear p0 p1 p2; have p0 := hD.r.c0; have p1 := hD.r.c1; have p2 := hD.r.c2)
    have hc5 := World.cell?_setCell_same' w2 ⟨X, 0, none⟩ (.bool false) (by rw [hc2]; rfl)
    exact ⟨.bool false, by simp [results, Try.f39, go_sem, hc5], by rw [Hr.out], hD.bel.setCell (p := ⟨X, 0, none⟩) (by show w.heap.size ≤ X; omega) _⟩
  · have Hr : Hid (weakR ⟨n, bs⟩ ps = weakF ⟨n, bs⟩ ps (comeF ps ps.length [])) := by unfold Hid weakR; rw [hd]; rfl
    have Hd := hide hd
    clear hd
    refine callsIn_of_wp_marks Try.func39 rfl trivial ?_ rfl
    simp only [Try.ntmps39, List.size_toArray, List.length_cons, List.length_nil, Nat.reduceAdd, Nat.reduceSub, Array.replicate_succ, Array.replicate_zero, List.push_toArray, List.append_toArray, List.nil_append, List.cons_append]
    gi_wp2_with (refine ⟨trivial, ?_⟩; gi_at_call 45; refine (callsIn_wide.2 (dealOk_c n bs ps A A2 b o c b2 o2 c2 _ _ hn hn2 (Nat.le_refl _) hD.r.rd hD.r.rp)).mono ?_; rintro e wr ⟨rfl, hb⟩; rw [Hd.out]; have hc2 := (hb.cell (p := ⟨X, 0, none⟩) hXa).trans hca; have hf2 := (hb.frozen (p := ⟨X, 0, none⟩) hXa).trans hfa; have hsb := hb.size; replace hD := hD.below hb; clear p0 p1 p2; have p0 := hD.r.c0; have p1 := hD.r.c1; have p2 := hD.r.c2)
    have hDr := hD
    clear hD p0 p1 p2 hb hca hfa
    have hdl := dealOk_iff.1 Hd.out
    have hps : ps.length ≤ 2 := hdl.2.2.1
    have hok : ∀ (i : Nat) (x : Pr), ps[i]? = some x → 0 ≤ x.l ∧ x.l ≤ x.h ∧ x.h ≤ 12 := by
      intro i x hx
      have h := hdl.2.2.2 i x (List.getElem?_eq_some_iff.1 hx).1 hx
      exact ⟨h.1.2.2.2.1, h.1.2.2.2.2.1, h.1.2.2.2.2.2⟩
    clear hdl
    have hXr : X < wr.heap.size := by omega
    have hle : w.heap.size ≤ wr.heap.size := by omega
    have hwX2 : w.heap.size ≤ X := by omega
    refine wp_rangeR (by omega) (gf := 84) (d := .agg #[.int .i64 n, .slice A bs.length c, .slice A2 ps.length c2]) rfl (enters_of Try.func84 (by kernel_rfl) rfl) X (fun xs => xs = comeF ps ps.length []) (fun xs => xs <+: comeF ps ps.length []) ?hit
      (fun xs W => JR w wr W X ∧ weakF ⟨n, bs⟩ ps xs = true ∧ W.cell? ⟨X, 0, none⟩ = some (.bool false) ∧ W.frozen? ⟨X, 0, none⟩ = false) (fun cd xs W => cd = .ret ∧ JR w wr W X ∧ weakF ⟨n, bs⟩ ps xs = false ∧ W.cell? ⟨X, 0, none⟩ = some (.bool false)) ?hI ?hIx ?h0
      (fun ls A' c' => { tmps := #[.agg #[.int .i64 n, .slice A bs.length c, .slice A2 ps.length c2], .pointer (some ⟨w.heap.size, 0, none⟩), .pointer (some ⟨X, 0, none⟩), .slice A' ls.length c', undef, undef, .agg #[.int .i64 n, .slice A bs.length c, .slice A2 ps.length c2], .bool true, .bool false, .agg #[.int .i64 n, .slice A bs.length c, .slice A2 ps.length c2], .func (.func 84) #[.agg #[.int .i64 n, .slice A bs.length c, .slice A2 ps.length c2]] #[], .slice A' ls.length c', undef, undef, undef, undef, undef, undef, undef, undef, undef], defers := [] }) ?assign ?body ?done ?stop
    case hit =>
      intro l Inv Stop W hY hst hI hb
      exact callsIn_wide.2 (comings_c n ps hps hok l X _ bs.length c b2 o2 c2 A A2 W Inv Stop hY hst hI ((hDr.r.rp.below hb).more hb.size) (Nat.lt_of_lt_of_le hXr hb.size) (fun h => by have := hb20 h; omega))
    case hI =>
      rintro pre A' B' ⟨hj, hw, hc, hf⟩ hb
      exact ⟨hj.below hle hb, hw, (hb.cell (p := ⟨X, 0, none⟩) hXr).trans hc, (hb.frozen (p := ⟨X, 0, none⟩) hXr).trans hf⟩
    case hIx =>
      rintro cd pre A' B' ⟨rfl, hj, hw, hc⟩ hb
      exact ⟨rfl, hj.below hle hb, hw, (hb.cell (p := ⟨X, 0, none⟩) hXr).trans hc⟩
    case h0 => exact ⟨⟨hDr.bel, KX.below (Below.refl _ _)⟩, rfl, hc2, hf2⟩
    case assign =>
      intro l ls A' c' W K hK
      gi_wp2
      exact hK
    case stop =>
      rintro cd pre W hpre ⟨rfl, hj, hw, hc⟩ hm
      gi_wp2
      have hc5 : (W.putObj wr.heap.size (.deferred none)).cell? ⟨X, 0, none⟩ = some (.bool false) := (World.cell?_of_block (World.putObj_heap_other (k := X) (by omega))).trans hc
      refine ⟨by simp, .inl ⟨_, _, rfl, run_takeDeferred hm, ?_⟩⟩
      exact ⟨.bool false, by simp [results, Try.f39, go_sem, hc5], by rw [Hr.out, weakF_pre hpre hw], hj.bel.trans (below_putObj _ hle)⟩
    case done =>
      rintro xs W rfl ⟨hj, hw, hc, hf⟩ hm
      gi_wp2
      have hm4 : (W.setCell ⟨X, 0, none⟩ (.bool true)).heap[wr.heap.size]? = some (.deferred (some [])) := (Below.heap_setCell W ⟨X, 0, none⟩ _ _ (by show wr.heap.size ≠ X; omega)).trans hm
      have hc5 : ((W.setCell ⟨X, 0, none⟩ (.bool true)).putObj wr.heap.size (.deferred none)).cell? ⟨X, 0, none⟩ = some (.bool true) :=
        (World.cell?_of_block (World.putObj_heap_other (k := X) (by omega))).trans (World.cell?_setCell_same' _ _ _ (by rw [hc]; rfl))
      refine ⟨by simp, .inl ⟨_, _, rfl, run_takeDeferred hm4, ?_⟩⟩
      exact ⟨.bool true, by simp [results, Try.f39, go_sem, hc5], by rw [Hr.out, hw], (hj.bel.setCell (p := ⟨X, 0, none⟩) hwX2 _).trans (below_putObj _ hle)⟩
    case body =>
      rintro l pre ls A' b' o' c' W ⟨hj, hw, hc, hf⟩ hr hbX hlen hsz
      have hR := hDr.r.rd.kx hj.kx (fun h => by have := hb0 h; omega)
      have hP := hDr.r.rp.kx hj.kx (fun h => by have := hb20 h; omega)
      have hwD : w.heap.size ≠ X := by omega
      obtain ⟨p0, p1, p2⟩ : _ ∧ _ ∧ _ := ⟨hj.kx.cell hDr.r.c0 hwD, hj.kx.cell hDr.r.c1 hwD, hj.kx.cell hDr.r.c2 hwD⟩
      obtain ⟨q, r, hq⟩ : ∃ q r, planForR ⟨n, bs⟩ ps ls = (q, r) := ⟨_, _, rfl⟩
      have Hf : Hid (weakF ⟨n, bs⟩ ps (pre ++ [ls]) = fits q) := by
        unfold Hid
        rw [weakF_snoc, hq, hw]; rfl
      have hXW : X < W.heap.size := by omega
      have hql : q.bs.length ≤ 2000000 := by have h := planR_small ⟨n, bs⟩ ps ls Hd.out; rw [hq] at h; exact h
      cases hfq : fits q
      · have Hq := hide hfq
        clear hfq
        gi_wp2_with (first
          | (refine ⟨trivial, ?_⟩; gi_at_call 15; refine (CallsIn.inRound l (callsIn_wide.2 (planFor_q n bs ps ls q r hq A A2 A' b o c b2 o2 c2 b' o' c' _ W hn hn2 (by omega) (Nat.le_refl _) hR hP hr))).mono ?_; rintro e w4 ⟨A1, c1, g1, rfl, hr4, own4, hb4⟩; have hb5 : Below W.heap.size W (w4.alloc (.cells #[.int .i64 q.n, .slice A1 q.bs.length c1] 25)) := bthen hb4 (by go_grown); have hr5 := (hr4.below (show Below w4.heap.size w4 (w4.alloc (.cells #[.int .i64 q.n, .slice A1 q.bs.length c1] 25)) by go_grown)))
          | (refine ⟨trivial, ?_⟩; gi_at_call 19; refine (CallsIn.inRound l (callsIn_wide.2 (fitsOk_c q A1 g1 0 c1 _ _ hql (by simp) hr5))).mono ?_; rintro e w6 ⟨rfl, hb6a⟩; rw [Hq.out]; have hb6 := bthen hb5 hb6a; have hc6 := (hb6.cell (p := ⟨X, 0, none⟩) hXW).trans hc; have hf6 := (hb6.frozen (p := ⟨X, 0, none⟩) hXW).trans hf))
        exact ⟨fun k hk => (Below.heap_setCell _ _ _ _ (by show k ≠ X; omega)).trans (hb6.block k (by omega)), (KX.below hb6).trans (KX.set _ _), rfl, ⟨(hj.bel.trans (hb6.mono (Nat.le_trans hle (by omega)))).setCell (p := ⟨X, 0, none⟩) hwX2 _, (hj.kx.trans (KX.below hb6)).trans (KX.set _ _)⟩, by rw [Hf.out, Hq.out], World.cell?_setCell_same' _ _ _ (by rw [hc6]; rfl)⟩
      · have Hq := hide hfq
        clear hfq
        gi_wp2_with (first
          | (refine ⟨trivial, ?_⟩; gi_at_call 15; refine (CallsIn.inRound l (callsIn_wide.2 (planFor_q n bs ps ls q r hq A A2 A' b o c b2 o2 c2 b' o' c' _ W hn hn2 (by omega) (Nat.le_refl _) hR hP hr))).mono ?_; rintro e w4 ⟨A1, c1, g1, rfl, hr4, own4, hb4⟩; have hb5 : Below W.heap.size W (w4.alloc (.cells #[.int .i64 q.n, .slice A1 q.bs.length c1] 25)) := bthen hb4 (by go_grown); have hr5 := (hr4.below (show Below w4.heap.size w4 (w4.alloc (.cells #[.int .i64 q.n, .slice A1 q.bs.length c1] 25)) by go_grown)))
          | (refine ⟨trivial, ?_⟩; gi_at_call 19; refine (CallsIn.inRound l (callsIn_wide.2 (fitsOk_c q A1 g1 0 c1 _ _ hql (by simp) hr5))).mono ?_; rintro e w6 ⟨rfl, hb6a⟩; rw [Hq.out]; have hb6 := bthen hb5 hb6a; have hc6 := (hb6.cell (p := ⟨X, 0, none⟩) hXW).trans hc; have hf6 := (hb6.frozen (p := ⟨X, 0, none⟩) hXW).trans hf))
        exact ⟨fun k hk => hb6.block k (by omega), KX.below hb6, ⟨hj.bel.trans (hb6.mono (Nat.le_trans hle (by omega))), hj.kx.trans (KX.below hb6)⟩, by rw [Hf.out, Hq.out], hc6, hf6⟩
end Go.Proofs.Ytdijfkpccbkdfaa
