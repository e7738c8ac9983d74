/-
  impl.CountFit.
-/
import Derived.Test.YtdijfkpccbkdfaaL29
namespace Go.Proofs.Ytdijfkpccbkdfaa
set_option linter.unusedVariables false
set_option linter.unusedSimpArgs false
open Go Go.RowKit Go.Shelf Pp
attribute [local go_sem] Oper.semAt_some

/-- Whether the plan for these lengths fits, as a number. -/
noncomputable def fit1 (p : Pl) (ps : List Pr) (ls : List Int) : Int := if fits (planForR p ps ls).1 then 1 else 0
noncomputable def fitN (p : Pl) (ps : List Pr) (xs : List (List Int)) : Int := (xs.map (fit1 p ps)).sum
theorem fitN_snoc (p : Pl) (ps : List Pr) (pre : List (List Int)) (ls : List Int) : fitN p ps (pre ++ [ls]) = fitN p ps pre + fit1 p ps ls := by simp [fitN]
theorem fitN_bound (p : Pl) (ps : List Pr) (xs : List (List Int)) : 0 ≤ fitN p ps xs ∧ fitN p ps xs ≤ xs.length := by
  induction xs with
  | nil => simp [fitN]
  | cons a t ih =>
    have e : fitN p ps (a :: t) = fit1 p ps a + fitN p ps t := by simp [fitN]
    have h1 : 0 ≤ fit1 p ps a ∧ fit1 p ps a ≤ 1 := by unfold fit1; split <;> omega
    rw [e, List.length_cons]
    omega
theorem flat_len {α : Type} (f : Nat → List α) (k : Nat) (h : ∀ i, (f i).length ≤ k) (n : Nat) : ((List.range n).flatMap f).length ≤ n * k := by
  induction n with
  | zero => simp
  | succ n ih =>
    rw [List.range_succ, List.flatMap_append, List.length_append, Nat.succ_mul]
    have := h n
    have e : (List.flatMap f [n]).length = (f n).length := by simp
    rw [e]
    omega
theorem comeF_len (ps : List Pr) (hok : ∀ (i : Nat) (x : Pr), ps[i]? = some x → 0 ≤ x.l ∧ x.l ≤ x.h ∧ x.h ≤ 12) : ∀ (m : Nat) (ls : List Int), (comeF ps m ls).length ≤ 13 ^ m := by
  intro m
  induction m with
  | zero => intro ls; simp [comeF]
  | succ m ih =>
    intro ls
    rw [comeF]
    cases hx : ps[ls.length]? with
    | none => simp
    | some x =>
      obtain ⟨h1, h2, h3⟩ := hok _ _ hx
      refine Nat.le_trans (flat_len _ (13 ^ m) (fun i => ih _) _) ?_
      rw [Nat.pow_succ, Nat.mul_comm]
      exact Nat.mul_le_mul_left _ (by omega)

theorem KX.bel {X : Nat} {w A B : World} (h : KX X w A) (hb : Below w.heap.size A B) : KX X w B :=
  ⟨Nat.le_trans h.size hb.size, fun k o hk ho hc => (hb.block k (Array.getElem?_eq_some_iff.1 ho).1).trans (h.blk k o hk ho hc)⟩
theorem BdsR.kx {X : Nat} {W W' : World} {b o : Nat} {A : Option Addr} {xs : List Bd} (h : BdsR W W.heap.size b o A xs) (hk : KX X W W') (hb : 0 < xs.length → b ≠ X) : BdsR W' W'.heap.size b o A xs :=
  ⟨h.addr, fun hx => Nat.lt_of_lt_of_le (h.lt hx) hk.size, fun j x hj => hk.cell (h.c0 j x hj) (hb (by have := (List.getElem?_eq_some_iff.1 hj).1; omega)), fun j x hj => hk.cell (h.c1 j x hj) (hb (by have := (List.getElem?_eq_some_iff.1 hj).1; omega)), fun j x hj => hk.cell (h.c2 j x hj) (hb (by have := (List.getElem?_eq_some_iff.1 hj).1; omega))⟩

noncomputable def countR (p : Pl) (ps : List Pr) : Int := if dealOk p ps then fitN p ps (comeF ps ps.length []) else -1

theorem planR_small (p : Pl) (ps : List Pr) (ls : List Int) (hd : dealOk p ps = true) : (planForR p ps ls).1.bs.length ≤ 2000000 := by
  have h := dealOk_iff.1 hd
  have h1 := h.2.1
  have h2 := h.2.2.1
  have h3 := forBs_length ps ls
  unfold planForR
  split
  · simp only [planFor, List.length_append]; omega
  · simp
theorem KX.set {X i : Nat} (W : World) (v : Value) : KX X W (W.setCell ⟨X, i, none⟩ v) :=
  ⟨by simp, fun k o hk ho _ => (Below.heap_setCell W ⟨X, i, none⟩ v k hk).trans ho⟩
/-- What the rounds keep. -/
structure JR (w0 wr W : World) (X : Nat) : Prop where
  bel : Below w0.heap.size w0 W
  kx : KX X wr W
theorem JR.below {w0 wr A B : World} {X : Nat} (h : JR w0 wr A X) (hw : w0.heap.size ≤ wr.heap.size) (hb : Below wr.heap.size A B) : JR w0 wr B X := ⟨h.bel.trans (hb.mono hw), h.kx.bel hb⟩

set_option maxHeartbeats 4000000 in
set_option maxRecDepth 100000 in
theorem countFit_c (n : Int) (bs : List Bd) (ps : List Pr) (A A2 : Option Addr) (b o c b2 o2 c2 B : Nat) (w : World) (hn : bs.length ≤ 2000000) (hn2 : ps.length ≤ 2000000) (hB : B ≤ w.heap.size) (hR : BdsR w B b o A bs) (hP : CsR w B b2 o2 A2 ps.length (prCs ps)) :
    Calls Try.prog 42 #[.agg #[.int .i64 n, .slice A bs.length c, .slice A2 ps.length c2]] w fun e w' => e = .returned (.int .i64 (countR ⟨n, bs⟩ ps)) ∧ Below w.heap.size w w' := by
  refine (callsIn_wide (n := 9)).1 ?_
  have hb0 : 0 < bs.length → b < w.heap.size := fun h => Nat.lt_of_lt_of_le (hR.lt h) hB
  have hb20 : 0 < ps.length → b2 < w.heap.size := fun h => Nat.lt_of_lt_of_le (hP.lt h) hB
  have hD := pd_new (n := n) (c := c) (c2 := c2) (t := 28) hB hR hP
  clear hR hP hB
  cases hd : dealOk ⟨n, bs⟩ ps
  · have Hr : Hid (countR ⟨n, bs⟩ ps = -1) := by unfold Hid countR; rw [hd]; rfl
    have Hd := hide hd
    clear hd
    obtain ⟨p0, p1, p2⟩ : _ ∧ _ ∧ _ := ⟨hD.r.c0, hD.r.c1, hD.r.c2⟩
    refine callsIn_of_wp_marks Try.func42 rfl trivial ?_ rfl
    simp only [Try.ntmps42, List.size_toArray, List.length_cons, List.length_nil, Nat.reduceAdd, Nat.reduceSub, Array.replicate_succ, Array.replicate_zero, List.push_toArray, List.append_toArray, List.nil_append, List.cons_append]
    gi_wp2_with (refine ⟨trivial, ?_⟩; gi_at_call 45; refine (callsIn_wide.2 (dealOk_c n bs ps A A2 b o c b2 o2 c2 _ _ hn hn2 (Nat.le_refl _) hD.r.rd hD.r.rp)).mono ?_; rintro e w2 ⟨rfl, hb⟩; rw [Hd.out]; replace hD := hD.below hb; clear p0 p1 p2; have p0 := hD.r.c0; have p1 := hD.r.c1; have p2 := hD.r.c2)
    refine ⟨_, results_tmp rfl _ _ _, ?_⟩
    exact ⟨by rw [Hr.out]; rfl, hD.bel⟩
  · have Hr : Hid (countR ⟨n, bs⟩ ps = fitN ⟨n, bs⟩ ps (comeF ps ps.length [])) := by unfold Hid countR; rw [hd]; rfl
    have Hd := hide hd
    clear hd
    obtain ⟨p0, p1, p2⟩ : _ ∧ _ ∧ _ := ⟨hD.r.c0, hD.r.c1, hD.r.c2⟩
    refine callsIn_of_wp_marks Try.func42 rfl trivial ?_ rfl
    simp only [Try.ntmps42, List.size_toArray, List.length_cons, List.length_nil, Nat.reduceAdd, Nat.reduceSub, Array.replicate_succ, Array.replicate_zero, List.push_toArray, List.append_toArray, List.nil_append, List.cons_append]
    gi_wp2_with (refine ⟨trivial, ?_⟩; gi_at_call 45; refine (callsIn_wide.2 (dealOk_c n bs ps A A2 b o c b2 o2 c2 _ _ hn hn2 (Nat.le_refl _) hD.r.rd hD.r.rp)).mono ?_; rintro e w2 ⟨rfl, hb⟩; rw [Hd.out]; replace hD := hD.below hb; clear p0 p1 p2; have p0 := hD.r.c0; have p1 := hD.r.c1; have p2 := hD.r.c2; have hx := hD.r.ex)
    obtain ⟨wr, hwr⟩ : ∃ wr, w2.alloc (.cells #[.int .i64 0] 3) = wr := ⟨_, rfl⟩
    have hbr : Below w2.heap.size w2 wr := by rw [← hwr]; go_grown
    have hsr : wr.heap.size = w2.heap.size + 1 := by rw [← hwr]; simp
    have hX0 : wr.cell? ⟨w2.heap.size, 0, none⟩ = some (.int .i64 0) := by rw [← hwr]; simp [go_sem]
    have hF0 : wr.frozen? ⟨w2.heap.size, 0, none⟩ = false := by rw [← hwr]; simp [go_sem]
    have hDr := hD.below hbr
    rw [hwr]
    clear hwr hD p0 p1 p2 hb
    obtain ⟨X, hXe⟩ : ∃ X, w2.heap.size = X := ⟨_, rfl⟩
    rw [hXe] at hx hsr hX0 hF0 hbr ⊢
    clear hXe hbr
    have hdl := dealOk_iff.1 Hd.out
    have hps : ps.length ≤ 2 := hdl.2.2.1
    have hok : ∀ (i : Nat) (x : Pr), ps[i]? = some x → 0 ≤ x.l ∧ x.l ≤ x.h ∧ x.h ≤ 12 := by
      intro i x hx
      have h := hdl.2.2.2 i x (List.getElem?_eq_some_iff.1 hx).1 hx
      exact ⟨h.1.2.2.2.1, h.1.2.2.2.2.1, h.1.2.2.2.2.2⟩
    clear hdl
    have hXr : X < wr.heap.size := by omega
    have hwX : w.heap.size ≤ X := by omega
    have hle : w.heap.size ≤ wr.heap.size := by omega
    refine wp_rangeR (by omega) (gf := 84) (d := .agg #[.int .i64 n, .slice A bs.length c, .slice A2 ps.length c2]) rfl (enters_of Try.func84 (by kernel_rfl) rfl) X (fun xs => xs = comeF ps ps.length []) (fun xs => xs <+: comeF ps ps.length []) ?hit
      (fun xs W => JR w wr W X ∧ W.cell? ⟨X, 0, none⟩ = some (.int .i64 (wrap64 (fitN ⟨n, bs⟩ ps xs))) ∧ W.frozen? ⟨X, 0, none⟩ = false) (fun _ _ _ => False) ?hI (fun _ _ _ _ h _ => h) ?h0
      (fun ls A' c' => { tmps := #[.agg #[.int .i64 n, .slice A bs.length c, .slice A2 ps.length c2], .pointer (some ⟨w.heap.size, 0, none⟩), .int .i64 0, .pointer (some ⟨X, 0, none⟩), .slice A' ls.length c', undef, undef, .agg #[.int .i64 n, .slice A bs.length c, .slice A2 ps.length c2], .bool true, .bool false, .agg #[.int .i64 n, .slice A bs.length c, .slice A2 ps.length c2], .func (.func 84) #[.agg #[.int .i64 n, .slice A bs.length c, .slice A2 ps.length c2]] #[], .slice A' ls.length c', undef, undef, undef, undef, undef, undef, undef, undef, undef, undef, undef], defers := [] }) ?assign ?body ?done ?stop
    case hit =>
      intro l Inv Stop W hY hst hI hb
      exact callsIn_wide.2 (comings_c n ps hps hok l X _ bs.length c b2 o2 c2 A A2 W Inv Stop hY hst hI ((hDr.r.rp.below hb).more hb.size) (Nat.lt_of_lt_of_le hXr hb.size) (fun h => by have := hb20 h; omega))
    case hI =>
      rintro pre A' B' ⟨hj, hc, hf⟩ hb
      exact ⟨hj.below hle hb, (hb.cell (p := ⟨X, 0, none⟩) hXr).trans hc, (hb.frozen (p := ⟨X, 0, none⟩) hXr).trans hf⟩
    case h0 => exact ⟨⟨hDr.bel, KX.below (Below.refl _ _)⟩, by rw [hX0]; simp [fitN, wrap64], hF0⟩
    case assign =>
      intro l ls A' c' W K hK
      gi_wp2
      exact hK
    case stop => exact fun _ _ _ _ h _ => h.elim
    case done =>
      rintro xs W rfl ⟨hj, hc, -⟩ hm
      gi_wp2
      have hn0 := fitN_bound ⟨n, bs⟩ ps (comeF ps ps.length [])
      have hn1 := comeF_len ps hok ps.length []
      have hn2 : 13 ^ ps.length ≤ 13 ^ 2 := Nat.pow_le_pow_right (by omega) hps
      have hw : wrap64 (fitN ⟨n, bs⟩ ps (comeF ps ps.length [])) = fitN ⟨n, bs⟩ ps (comeF ps ps.length []) := by unfold wrap64; omega
      refine ⟨by simp, .inl ⟨_, _, rfl, run_takeDeferred hm, ?_⟩⟩
      refine ⟨_, results_tmp rfl _ _ _, ?_⟩
      exact ⟨by rw [Hr.out]; simp only [hw]; rfl, hj.bel.trans (below_putObj _ hle)⟩
    case body =>
      rintro l pre ls A' b' o' c' W ⟨hj, hc, hf⟩ hr hbX hlen hsz
      have hR := hDr.r.rd.kx hj.kx (fun h => by have := hb0 h; omega)
      have hP := hDr.r.rp.kx hj.kx (fun h => by have := hb20 h; omega)
      have hwD : w.heap.size ≠ X := by omega
      obtain ⟨p0, p1, p2⟩ : _ ∧ _ ∧ _ := ⟨hj.kx.cell hDr.r.c0 hwD, hj.kx.cell hDr.r.c1 hwD, hj.kx.cell hDr.r.c2 hwD⟩
      obtain ⟨q, r, hq⟩ : ∃ q r, planForR ⟨n, bs⟩ ps ls = (q, r) := ⟨_, _, rfl⟩
      have Hf : Hid (wrap64 (fitN ⟨n, bs⟩ ps (pre ++ [ls])) = if fits q then wrap64 (wrap64 (fitN ⟨n, bs⟩ ps pre) + 1) else wrap64 (fitN ⟨n, bs⟩ ps pre)) := by
        unfold Hid
        rw [fitN_snoc, fit1, hq]
        cases fits q
        · simp
        · simp [wrap64]; omega
      have hXW : X < W.heap.size := by omega
      have hql : q.bs.length ≤ 2000000 := by have h := planR_small ⟨n, bs⟩ ps ls Hd.out; rw [hq] at h; exact h
      cases hfq : fits q
      · have Hq := hide hfq
        have Hf2 : Hid (wrap64 (fitN ⟨n, bs⟩ ps (pre ++ [ls])) = wrap64 (fitN ⟨n, bs⟩ ps pre)) := by unfold Hid; rw [Hf.out, hfq]; rfl
        clear hfq
        gi_wp2_with (first
          | (refine ⟨trivial, ?_⟩; gi_at_call 15; refine (CallsIn.inRound l (callsIn_wide.2 (planFor_q n bs ps ls q r hq A A2 A' b o c b2 o2 c2 b' o' c' _ W hn hn2 (by omega) (Nat.le_refl _) hR hP hr))).mono ?_; rintro e w4 ⟨A1, c1, g1, rfl, hr4, own4, hb4⟩; have hb5 : Below W.heap.size W (w4.alloc (.cells #[.int .i64 q.n, .slice A1 q.bs.length c1] 25)) := bthen hb4 (by go_grown); have hr5 := (hr4.below (show Below w4.heap.size w4 (w4.alloc (.cells #[.int .i64 q.n, .slice A1 q.bs.length c1] 25)) by go_grown)))
          | (refine ⟨trivial, ?_⟩; gi_at_call 19; refine (CallsIn.inRound l (callsIn_wide.2 (fitsOk_c q A1 g1 0 c1 _ _ hql (by simp) hr5))).mono ?_; rintro e w6 ⟨rfl, hb6a⟩; rw [Hq.out]; have hb6 := bthen hb5 hb6a; have hc6 := (hb6.cell (p := ⟨X, 0, none⟩) hXW).trans hc; have hf6 := (hb6.frozen (p := ⟨X, 0, none⟩) hXW).trans hf))
        exact ⟨fun k hk => hb6.block k (by omega), KX.below hb6, ⟨hj.bel.trans (hb6.mono (Nat.le_trans hle (by omega))), hj.kx.trans (KX.below hb6)⟩, hc6.trans (by rw [Hf2.out]), hf6⟩
      · have Hq := hide hfq
        have Hf2 : Hid (wrap64 (fitN ⟨n, bs⟩ ps (pre ++ [ls])) = wrap64 (wrap64 (fitN ⟨n, bs⟩ ps pre) + 1)) := by unfold Hid; rw [Hf.out, hfq]; rfl
        clear hfq
        gi_wp2_with (first
          | (refine ⟨trivial, ?_⟩; gi_at_call 15; refine (CallsIn.inRound l (callsIn_wide.2 (planFor_q n bs ps ls q r hq A A2 A' b o c b2 o2 c2 b' o' c' _ W hn hn2 (by omega) (Nat.le_refl _) hR hP hr))).mono ?_; rintro e w4 ⟨A1, c1, g1, rfl, hr4, own4, hb4⟩; have hb5 : Below W.heap.size W (w4.alloc (.cells #[.int .i64 q.n, .slice A1 q.bs.length c1] 25)) := bthen hb4 (by go_grown); have hr5 := (hr4.below (show Below w4.heap.size w4 (w4.alloc (.cells #[.int .i64 q.n, .slice A1 q.bs.length c1] 25)) by go_grown)))
          | (refine ⟨trivial, ?_⟩; gi_at_call 19; refine (CallsIn.inRound l (callsIn_wide.2 (fitsOk_c q A1 g1 0 c1 _ _ hql (by simp) hr5))).mono ?_; rintro e w6 ⟨rfl, hb6a⟩; rw [Hq.out]; have hb6 := bthen hb5 hb6a; have hc6 := (hb6.cell (p := ⟨X, 0, none⟩) hXW).trans hc; have hf6 := (hb6.frozen (p := ⟨X, 0, none⟩) hXW).trans hf))
        exact ⟨fun k hk => (Below.heap_setCell _ _ _ _ (by show k ≠ X; omega)).trans (hb6.block k (by omega)), (KX.below hb6).trans (KX.set _ _), ⟨(hj.bel.trans (hb6.mono (Nat.le_trans hle (by omega)))).setCell (p := ⟨X, 0, none⟩) hwX _, (hj.kx.trans (KX.below hb6)).trans (KX.set _ _)⟩, (World.cell?_setCell_same' _ _ _ (by rw [hc6]; rfl)).trans (by rw [Hf2.out]), by rw [World.frozen?_setCell]; exact hf6⟩
end Go.Proofs.Ytdijfkpccbkdfaa
