/-
  impl.OptionsOf.
-/
import Derived.Test.YtledgblepdjjlaaL55
import Derived.Test.YtledgblepdjjlaaL57
namespace Go.Proofs.Ytledgblepdjjlaa
set_option linter.unusedVariables false
set_option linter.unusedSimpArgs false
open Go Go.RowKit Go.Shelf Pp
attribute [local go_sem] Oper.semAt_some

theorem app_listIn {F : Fence} {nf : Nat} {P : Program} (w : World) {ops : Array Oper} {rest : List Oper} {o : Oper} {a : Act} {Q : Exit → Act → World → Prop} (hgd : o.guard = none) (s x : Operand) (t : TypeId)
    (ho : o.op = .call { callee := .builtin .append, args := #[s, x], argTypes := #[t, t] })
    (base : Nat) (e : TypeId) (i : TypeInfo) (z : Value) (size bytes : Nat) (ht : P.underlying t = some (.slice e)) (hi : P.info? e = some i) (hz : i.zero = some z)
    (hsize : i.size = size) (hby : i.bytes = bytes) (hzs : z.cells.size = size) (hsz : 0 < size) (v : Value) (n : Nat) (xs : List Value) (hs : a.eval s = v) (hown : w.ownsRow base e size v n xs)
    (A : Option Addr) (m c : Nat) (news : List Value) (hx : a.eval x = .slice A m c) (hl : news.length = m * size) (hA : NewsAt w A m news) (h1 : ∀ u ∈ news, u.oneCell' = true)
    (hlen : (n + m) * bytes ≤ 140737488355328) (hmx : n + m ≤ 9000000000000) (hbase : base ≤ w.heap.size)
    (h : ∀ A' c' w', w'.ownsRow base e size (.slice A' (n + m) c') (n + m) (xs ++ news) → w.grownBy w' v.ownBlock → ((Value.slice A' (n + m) c').ownBlock = v.ownBlock ∨ (Value.slice A' (n + m) c').ownBlock = some w.heap.size) → wpListIn F nf P ops Q rest (a.put o.dst (.slice A' (n + m) c')) w') : wpListIn F nf P ops Q (o :: rest) a w := by
  refine wpListIn_plain hgd fun K hK' => ?_
  obtain ⟨v', w', hrun, h2, h3, h4⟩ := app_run (P := P) w base t o.type e i z size bytes ht hi hz hsize hby hzs hsz v n xs hown A m c news hl hA h1 hlen hmx hbase
  unfold Oper.wpIn
  refine ⟨?_, ?_⟩
  · simp [Oper.about, ho, resolve, Target.leads, Sem.run_pure]
  · rw [Oper.semAt_plain F _ _ (by rw [ho]; intro c hc'; cases hc')]
    simp [execOp, ho, resolve, invoke, builtin, hs, hx, hrun, Result.andThen]
    obtain ⟨A', g', c', rfl, _⟩ := own_form h2
    exact hK' _ _ (h A' c' w' h2 h3 h4)

/-- The box X, and what block its slice owns. -/
def Zo (B X : Nat) : World → Nat → Prop := fun W k => k = X ∨ (B ≤ k ∧ ∃ n c, W.cell? ⟨X, 0, none⟩ = some (.slice (some ⟨k, 0, none⟩) n c))
/-- What a round has made so far lies in X. -/
structure OQ (B X : Nat) (W : World) (base : Nat) (L : List Int) (A : Option Addr) (c : Nat) : Prop where
  c0 : W.cell? ⟨X, 0, none⟩ = some (.slice A L.length c)
  f0 : W.frozen? ⟨X, 0, none⟩ = false
  own : OwnI base W (.slice A L.length c) L
  bX : X < base
theorem OQ.kc {B X base : Nat} {W W' : World} {L : List Int} {A : Option Addr} {c : Nat} (h : OQ B X W base L A c) {B0 : Nat} (hk : KC W W') (hb : Below B0 W W') (hX : X < B0) : OQ B X W' base L A c :=
  ⟨(hb.cell (p := ⟨X, 0, none⟩) hX).trans h.c0, (hb.frozen (p := ⟨X, 0, none⟩) hX).trans h.f0, own_kc h.own hk, h.bX⟩
theorem OQ.zlt {B X base : Nat} {W : World} {L : List Int} {A : Option Addr} {c : Nat} (h : OQ B X W base L A c) (hX : X < W.heap.size) : ∀ k, Zo B X W k → k < W.heap.size := by
  rintro k (rfl | ⟨_, n, c', hc⟩)
  · exact hX
  · rw [h.c0] at hc
    cases hc
    exact (h.own.lt k rfl).2
theorem OQ.far {B X base : Nat} {W W5 : World} {L : List Int} {A1 : Option Addr} {c1 : Nat} (ho : OQ B X W base L A1 c1) (hX : X < W.heap.size) (ob : Obj) (hg : (W.alloc ob).grownBy W5 (Value.slice A1 L.length c1).ownBlock) :
    W5.cell? ⟨X, 0, none⟩ = some (.slice A1 L.length c1) ∧ W5.frozen? ⟨X, 0, none⟩ = false := by
  have hal : Below W.heap.size W (W.alloc ob) := by go_grown
  have ne : some X ≠ (Value.slice A1 L.length c1).ownBlock := fun e => by have := (ho.own.lt X e.symm).1; have := ho.bX; omega
  exact ⟨(hg.cell_far ⟨X, 0, none⟩ (by simp; omega) ne).trans (((bcell hal).1 X 0 hX).trans ho.c0), (hg.frozen_far ⟨X, 0, none⟩ (by simp; omega) ne).trans (((bcell hal).2 X 0 hX).trans ho.f0)⟩
theorem OQ.put {B X base : Nat} {W W5 : World} {L : List Int} {A1 A5 : Option Addr} {c1 c5 : Nat} {v : Int} (ho : OQ B X W base L A1 c1) (hBb : B ≤ base) (hX : X < W.heap.size) (ob : Obj) (hg : (W.alloc ob).grownBy W5 (Value.slice A1 L.length c1).ownBlock)
    (hat : (Value.slice A5 (L.length + 1) c5).ownBlock = (Value.slice A1 L.length c1).ownBlock ∨ (Value.slice A5 (L.length + 1) c5).ownBlock = some (W.alloc ob).heap.size)
    (hown : W5.ownsRow base 3 1 (.slice A5 (L.length + 1) c5) (L.length + 1) (L.map (Value.int .i64) ++ [.int .i64 v])) :
    KZ (Zo B X) W (W5.setCell ⟨X, 0, none⟩ (.slice A5 (L.length + 1) c5)) ∧ OQ B X (W5.setCell ⟨X, 0, none⟩ (.slice A5 (L ++ [v]).length c5)) base (L ++ [v]) A5 c5 := by
  have hal : Below W.heap.size W (W.alloc ob) := by go_grown
  obtain ⟨c5x, f5x⟩ := ho.far hX ob hg
  have hs := hg.size
  have hs1 : (W.alloc ob).heap.size = W.heap.size + 1 := by simp
  have hzo : ∀ k, (Value.slice A1 L.length c1).ownBlock = some k → Zo B X W k := by
    intro k hk
    rcases ho.own.2 with ⟨e, _⟩ | ⟨g, cap, cur, e, hg1, _⟩
    · rw [e] at hk; cases hk
    · have e2 := e
      rw [e] at hk
      injection e2 with e3 e4 e5
      have : g = k := by simpa [Value.ownBlock] using hk
      subst this
      exact .inr ⟨by omega, L.length, c1, by rw [ho.c0, e3]⟩
  have hlen : (L ++ [v]).length = L.length + 1 := by simp
  have hne5 : (Value.slice A5 (L.length + 1) c5).ownBlock ≠ some X := fun e => by have := (hown.lt X e).1; have := ho.bX; omega
  refine ⟨⟨by simp; omega, fun k o hk ho2 hc => ?_, fun k hk => ?_⟩, ⟨?_, ?_, ?_, ho.bX⟩⟩
  · have hkl := (Array.getElem?_eq_some_iff.1 ho2).1
    rw [Below.heap_setCell W5 ⟨X, 0, none⟩ _ k (fun e => hk (.inl e)), hg.block k (by omega) (fun e => hk (hzo k e.symm)), hal.block k hkl]
    exact ho2
  · rcases hk with hk | ⟨hB, n, c, hk⟩
    · exact .inl (.inl hk)
    · rw [World.cell?_setCell_same' _ _ _ (by rw [c5x]; rfl)] at hk
      injection hk with hk
      injection hk with e1 e2 e3
      rcases hat with e | e
      · rw [e1] at e
        exact .inl (hzo k (by rw [← e]; rfl))
      · rw [e1] at e
        have : k = W.heap.size + 1 := by simpa [Value.ownBlock] using e
        exact .inr (by omega)
  · exact World.cell?_setCell_same' _ _ _ (by rw [c5x]; rfl)
  · rw [World.frozen?_setCell]; exact f5x
  · unfold OwnI
    rw [hlen, List.map_append]
    exact own_set hown hne5 _
set_option maxHeartbeats 4000000 in
set_option maxRecDepth 100000 in
theorem optionsOf_q (n : Int) (bs : List Bd) (cs : List (List Bd)) (ch : Int) (q : List Int) (hq : optionsOf ⟨n, bs⟩ cs ch = q) (A A2 : Option Addr) (b o c b2 o2 c2 B : Nat) (w : World) (hn : bs.length ≤ 2000000) (hn2 : cs.length ≤ 2000000) (hn3 : ∀ l ∈ cs, l.length ≤ 2000000) (hB : B ≤ w.heap.size) (hR : BdsR w B b o A bs) (hC : ChR w B b2 o2 A2 cs) :
    Calls Try.prog 60 #[.agg #[.int .i64 n, .slice A bs.length c, .slice A2 cs.length c2], .int .i64 ch] w fun e w' => ∃ A1 c1 g1, e = .returned (.slice A1 q.length c1) ∧ IntsR w' w'.heap.size g1 0 A1 q ∧ OwnI w.heap.size w' (.slice A1 q.length c1) q ∧ Below w.heap.size w w' := by
  refine (callsIn_wide (n := 9)).1 ?_
  have hD := (cc_new (n := n) (c := c) (c2 := c2) (t := 37) hB hR hC).alloc (.cells #[.int .i64 ch] 3)
  obtain ⟨wa, hwa⟩ : ∃ wa, (w.alloc (.cells #[.int .i64 n, .slice A bs.length c, .slice A2 cs.length c2] 37)).alloc (.cells #[.int .i64 ch] 3) = wa := ⟨_, rfl⟩
  rw [hwa] at hD
  have hca : wa.cell? ⟨w.heap.size + 1, 0, none⟩ = some (.int .i64 ch) := by rw [← hwa]; simp [go_sem]
  have hsa : wa.heap.size = w.heap.size + 2 := by rw [← hwa]; simp
  obtain ⟨p0, p1, p2⟩ : _ ∧ _ ∧ _ := ⟨hD.r.c0, hD.r.c1, hD.r.c2⟩
  have hwc : IntKind.i64.wrap ((cs.length : Int) - 1) = (cs.length : Int) - 1 := IntWalk.i64_in _ (by omega)
  unfold optionsOf at hq
  cases hd : caseOk ⟨n, bs⟩ cs
  · rw [hd] at hq
    simp only [Bool.false_and, Bool.false_eq_true, if_false] at hq
    have Hd := hide hd
    clear hd
    refine callsIn_of_wp_marks Try.func60 rfl trivial ?_ rfl
    simp only [Try.ntmps60, List.size_toArray, List.length_cons, List.length_nil, Nat.reduceAdd, Nat.reduceSub, Array.replicate_succ, Array.replicate_zero, List.push_toArray, List.append_toArray, List.nil_append, List.cons_append]
    gi_wp2_with (refine ⟨trivial, ?_⟩; gi_at_call 44; refine (callsIn_wide.2 (caseOk_c n bs cs A A2 b o c b2 o2 c2 _ _ hn hn2 hn3 (Nat.le_refl _) hD.r.rd hD.r.rc)).mono ?_; rintro e w2 ⟨rfl, hb⟩; rw [Hd.out]; replace hD := hD.below hb; clear p0 p1 p2; have p0 := hD.r.c0; have p1 := hD.r.c1; have p2 := hD.r.c2)
    refine ⟨trivial, ?_⟩
    gi_wp2_with fail
    refine ⟨_, results_tmp rfl _ _ _, ?_⟩
    subst hq
    exact ⟨none, 0, 0, rfl, IntsR.nil _ _ _, ⟨rfl, .inl ⟨rfl, rfl⟩⟩, hD.bel⟩
  cases hi : inB ch 0 ((cs.length : Int) - 1)
  · rw [hi] at hq
    simp only [Bool.and_false, Bool.false_eq_true, if_false] at hq
    have Hd := hide hd
    have Hi := hide hi
    clear hd hi
    refine callsIn_of_wp_marks Try.func60 rfl trivial ?_ rfl
    simp only [Try.ntmps60, List.size_toArray, List.length_cons, List.length_nil, Nat.reduceAdd, Nat.reduceSub, Array.replicate_succ, Array.replicate_zero, List.push_toArray, List.append_toArray, List.nil_append, List.cons_append]
    gi_wp2_with (first
      | (refine ⟨trivial, ?_⟩; gi_at_call 44; refine (callsIn_wide.2 (caseOk_c n bs cs A A2 b o c b2 o2 c2 _ _ hn hn2 hn3 (Nat.le_refl _) hD.r.rd hD.r.rc)).mono ?_; rintro e w2 ⟨rfl, hb⟩; rw [Hd.out]; have hca2 := ((bcell hb).1 (w.heap.size + 1) 0 (by omega)).trans hca; replace hD := hD.below hb; clear p0 p1 p2; have p0 := hD.r.c0; have p1 := hD.r.c1; have p2 := hD.r.c2)
      | (refine ⟨trivial, ?_⟩; gi_at_call 71; refine (callsIn_wide.2 (in_c ch 0 ((cs.length : Int) - 1) _)).mono ?_; rintro e w5 ⟨rfl, rfl⟩; rw [Hi.out]))
    refine ⟨_, results_tmp rfl _ _ _, ?_⟩
    subst hq
    exact ⟨none, 0, 0, rfl, IntsR.nil _ _ _, ⟨rfl, .inl ⟨rfl, rfl⟩⟩, hD.bel⟩
  have hi2 := inB_iff.1 hi
  obtain ⟨h, rfl⟩ : ∃ h : Nat, ch = (h : Int) := Int.eq_ofNat_of_zero_le hi2.1
  have hhl : h < cs.length := by omega
  obtain ⟨ws, hws⟩ : ∃ ws, Pp.ways ⟨n, bs⟩ cs = ws := ⟨_, rfl⟩
  obtain ⟨F, hFe⟩ : ∃ F, wayP ⟨n, bs⟩ cs = F := ⟨_, rfl⟩
  obtain ⟨Ok, hOk⟩ : ∃ Ok, (fun ls => picksOk cs ls = true ∧ fitsW ⟨n, bs⟩ cs ls = true) = Ok := ⟨_, rfl⟩
  have hn1 : ws.length ≤ 81 := by rw [← hws]; exact ways_len _ _
  rw [hd, hi, hws] at hq
  simp only [Bool.and_self, if_true, Int.toNat_natCast] at hq
  have Hq : Hid (srt (optL h ws) = q) := hq
  have HOl : Hid (∀ ls, Ok ls → ls.length = cs.length) := fun ls hl => by rw [← hOk] at hl; exact (picksOk_iff.1 hl.1).1
  have HOv : Hid (∀ ls, Ok ls → 0 ≤ ls.getD h 0 ∧ ls.getD h 0 < 3) := fun ls hl => by
    rw [← hOk] at hl
    obtain ⟨e1, e2⟩ := picksOk_iff.1 hl.1
    have hk := List.getElem?_eq_getElem (show h < ls.length by omega)
    have hc' := List.getElem?_eq_getElem hhl
    have h1 := e2 h _ _ hc' hk
    have h2 := (listOk_iff.1 ((caseOk_iff.1 hd).2.2.2 _ (List.mem_of_getElem? hc'))).1
    rw [List.getD_eq_getElem?_getD, hk]
    simp only [Option.getD_some]
    omega
  have h4 := (caseOk_iff.1 hd).2.2.1
  have Hd := hide hd
  have Hi := hide hi
  clear hd hi hq hi2
  refine callsIn_of_wp_marks Try.func60 rfl trivial ?_ rfl
  simp only [Try.ntmps60, List.size_toArray, List.length_cons, List.length_nil, Nat.reduceAdd, Nat.reduceSub, Array.replicate_succ, Array.replicate_zero, List.push_toArray, List.append_toArray, List.nil_append, List.cons_append]
  gi_wp2_with (first
    | (refine ⟨trivial, ?_⟩; gi_at_call 44; refine (callsIn_wide.2 (caseOk_c n bs cs A A2 b o c b2 o2 c2 _ _ hn hn2 hn3 (Nat.le_refl _) hD.r.rd hD.r.rc)).mono ?_; rintro e w2 ⟨rfl, hb⟩; rw [Hd.out]; have hca2 := ((bcell hb).1 (w.heap.size + 1) 0 (by omega)).trans hca; have hs2 := hb.size; replace hD := hD.below hb; clear p0 p1 p2; have p0 := hD.r.c0; have p1 := hD.r.c1; have p2 := hD.r.c2)
    | (refine ⟨trivial, ?_⟩; gi_at_call 71; refine (callsIn_wide.2 (in_c (h : Int) 0 ((cs.length : Int) - 1) _)).mono ?_; rintro e w5 ⟨rfl, rfl⟩; rw [Hi.out]; have hxx := hD.r.ex))
  clear p0 p1 p2
  have hbal : Below w2.heap.size w2 (w2.alloc (.cells #[.slice none 0 0] 28)) := by go_grown
  have hDr := hD.below hbal
  have hcr := ((bcell hbal).1 (w.heap.size + 1) 0 (by omega)).trans hca2
  have hO : OQ w.heap.size w2.heap.size (w2.alloc (.cells #[.slice none 0 0] 28)) (w2.heap.size + 1 + 2) [] none 0 := ⟨by simp [go_sem], by simp [go_sem], World.ownsRow_nil _ _ _ _, by omega⟩
  have hsr : (w2.alloc (.cells #[.slice none 0 0] 28)).heap.size = w2.heap.size + 1 := by simp
  obtain ⟨wr, hwr⟩ : ∃ wr, w2.alloc (.cells #[.slice none 0 0] 28) = wr := ⟨_, rfl⟩
  rw [hwr] at hDr hcr hO hsr ⊢
  obtain ⟨X, hX⟩ : ∃ X, w2.heap.size = X := ⟨_, rfl⟩
  rw [hX] at hO hsr hxx ⊢
  have hXr : X < wr.heap.size := by omega
  have hwX : w.heap.size + 2 ≤ X := by omega
  have hle : w.heap.size ≤ wr.heap.size := by omega
  rw [← hsr] at hO
  clear hsr
  clear hwr hX hbal hD hca hca2 hb hs2 hsa
  have hZl : ZLow wr.heap.size (Zo w.heap.size X) := by
    rintro A0 C0 hA hc k (h | ⟨h, n0, c0, hcc⟩)
    · exact .inl h
    · exact .inr ⟨h, n0, c0, (World.cell?_of_block (hc X hXr)).symm.trans hcc⟩
  refine wp_rangeZ (n := 9) (by omega) (gf := 97) (d := .agg #[.int .i64 n, .slice A bs.length c, .slice A2 cs.length c2]) rfl (enters_of Try.func97 (by kernel_rfl) rfl) w.heap.size (Zo w.heap.size X) F Ok hZl (fun xs => xs = ws) (fun xs => xs <+: ws) ?hit
    (fun xs W => JZ (Zo w.heap.size X) w wr W ∧ Hid (OptOk (optL h xs)) ∧ ∃ A1 c1, OQ w.heap.size X W (wr.heap.size + 2) (optL h xs) A1 c1)
    (fun _ _ _ => False) ?hI (fun _ _ _ _ h _ _ => h) ?hIZ ?h0
    (fun ls A' c' A4 c4 a1 _ => a1 = { tmps := #[.agg #[.int .i64 n, .slice A bs.length c, .slice A2 cs.length c2], .int .i64 (h : Int), .pointer (some ⟨w.heap.size, 0, none⟩), .pointer (some ⟨w.heap.size + 1, 0, none⟩), .slice none 0 0, .pointer (some ⟨X, 0, none⟩), .slice A' ls.length c', undef, .agg #[.int .i64 n, .slice A bs.length c, .slice A2 cs.length c2], .bool true, .bool false, .bool false, .int .i64 (h : Int), .pointer (some ⟨w.heap.size, 2, none⟩), .slice A2 cs.length c2, .int .i64 (cs.length : Int), .int .i64 ((cs.length : Int) - 1), .bool true, .bool false, .bool false, .agg #[.int .i64 n, .slice A bs.length c, .slice A2 cs.length c2], .func (.func 97) #[.agg #[.int .i64 n, .slice A bs.length c, .slice A2 cs.length c2]] #[], .slice A' ls.length c', .agg #[.int .i64 (F ls).n, .slice A4 (F ls).bs.length c4], undef, undef, undef, undef, undef, undef, undef, undef, undef, undef, undef, undef, undef, undef, undef], defers := [] }) (fun _ _ _ _ _ _ _ _ h _ => h) ?assign ?body ?done ?stop
  case hit =>
    intro l Inv Stop W hY hst hsz hI hb
    exact callsIn_wide.2 (ways_q n bs cs ws F Ok hws hFe hOk _ w.heap.size _ l Inv Stop b o b2 o2 c c2 A A2 W hn hn2 hn3 ⟨hY, hst, hsz, hZl.more hb.size, fun _ k h => by
      rcases h with h | ⟨h, _⟩
      · omega
      · exact h, Nat.le_trans hle hb.size⟩ hI ((hR.more hB).below (bthen hDr.bel hb)) ((hC.more hB).below (bthen hDr.bel hb)))
  case hI =>
    rintro pre A' B' ⟨hj, hop, A1, c1, ho⟩ hkc hb
    exact ⟨⟨hj.bel.trans (hb.mono hle), hj.kz.bel hZl (Nat.le_refl _) hb⟩, hop, A1, c1, ho.kc hkc hb hXr⟩
  case hIZ =>
    rintro pre A' ⟨hj, hop, A1, c1, ho⟩ k hk
    exact ho.zlt (Nat.lt_of_lt_of_le hXr hj.kz.size) k hk
  case h0 => exact ⟨⟨hDr.bel, KZ.refl _ _⟩, ⟨List.nodup_nil, by simp [optL]⟩, none, 0, hO⟩
  case assign =>
    intro l ls A' c' A4 c4 W K hK
    gi_wp2
    exact hK _ _ (Below.refl _ _) rfl
  case stop => exact fun _ _ _ _ h _ => h.elim
  case done =>
    rintro xs W hxs ⟨hj, hop, A1, c1, ho⟩ hm
    rw [← hxs] at hn1
    have HE : Hid (srt (optL h xs) = q) := by rw [hxs]; exact Hq
    have hll := optL_len h xs
    obtain ⟨L, hL⟩ : ∃ L, optL h xs = L := ⟨_, rfl⟩
    rw [hL] at ho HE hll
    clear hL
    have hsz9 := hj.kz.size
    have c0 := ho.c0
    rcases Nat.eq_zero_or_pos L.length with h0 | h0
    · obtain rfl := List.eq_nil_of_length_eq_zero h0
      simp only [List.length_nil] at c0
      gi_wp2_with (refine ⟨trivial, ?_⟩; gi_at_call 110; refine (callsIn_wide.2 (sortNil_c A1 c1 _)).mono ?_; rintro e w6 ⟨rfl, rfl⟩)
      refine ⟨by simp, .inl ⟨_, _, rfl, run_takeDeferred hm, ?_⟩⟩
      refine ⟨_, results_tmp rfl _ _ _, ?_⟩
      have e := HE.out
      have e2 : srt [] = [] := by simp [srt]
      rw [e2] at e
      subst e
      exact ⟨A1, c1, 0, rfl, IntsR.nil _ _ _, own_kc (own_less ho.own (by omega)) (KC.putObj _ hm rfl), hj.bel.trans (below_putObj _ hle)⟩
    · obtain ⟨A5, g, c5, hv, hr1, hr2, _⟩ := own_form ho.own
      injection hv with e1 e2 e3
      subst e1 e3
      obtain rfl := hr1 h0
      have hgg := hr2 h0
      have hown := ho.own
      have hgX : g ≠ X := by omega
      have hgm : g ≠ wr.heap.size := by omega
      gi_wp2_with (refine ⟨trivial, ?_⟩; gi_at_call 110; refine (callsIn_wide.2 (sort_c L (wr.heap.size + 2) g c1 _ (by omega) hown)).mono ?_; rintro e w6 ⟨rfl, hs6, hg6⟩; have c6 := hg6.cell c0 (by simp; omega))
      have hm6 : w6.heap[wr.heap.size]? = some (.deferred (some [])) := (hg6.block _ (Array.getElem?_eq_some_iff.1 hm).1 (fun e9 => hgm (Option.some.inj e9).symm)).trans hm
      refine ⟨by simp, .inl ⟨_, _, rfl, run_takeDeferred hm6, ?_⟩⟩
      refine ⟨_, results_tmp rfl _ _ _, ?_⟩
      have e := HE.out
      have hs9 : OwnI (wr.heap.size + 2) (w6.putObj wr.heap.size (.deferred none)) (.slice (some ⟨g, 0, none⟩) (srt L).length c1) (srt L) := own_kc hs6 (KC.putObj _ hm6 rfl)
      obtain ⟨g9, hr9⟩ := own_IntsR hs9
      have hl9 := srt_len L
      rw [e] at hr9 hl9
      rw [e] at hs9
      exact ⟨_, c1, g9, by rw [hl9]; rfl, hr9, own_less hs9 (by omega), ((hj.bel.grown hg6 (Nat.le_trans hle hsz9) (fun q hq => by have e := Option.some.inj hq; subst e; omega))).trans (below_putObj _ hle)⟩
  case body =>
    rintro l pre ls A' b' o' c' A4 b4 o4 c4 a1 W ⟨hj, hop, A1, c1, ho⟩ hok hr hbX hr2 hbX2 hoz hsz rfl
    obtain ⟨i0, hi0, hz0, hz1, hz2⟩ := info_parts infoI
    have hll := HOl.out ls hok
    have hhl' : (h : Int) < (ls.length : Int) := by omega
    obtain rfl := hr.addr (by omega)
    have k0 := hr.cell h (by omega)
    have hXW : X < W.heap.size := by omega
    have hnz1 : ¬ Zo w.heap.size X wr (w.heap.size + 1) := by
      rintro (e | ⟨_, n0, c0, e⟩)
      · omega
      · rw [hO.c0] at e; cases e
    have hchW : W.cell? ⟨w.heap.size + 1, 0, none⟩ = some (.int .i64 (h : Int)) := hj.kz.cell hcr hnz1
    have hOs : Hid (optL h (pre ++ [ls]) = optAcc (optL h pre) (ls.getD h 0)) := optL_snoc h pre ls
    have hbl : Hid (Ok ls) := hok
    have Hv : Hid (0 ≤ ls.getD h 0 ∧ ls.getD h 0 < 3) := HOv.out ls hok
    generalize ls.getD h 0 = v at k0 hOs Hv
    obtain ⟨L, hL⟩ : ∃ L, optL h pre = L := ⟨_, rfl⟩
    rw [hL] at ho hOs hop
    have hpre := hL
    clear hL
    have hL3 := hop.out.len
    obtain ⟨g1, hr1⟩ := own_IntsR ho.own
    have c0 := ho.c0
    have f0 := ho.f0
    by_cases hin : v ∈ L
    · have Hs : Hid (optL h (pre ++ [ls]) = L) := by unfold Hid; rw [hOs.out]; unfold optAcc; rw [if_pos hin]
      have Hin := hide hin
      clear hin
      gi_wp2_with (refine ⟨trivial, ?_⟩; gi_at_call 109; refine (CallsIn.inRound l (callsIn_wide.2 (contains_c L v A1 g1 0 c1 _ W (by omega) (Nat.le_refl _) hr1))).mono ?_; rw [decide_eq_true Hin.out]; rintro e w6 ⟨rfl, rfl⟩)
      exact ⟨fun k hk => rfl, KZ.refl _ _, hj, by rw [Hs.out]; exact hop, A1, c1, by rw [Hs.out]; exact ho⟩
    · have Hs : Hid (optL h (pre ++ [ls]) = L ++ [v]) := by unfold Hid; rw [hOs.out]; unfold optAcc; rw [if_neg hin]
      have hop2 : Hid (OptOk (L ++ [v])) := by
        have h9 := hop.out.acc (v := v) Hv.out
        unfold optAcc at h9
        rw [if_neg hin] at h9
        exact h9
      have Hin := hide hin
      clear hin
      have hownA := ho.own.alloc (.cells #[.int .i64 v] 3)
      have hsA : wr.heap.size + 2 ≤ (W.alloc (.cells #[.int .i64 v] 3)).heap.size := by simp; omega
      gi_wp2_with (first
        | (refine ⟨trivial, ?_⟩; gi_at_call 109; refine (CallsIn.inRound l (callsIn_wide.2 (contains_c L v A1 g1 0 c1 _ W (by omega) (Nat.le_refl _) hr1))).mono ?_; rw [decide_eq_false Hin.out]; rintro e w6 ⟨rfl, rfl⟩)
        | (refine app_listIn _ rfl (.tmp 32) (.tmp 34) _ rfl (wr.heap.size + 2) 3 i0 _ 1 8 Try.underlying28 hi0 hz0 hz1 hz2 rfl (by omega) (.slice A1 L.length c1) L.length (L.map (Value.int .i64)) rfl hownA _ 1 _ [.int .i64 v] rfl rfl (NewsAt.block (cs := #[.int .i64 v]) (at_new rfl)) (by simp [Value.oneCell']) (by omega) (by omega) hsA ?_; intro A5 c5 w5 hown5 hg5 hat5; obtain ⟨c5x, f5x⟩ := ho.far hXW _ hg5))
      obtain ⟨hkz, hoq⟩ := ho.put (by omega) hXW _ hg5 hat5 hown5
      have hb5 : Below w.heap.size w (w5.setCell ⟨X, 0, none⟩ (.slice A5 (L.length + 1) c5)) := ((hj.bel.alloc (o := .cells #[.int .i64 v] 3) (by omega)).grown hg5 (by omega) (fun q hq => by have := (ho.own.lt q hq).1; omega)).setCell (by dsimp only; omega) _
      exact ⟨fun k hk => (Below.heap_setCell w5 ⟨X, 0, none⟩ _ k (by show k ≠ X; omega)).trans ((hg5.block k (by simp; omega) (fun e => by have := (ho.own.lt k e.symm).1; omega)).trans (Below.heap_alloc _ _ _ (by omega))), hkz, ⟨hb5, hj.kz.trans hkz⟩, by rw [Hs.out]; exact hop2, A5, c5, by rw [Hs.out]; simpa using hoq⟩
end Go.Proofs.Ytledgblepdjjlaa
