/-
  impl: LoweredBy.
-/
import Derived.Test.YtledgblepdjjlaaP22
import Derived.Test.YtledgblepdjjlaaL11a
namespace Go.Proofs.Ytledgblepdjjlaa
set_option linter.unusedVariables false
set_option linter.unusedSimpArgs false
open Go.RowKit Pp

theorem OX.setM {w0 W : World} {Y X : Nat} {n : Int} {g c k : Nat} {bs : List Bd} {x : Bd} (v : Int) (h : OX w0 W Y X n (some ⟨g, 0, none⟩) c bs) (hx : bs[k]? = some x) :
    OX w0 (W.setCell ⟨g, k * 3 + 2, none⟩ (.int .i64 v)) Y X n (some ⟨g, 0, none⟩) c (bs.set k ⟨x.f, x.t, v⟩) ∧ W.frozen? ⟨g, k * 3 + 2, none⟩ = false := by
  obtain ⟨o1, o2⟩ := own_setM v h.own hx
  have hl : (bs.set k ⟨x.f, x.t, v⟩).length = bs.length := List.length_set
  have hg : w0.heap.size ≤ g := (h.own.lt g rfl).1
  have hgY : g ≠ Y := fun e => h.neY (by rw [← e]; rfl)
  have hgX : g ≠ X := fun e => h.neX (by rw [← e]; rfl)
  refine ⟨⟨h.bel.setCell hg _, h.z.grown (grown_set W ⟨g, k * 3 + 2, none⟩ _) (fun q hq => by cases hq; exact hgY), h.xy, h.lo, by simpa using h.ex, (set_other hgX).trans h.c0, ?_, fun i => by rw [← h.cf i]; simp, o1, ?_, ?_⟩, o2⟩
  · rw [hl]; exact (set_other hgX).trans h.c1
  · rw [hl]; exact h.neY
  · rw [hl]; exact h.neX
/-- The first k bounds are lowered. -/
def lowTo (v : Int) (k : Nat) (bs : List Bd) : List Bd := (bs.take k).map (lowB v) ++ bs.drop k
theorem lowTo_len (v : Int) (k : Nat) (bs : List Bd) : (lowTo v k bs).length = bs.length := by unfold lowTo; simp; omega
theorem lowTo_at {v : Int} {k : Nat} {bs : List Bd} (h : k < bs.length) : (lowTo v k bs)[k]? = some bs[k] := by
  unfold lowTo
  rw [List.getElem?_append_right (by simp; omega)]
  simp [Nat.min_eq_left (Nat.le_of_lt h), h]
theorem lowTo_next {v : Int} {k : Nat} {bs : List Bd} (h : k < bs.length) : (lowTo v k bs).set k (lowB v bs[k]) = lowTo v (k + 1) bs := by
  unfold lowTo
  rw [List.set_append_right _ _ (by simp; omega)]
  have : k - ((bs.take k).map (lowB v)).length = 0 := by simp; omega
  rw [this, List.drop_eq_getElem_cons h, List.set_cons_zero, List.take_succ_eq_append_getElem h]
  simp only [List.map_append, List.map_cons, List.map_nil, List.append_assoc, List.cons_append, List.nil_append]

set_option maxHeartbeats 4000000 in
set_option maxRecDepth 100000 in
theorem lowered_q (n : Int) (bs : List Bd) (v : Int) (q : Pl) (r : Bool) (hq : lowP ⟨n, bs⟩ v = (q, r)) (A : Option Addr) (b o c B : Nat) (w : World) (hn : bs.length ≤ 2000000) (hB : B ≤ w.heap.size) (hR : BdsR w B b o A bs) :
    Calls Try.prog 32 #[.agg #[.int .i64 n, .slice A bs.length c], .int .i64 v] w fun e w' => ∃ A1 c1 g1, e = .returned (.tuple #[.agg #[.int .i64 q.n, .slice A1 q.bs.length c1], .bool r]) ∧ BdsR w' w'.heap.size g1 0 A1 q.bs ∧ Below w.heap.size w w' := by
  have hP := (po_new (t := 32) (n := n) (c := c) (Below.refl w.heap.size w) (hR.more hB)).alloc (.cells #[.int .i64 0, .slice none 0 0] 32)
  have hZ : ZB w ((w.alloc (.cells #[.int .i64 n, .slice A bs.length c] 32)).alloc (.cells #[.int .i64 0, .slice none 0 0] 32)) (w.heap.size + 1) := by
    have h := zb_new (w0 := w) (W := w.alloc (.cells #[.int .i64 n, .slice A bs.length c] 32)) (t := 32) (by simp)
    simpa using h
  unfold lowP at hq
  cases hp : planOk ⟨n, bs⟩
  · rw [hp] at hq
    simp only [Bool.false_and, Bool.false_eq_true, if_false] at hq
    have Hq := hide hq
    have Hp := hide hp
    clear hp hq
    go_enter Try.func32, Try.ntmps32
    go_upto_region 1 with fail
    generalize (w.alloc (.cells #[.int .i64 n, .slice A bs.length c] 32)).alloc (.cells #[.int .i64 0, .slice none 0 0] 32) = W at hP hZ ⊢
    generalize w.heap.size + 1 = Z at hZ ⊢
    have p0 := hP.c0
    have p1 := hP.c1
    go_wp2_with (go_at_call 38; go_fit (planOk_c ⟨n, bs⟩ A b o c _ _ hn (Nat.le_refl _) hP.rd); rintro e w1 ⟨rfl, hb1⟩; rw [Hp.out]; have hP3 := hP.below hb1; have hZ3 := hZ.below hb1; have z0 := hZ3.z0; have z1 := hZ3.z1; have zf0 := hZ3.zf 0; have zf1 := hZ3.zf 1; have r0 := hP3.c0; have r1 := hP3.c1)
    obtain ⟨rfl, rfl⟩ : (⟨0, []⟩ : Pl) = q ∧ false = r := ⟨(Prod.mk.inj Hq.out).1, (Prod.mk.inj Hq.out).2⟩
    obtain ⟨u0, u1, hown, hb7⟩ := hZ3.fin (n := 0) (A := none) (c := 0) (bs := []) hP3.bel (World.ownsRow_nil _ _ _ _) (by simp [Value.ownBlock])
    dsimp only [List.length_nil] at u0 u1 hown hb7
    refine bodyPost_ret (v := .tuple #[.agg #[.int .i64 0, .slice none 0 0], .bool false]) (by simp [results, Try.results32, go_sem, u0, u1]) rfl ?_
    obtain ⟨g, hrd⟩ := OwnB.readsA hown
    first | exact ⟨_, _, g, rfl, hrd, hb7⟩ | exact ⟨⟨g, hrd⟩, hb7⟩ | exact ⟨_, _, rfl, ⟨g, hrd⟩, hb7⟩ | exact ⟨_, ⟨_, rfl⟩, ⟨g, hrd⟩, hb7⟩ | exact ⟨none, ⟨g, hrd⟩, hb7⟩ | exact ⟨none, 0, ⟨g, hrd⟩, hb7⟩
  · have Hp := hide hp
    cases hv : inB v 0 99
    · rw [hp, hv] at hq
      simp only [Bool.and_false, Bool.false_eq_true, if_false] at hq
      have Hq := hide hq
      have Hv := hide hv
      clear hp hq hv
      go_enter Try.func32, Try.ntmps32
      go_upto_region 1 with fail
      generalize (w.alloc (.cells #[.int .i64 n, .slice A bs.length c] 32)).alloc (.cells #[.int .i64 0, .slice none 0 0] 32) = W at hP hZ ⊢
      generalize w.heap.size + 1 = Z at hZ ⊢
      have p0 := hP.c0
      have p1 := hP.c1
      go_wp2_with (first | (go_at_call 38; go_fit (planOk_c ⟨n, bs⟩ A b o c _ _ hn (Nat.le_refl _) hP.rd); rintro e w1 ⟨rfl, hb1⟩; rw [Hp.out]; have hP3 := hP.below hb1; have hZ3 := hZ.below hb1; have z0 := hZ3.z0; have z1 := hZ3.z1; have zf0 := hZ3.zf 0; have zf1 := hZ3.zf 1; have r0 := hP3.c0; have r1 := hP3.c1) | (go_at_call 71; go_fit (in_c _ _ _ _); rintro e w2 ⟨rfl, rfl⟩; rw [Hv.out]))
      obtain ⟨rfl, rfl⟩ : (⟨0, []⟩ : Pl) = q ∧ false = r := ⟨(Prod.mk.inj Hq.out).1, (Prod.mk.inj Hq.out).2⟩
      obtain ⟨u0, u1, hown, hb7⟩ := hZ3.fin (n := 0) (A := none) (c := 0) (bs := []) hP3.bel (World.ownsRow_nil _ _ _ _) (by simp [Value.ownBlock])
      dsimp only [List.length_nil] at u0 u1 hown hb7
      refine bodyPost_ret (v := .tuple #[.agg #[.int .i64 0, .slice none 0 0], .bool false]) (by simp [results, Try.results32, go_sem, u0, u1]) rfl ?_
      obtain ⟨g, hrd⟩ := OwnB.readsA hown
      first | exact ⟨_, _, g, rfl, hrd, hb7⟩ | exact ⟨⟨g, hrd⟩, hb7⟩ | exact ⟨_, _, rfl, ⟨g, hrd⟩, hb7⟩ | exact ⟨_, ⟨_, rfl⟩, ⟨g, hrd⟩, hb7⟩ | exact ⟨none, ⟨g, hrd⟩, hb7⟩ | exact ⟨none, 0, ⟨g, hrd⟩, hb7⟩
    · have hv2 := inB_iff.1 hv
      have hbd : ∀ x ∈ bs, -99 ≤ x.m ∧ x.m ≤ 99 := fun x hx => (bdOk_iff.1 ((planOk_iff.1 hp).2.2 x hx)).2.2
      have hbl : bs.length ≤ 16 := (planOk_iff.1 hp).2.1
      rw [hp, hv] at hq
      simp only [Bool.and_true, if_true] at hq
      have hq1 := (Prod.mk.inj hq).1
      have hq2 := (Prod.mk.inj hq).2
      have Hq1 := hide hq1
      have Hq2 := hide hq2
      have Hv := hide hv
      have Hb := hide hbd
      clear hp hq hv hq1 hq2 hbd
      go_enter Try.func32, Try.ntmps32
      go_upto_region 1 with fail
      generalize (w.alloc (.cells #[.int .i64 n, .slice A bs.length c] 32)).alloc (.cells #[.int .i64 0, .slice none 0 0] 32) = W at hP hZ ⊢
      generalize w.heap.size + 1 = Z at hZ ⊢
      have p0 := hP.c0
      have p1 := hP.c1
      go_upto_region 4 with (first
        | (go_at_call 38; go_fit (planOk_c ⟨n, bs⟩ A b o c _ _ hn (Nat.le_refl _) hP.rd); rintro e w1 ⟨rfl, hb1⟩; rw [Hp.out]; have hP3 := hP.below hb1; have hZ3 := hZ.below hb1; have z0 := hZ3.z0; have z1 := hZ3.z1; have zf0 := hZ3.zf 0; have zf1 := hZ3.zf 1; have r0 := hP3.c0; have r1 := hP3.c1)
        | (go_at_call 71; go_fit (in_c _ _ _ _); rintro e w2 ⟨rfl, rfl⟩; rw [Hv.out])
        | (go_at_call 70; go_fit (clone_q ⟨n, bs⟩ A b o c _ _ (by dsimp only; omega) (Nat.le_refl _) hP3.rd); rintro e w3 ⟨A1, c1, g1, rfl, _, own1, hb3⟩; have hP4 := hP3.below hb3; have hZ4 := hZ3.below hb3))
      have hws := hP3.bel.size
      have hZx := hZ3.ex
      have hX := ox_new (t := 32) (n := n) hP4.bel hZ4 (own_less own1 hws) (fun e => by have := (own1.lt _ e).1; omega)
      clear hP hZ hP3 hZ3 z0 z1 zf0 zf1 r0 r1 p0 p1 hP4 hZ4 own1 hb1 hb3 hws hZx
      generalize w3.alloc (.cells #[.int .i64 n, .slice A1 bs.length c1] 32) = W3 at hX ⊢
      generalize w3.heap.size = X at hX ⊢
      have x0 := hX.c0
      have x1 := hX.c1
      go_wp2_with fail
      go_loopg [22] bs.length (fun gh s22 wr => ∃ k : Nat, k ≤ bs.length ∧ gh = bs.length - k ∧ s22 = .int .i64 k ∧ OX w wr Z X n A1 c1 (lowTo v k bs))
      case atStart => exact ⟨0, Nat.zero_le _, rfl, rfl, by simpa [lowTo] using hX⟩
      case round =>
        clear hX x0 x1
        obtain ⟨k, hk, rfl, rfl, hX⟩ := hrel
        have x0 := hX.c0
        have x1 := hX.c1
        rw [lowTo_len] at x1
        by_cases hlt : k < bs.length
        · have hlt' : (k : Int) < (bs.length : Int) := by omega
          obtain ⟨g2, hrd⟩ := OwnB.readsA hX.own
          obtain rfl := hrd.addr (by rw [lowTo_len]; omega)
          have hat := lowTo_at (v := v) hlt
          have hnx := lowTo_next (v := v) hlt
          have hm := Hb.out _ (List.getElem_mem hlt)
          have y2 := hrd.c2 k _ hat
          obtain ⟨hX2, yf⟩ := hX.setM (bs[k].m - v) hat
          rw [show (⟨bs[k].f, bs[k].t, bs[k].m - v⟩ : Bd) = lowB v bs[k] from rfl, hnx] at hX2
          generalize bs[k].m = m at hm y2 hX2
          have hwr : IntKind.i64.wrap (m - v) = m - v := IntWalk.i64_in _ (by omega)
          simp only [Nat.zero_add] at y2
          clear hat hnx hrd
          go_wp2_with fail
          go_roundg (bs.length - (k + 1))
          case measure => go_light; omega
          case rel => go_light; exact ⟨k + 1, by omega, rfl, by go_num, hX2⟩
        · have hkl : k = bs.length := by omega
          have hL : lowTo v k bs = lowBs ⟨n, bs⟩ v := by unfold lowTo lowBs; rw [hkl]; simp
          rw [hL] at hX
          have hl : (lowBs ⟨n, bs⟩ v).length = bs.length := by unfold lowBs; simp
          have Hl := hide hl
          obtain ⟨g2, hrd⟩ := OwnB.readsA hX.own
          clear hkl hL hl
          have hZx := hX.z.ex
          have hln : (lowBs ⟨n, bs⟩ v).length ≤ 2000000 := by rw [Hl.out]; exact hn
          have hws := hX.bel.size
          rw [← lowTo_len v k bs] at x1
          rw [show (lowTo v k bs).length = (lowBs ⟨n, bs⟩ v).length by rw [lowTo_len, Hl.out]] at x1
          go_wp2_with (go_at_call 83; go_fit (told_q ⟨n, lowBs ⟨n, bs⟩ v⟩ q r Hq1.out Hq2.out A1 g2 0 c1 _ _ hln (Nat.le_refl _) hrd); rintro e w6 ⟨A6, c6, g6, rfl, hr6, own6, hb6⟩; have hX6 := hX.below hb6; have z0 := hX6.z.z0; have z1 := hX6.z.z1; have zf0 := hX6.z.zf 0; have zf1 := hX6.z.zf 1)
          obtain ⟨u0, u1, hown, hb7⟩ := hX6.z.fin (n := q.n) (A := A6) (c := c6) (bs := q.bs) hX6.bel (own_less own6 hws) (fun e => by have := (own6.lt _ e).1; omega)
          refine bodyPost_ret (v := .tuple #[.agg #[.int .i64 q.n, .slice A6 q.bs.length c6], .bool r]) (by simp [results, Try.results32, go_sem, u0, u1]) rfl ?_
          obtain ⟨g, hrd2⟩ := OwnB.readsA hown
          first | exact ⟨_, _, g, rfl, hrd2, hb7⟩
end Go.Proofs.Ytledgblepdjjlaa
