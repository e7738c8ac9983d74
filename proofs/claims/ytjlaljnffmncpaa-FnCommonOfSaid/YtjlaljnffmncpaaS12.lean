/-
  spec.CommonOf.
-/
import Derived.Test.YtjlaljnffmncpaaL10
import Derived.Test.YtjlaljnffmncpaaS2c
import Derived.Deep.CutBlock
namespace Go.Proofs.Ytjlaljnffmncpaa
set_option linter.unusedVariables false
set_option linter.unusedSimpArgs false
open Go.RowKit Pp

/-- While a plan is made: its box is the first block behind the world wv. -/
structure SX (wv wr : World) (n : Int) (A : Option Addr) (c : Nat) (bs : List Bd) : Prop where
  bel : Below wv.heap.size wv wr
  sz : wv.heap.size + 1 ≤ wr.heap.size
  c0 : wr.cell? ⟨wv.heap.size, 0, none⟩ = some (.int .i64 n)
  c1 : wr.cell? ⟨wv.heap.size, 1, none⟩ = some (.slice A bs.length c)
  cf : ∀ i, wr.frozen? ⟨wv.heap.size, i, none⟩ = false
  own : OwnB (wv.heap.size + 1) wr (.slice A bs.length c) bs

theorem SX.below {wv wr w' : World} {n : Int} {A : Option Addr} {c : Nat} {bs : List Bd} (h : SX wv wr n A c bs) (hb : Below wr.heap.size wr w') : SX wv w' n A c bs := by
  have hs := h.sz
  have hc := (bcell hb).1
  have hf := (bcell hb).2
  exact ⟨bthen h.bel hb, Nat.le_trans hs hb.size, (hc _ _ (by omega)).trans h.c0, (hc _ _ (by omega)).trans h.c1, fun i => (hf _ _ (by omega)).trans (h.cf i), own_below h.own hb⟩
theorem SX.alloc {wv wr : World} {n : Int} {A : Option Addr} {c : Nat} {bs : List Bd} (h : SX wv wr n A c bs) (o : Obj) : SX wv (wr.alloc o) n A c bs := h.below (by go_grown)
theorem SX.drew {wv wr : World} {n : Int} {A : Option Addr} {c : Nat} {bs : List Bd} (h : SX wv wr n A c bs) : SX wv wr.drew n A c bs := h.below (by go_grown)
theorem sx_new {wv : World} {n : Int} {t : TypeId} : SX wv (wv.alloc (.cells #[.int .i64 n, .slice none 0 0] t)) n none 0 [] :=
  ⟨by go_grown, by simp, by simp [go_sem], by simp [go_sem], fun i => by simp [go_sem], World.ownsRow_nil _ _ _ _⟩
theorem SX.app {wv wr w' : World} {n : Int} {A A' : Option Addr} {c c' : Nat} {bs bs' : List Bd} (h : SX wv wr n A c bs) (hg : wr.grownBy w' (Value.slice A bs.length c).ownBlock) (len : Nat) (hlen : bs'.length = len) (hown : OwnB (wv.heap.size + 1) w' (.slice A' len c') bs') :
    w'.cell? ⟨wv.heap.size, 1, none⟩ = some (.slice A bs.length c) ∧ w'.frozen? ⟨wv.heap.size, 1, none⟩ = false ∧ SX wv (w'.setCell ⟨wv.heap.size, 1, none⟩ (.slice A' len c')) n A' c' bs' := by
  subst hlen
  have hs := h.sz
  have k1 : ∀ b, b < wv.heap.size + 1 → some b ≠ (Value.slice A bs.length c).ownBlock := fun b hb e => by have := (h.own.lt _ e.symm).1; omega
  have hc : ∀ b o, b < wv.heap.size + 1 → w'.cell? ⟨b, o, none⟩ = wr.cell? ⟨b, o, none⟩ := fun b o hb => hg.cell_far _ (by show b < _; omega) (k1 b hb)
  have hf : ∀ b o, b < wv.heap.size + 1 → w'.frozen? ⟨b, o, none⟩ = wr.frozen? ⟨b, o, none⟩ := fun b o hb => hg.frozen_far _ (by show b < _; omega) (k1 b hb)
  have a1 := (hc wv.heap.size 1 (by omega)).trans h.c1
  have hb := below_app h.bel h.own hg (by omega) hs
  refine ⟨a1, (hf _ _ (by omega)).trans (h.cf 1), hb.setCell (Nat.le_refl _) _, by simpa using Nat.le_trans hs hg.size, ?_, ?_, fun i => ?_, own_set_low hown (by dsimp only; omega) _⟩
  · rw [World.cell?_setCell_other _ _ _ _ (by simp)]; exact (hc _ _ (by omega)).trans h.c0
  · exact World.cell?_setCell_same _ _ _ a1
  · rw [← h.cf i, ← hf _ _ (by omega)]; simp

set_option maxHeartbeats 4000000 in
set_option maxRecDepth 100000 in
theorem sCommonOf_q (n n' : Int) (bs bs' : List Bd) (x : Pl) (r : Bool) (hc : common ⟨n, bs⟩ ⟨n', bs'⟩ = (x, r)) (A A' : Option Addr) (b o c b' o' c' B : Nat) (w : World) (hn : bs.length ≤ 2000000) (hn' : bs'.length ≤ 2000000) (hB : B ≤ w.heap.size) (hR : BdsR w B b o A bs) (hR' : BdsR w B b' o' A' bs') :
    Calls Try.prog 17 #[.agg #[.int .i64 n, .slice A bs.length c], .agg #[.int .i64 n', .slice A' bs'.length c']] w fun e w' => ∃ A1 c1 g1, e = .returned (.tuple #[.agg #[.int .i64 x.n, .slice A1 x.bs.length c1], .bool r]) ∧ BdsR w' w'.heap.size g1 0 A1 x.bs ∧ Below w.heap.size w w' := by
  obtain ⟨j0, hj0, hy0, hy1, hy2⟩ := info_parts infoB
  have hP := ((po_new (t := 25) (n := n) (c := c) (Below.refl w.heap.size w) (hR.more hB)).alloc (.cells #[.int .i64 n', .slice A' bs'.length c'] 25)).alloc (.cells #[.int .i64 0, .slice none 0 0] 25)
  have hw1 : Below w.heap.size w (w.alloc (.cells #[.int .i64 n, .slice A bs.length c] 25)) := by go_grown
  have hQ := (po_new (t := 25) (n := n') (c := c') hw1 ((hR'.below (hw1.mono hB)).more (Nat.le_trans hB hw1.size))).alloc (.cells #[.int .i64 0, .slice none 0 0] 25)
  have hZ : ZB w (((w.alloc (.cells #[.int .i64 n, .slice A bs.length c] 25)).alloc (.cells #[.int .i64 n', .slice A' bs'.length c'] 25)).alloc (.cells #[.int .i64 0, .slice none 0 0] 25)) (w.heap.size + 2) := by
    have h := zb_new (w0 := w) (W := (w.alloc (.cells #[.int .i64 n, .slice A bs.length c] 25)).alloc (.cells #[.int .i64 n', .slice A' bs'.length c'] 25)) (t := 25) (by simp; omega)
    simpa using h
  simp only [World.size_alloc] at hQ
  have Hc := hide hc
  go_enter Try.func17, Try.ntmps17
  go_upto_region 1 with fail
  have hqs : w.heap.size + 1 < (((w.alloc (.cells #[.int .i64 n, .slice A bs.length c] 25)).alloc (.cells #[.int .i64 n', .slice A' bs'.length c'] 25)).alloc (.cells #[.int .i64 0, .slice none 0 0] 25)).heap.size := by simp
  generalize ((w.alloc (.cells #[.int .i64 n, .slice A bs.length c] 25)).alloc (.cells #[.int .i64 n', .slice A' bs'.length c'] 25)).alloc (.cells #[.int .i64 0, .slice none 0 0] 25) = W at hP hQ hZ hqs ⊢
  clear hR hR' hw1 hB hc
  have hPZ : w.heap.size ≠ w.heap.size + 2 := by omega
  have hQZ : w.heap.size + 1 ≠ w.heap.size + 2 := by omega
  have hPQ : w.heap.size ≠ w.heap.size + 1 := by omega
  have hZl : w.heap.size ≤ w.heap.size + 2 := by omega
  generalize w.heap.size + 2 = Z at hZ hPZ hQZ hZl ⊢
  generalize w.heap.size + 1 = Q at hQ hPQ hQZ hqs ⊢
  have p0 := hP.c0
  have p1 := hP.c1
  have hXP := hP.ex
  cases hf : fits ⟨n, bs⟩
  · have Hf := hide hf
    clear hf
    go_upto_region 2 with (first | (go_at_call 84; go_fit (sFitsOk_c ⟨n, bs⟩ A b o c _ _ hn (Nat.le_refl _) hP.rd); rintro e w1 ⟨rfl, hb1⟩; rw [Hf.out]; have hP2 := hP.below hb1; have hQ2 := hQ.below hb1; have hZ2 := hZ.below hb1; have q0 := hQ2.c0; have q1 := hQ2.c1; have hQx := hQ2.ex) | fail)
    have hZ3 := hZ2
    have hP3 := hP2
    clear hP hQ hZ p0 p1 q0 q1 hZ2 hQ2 hP2
    obtain ⟨rfl, rfl⟩ := common_not Hc.out (by first | exact .inl Hf.out | exact .inr (.inl Hg.out) | exact .inr (.inr (.inl hnn)) | exact .inr (.inr (.inr (by simpa using h4))))
    obtain ⟨u0, u1, hown, hb7⟩ := hZ3.fin (n := 0) (A := none) (c := 0) (bs := []) hP3.bel (World.ownsRow_nil _ _ _ _) (by simp [Value.ownBlock])
    dsimp only [List.length_nil] at u0 u1 hown hb7
    have z0 := hZ3.z0
    have z1 := hZ3.z1
    have zf0 := hZ3.zf 0
    have zf1 := hZ3.zf 1
    go_wp2_with fail
    refine bodyPost_ret (v := .tuple #[.agg #[.int .i64 0, .slice none 0 0], .bool false]) (by simp [results, Try.results17, go_sem, u0, u1]) rfl ?_
    obtain ⟨g, hrd⟩ := OwnB.readsA hown
    first | exact ⟨_, _, g, rfl, hrd, hb7⟩ | exact ⟨⟨g, hrd⟩, hb7⟩ | exact ⟨_, _, rfl, ⟨g, hrd⟩, hb7⟩ | exact ⟨_, ⟨_, rfl⟩, ⟨g, hrd⟩, hb7⟩ | exact ⟨none, ⟨g, hrd⟩, hb7⟩ | exact ⟨none, 0, ⟨g, hrd⟩, hb7⟩
  · have Hf := hide hf
    clear hf
    cases hg : fits ⟨n', bs'⟩
    · have Hg := hide hg
      clear hg
      go_upto_region 2 with (first | (go_at_call 84; go_fit (sFitsOk_c ⟨n, bs⟩ A b o c _ _ hn (Nat.le_refl _) hP.rd); rintro e w1 ⟨rfl, hb1⟩; rw [Hf.out]; have hP2 := hP.below hb1; have hQ2 := hQ.below hb1; have hZ2 := hZ.below hb1; have q0 := hQ2.c0; have q1 := hQ2.c1; have hQx := hQ2.ex) | (go_at_call 84; go_fit (sFitsOk_c ⟨n', bs'⟩ A' b' o' c' _ _ hn' (Nat.le_refl _) hQ2.rd); rintro e w2 ⟨rfl, hb2⟩; rw [Hg.out]; have hP3 := hP2.below hb2; have hQ3 := hQ2.below hb2; have hZ3 := hZ2.below hb2; have p0 := hP3.c0; have p1 := hP3.c1; have q0 := hQ3.c0; have q1 := hQ3.c1))
      clear hP hQ hZ p0 p1 q0 q1 hZ2 hQ2 hP2
      obtain ⟨rfl, rfl⟩ := common_not Hc.out (by first | exact .inl Hf.out | exact .inr (.inl Hg.out) | exact .inr (.inr (.inl hnn)) | exact .inr (.inr (.inr (by simpa using h4))))
      obtain ⟨u0, u1, hown, hb7⟩ := hZ3.fin (n := 0) (A := none) (c := 0) (bs := []) hP3.bel (World.ownsRow_nil _ _ _ _) (by simp [Value.ownBlock])
      dsimp only [List.length_nil] at u0 u1 hown hb7
      have z0 := hZ3.z0
      have z1 := hZ3.z1
      have zf0 := hZ3.zf 0
      have zf1 := hZ3.zf 1
      go_wp2_with fail
      refine bodyPost_ret (v := .tuple #[.agg #[.int .i64 0, .slice none 0 0], .bool false]) (by simp [results, Try.results17, go_sem, u0, u1]) rfl ?_
      obtain ⟨g, hrd⟩ := OwnB.readsA hown
      first | exact ⟨_, _, g, rfl, hrd, hb7⟩ | exact ⟨⟨g, hrd⟩, hb7⟩ | exact ⟨_, _, rfl, ⟨g, hrd⟩, hb7⟩ | exact ⟨_, ⟨_, rfl⟩, ⟨g, hrd⟩, hb7⟩ | exact ⟨none, ⟨g, hrd⟩, hb7⟩ | exact ⟨none, 0, ⟨g, hrd⟩, hb7⟩
    · have Hg := hide hg
      clear hg
      by_cases hnn : n = n'
      · subst hnn
        by_cases h4 : n ≤ 4
        · obtain ⟨hq, hr⟩ := common_is Hc.out Hf.out Hg.out rfl h4
          have hpp := planOk_of_fits Hf.out
          have hpq := planOk_of_fits Hg.out
          have hok := planOk_iff.1 hpp
          obtain ⟨N, rfl⟩ : ∃ N : Nat, n = N := Int.eq_ofNat_of_zero_le (by have := hok.1; dsimp only at this; omega)
          have hM : ∀ i j, maxT (clT ⟨(N : Int), bs⟩) (clT ⟨(N : Int), bs'⟩) i j ≤ Far := fun i j => by
            have a := clT_le (p := ⟨(N : Int), bs⟩) i j
            have b := clT_le (p := ⟨(N : Int), bs'⟩) i j
            unfold maxT; omega
          have hN : nn ⟨(N : Int), bs⟩ = N := rfl
          have hN' : nn ⟨(N : Int), bs'⟩ = N := rfl
          rw [hN] at hq hr
          have Hq := hide hq
          have Hr := hide hr
          have HM := hide hM
          have Hpp := hide hpp
          have Hpq := hide hpq
          clear hq hr hok hM hpp hpq
          go_upto_region 3 with (first | (go_at_call 84; go_fit (sFitsOk_c ⟨(N : Int), bs⟩ A b o c _ _ hn (Nat.le_refl _) hP.rd); rintro e w1 ⟨rfl, hb1⟩; rw [Hf.out]; have hP2 := hP.below hb1; have hQ2 := hQ.below hb1; have hZ2 := hZ.below hb1; have q0 := hQ2.c0; have q1 := hQ2.c1; have hQx := hQ2.ex) | (go_at_call 84; go_fit (sFitsOk_c ⟨(N : Int), bs'⟩ A' b' o' c' _ _ hn' (Nat.le_refl _) hQ2.rd); rintro e w2 ⟨rfl, hb2⟩; rw [Hg.out]; have hP3 := hP2.below hb2; have hQ3 := hQ2.below hb2; have hZ3 := hZ2.below hb2; have p0 := hP3.c0; have p1 := hP3.c1; have q0 := hQ3.c0; have q1 := hQ3.c1))
          clear hP hQ hZ hZ2 hQ2 hP2 hb1 hb2
          have hQx3 := hQ3.ex
          go_upto_region 5 with (first
            | (go_at_call 85; go_fit (sClosed_c ⟨(N : Int), bs⟩ A b o c _ _ Hpp.out (Nat.le_refl _) hP3.rd); rintro e w3 ⟨ob1, k1, rb1, rc1, rfl, hT1, hb3⟩; have hP4 := hP3.below hb3; have hQ4 := hQ3.below hb3; have hZ4 := hZ3.below hb3; clear p0 p1 q0 q1; have p0 := hP4.c0; have q0 := hQ4.c0; have q1 := hQ4.c1)
            | (go_at_call 85; go_fit (sClosed_c ⟨(N : Int), bs'⟩ A' b' o' c' _ _ Hpq.out (Nat.le_refl _) hQ4.rd); rintro e w4 ⟨ob2, k2, rb2, rc2, rfl, hT2, hb4⟩; have hP5 := hP4.below hb4; have hQ5 := hQ4.below hb4; have hZ5 := hZ4.below hb4; have hT1' := (hT1.below hb4).more hb4.size; clear p0 q0 q1; have p0 := hP5.c0))
          rw [hN] at hT1'
          rw [hN'] at hT2
          clear hP3 hQ3 hZ3 hP4 hQ4 hZ4 hT1 hb3 hb4 hQ5 hQx hQx3 hqs
          have hP := hP5
          have hZ := hZ5
          have hT := hT1'
          have hU := hT2
          clear hP5 hZ5 hT1' hT2
          generalize clT ⟨(N : Int), bs⟩ = T at *
          generalize clT ⟨(N : Int), bs'⟩ = U at *
          go_upto_region 6 with fail
          have hX0 : SX w4 (w4.alloc (.cells #[.int .i64 (N : Int), .slice none 0 0] 25)) (N : Int) none 0 [] := sx_new
          have hpx := hP.ex
          have Hx := hide hpx
          clear p0 hpx
          generalize w4.alloc (.cells #[.int .i64 (N : Int), .slice none 0 0] 25) = W5 at hX0 ⊢
          go_wp2_with fail
          go_loopg [9] N (fun gh s wr => ∃ i : Nat, i ≤ N ∧ gh = N - i ∧ s = .int .i64 i ∧ ∃ A1 c1, ∃ bs : List Bd, Hid (bs = tabBs (maxT T U) N i) ∧ bs.length ≤ 6 * i ∧ SX w4 wr (N : Int) A1 c1 bs)
          case atStart => exact ⟨0, Nat.zero_le _, rfl, rfl, none, 0, [], rfl, by simp, hX0⟩
          case round =>
            clear hX0
            obtain ⟨i, hi, rfl, rfl, A1, c1, bs1, Hb, hbl, hX⟩ := hrel
            have p0 := (hP.below hX.bel).c0
            by_cases hlt : i < N
            · have hlt' : (i : Int) < (N : Int) := by omega
              go_wp2_with fail
              clear p0
              go_loopg [10] N (fun gh s wr2 => ∃ k : Nat, k ≤ N ∧ gh = N - k ∧ s = .int .i64 k ∧ ∃ A1 c1, ∃ bs : List Bd, Hid (bs = tabBs (maxT T U) N i ++ rowBs (maxT T U) i k) ∧ bs.length ≤ 6 * i + k ∧ SX w4 wr2 (N : Int) A1 c1 bs)
              case atStart => exact ⟨0, Nat.zero_le _, rfl, rfl, A1, c1, bs1, by unfold Hid; rw [Hb.out]; simp [rowBs], by omega, hX⟩
              case round =>
                clear hX Hb hbl
                obtain ⟨k, hk, rfl, rfl, A1, c1, bs1, Hb, hbl, hX⟩ := hrel
                have p0 := (hP.below hX.bel).c0
                by_cases hlk : k < N
                · have hlk' : (k : Int) < (N : Int) := by omega
                  have hTw := hT.below hX.bel
                  have hUw := hU.below hX.bel
                  have t0 := hTw.top i hlt
                  have t1 := hTw.row i k hlt hlk
                  have u0 := hUw.top i hlt
                  have u1 := hUw.row i k hlt hlk
                  clear hTw hUw
                  have hMk := HM.out i k
                  have hrow : rowBs (maxT T U) i (k + 1) = rowBs (maxT T U) i k ++ (if i ≠ k ∧ maxT T U i k < Far then [⟨i, k, maxT T U i k⟩] else []) := rfl
                  obtain ⟨m, hm⟩ : ∃ m, maxT T U i k = m := ⟨_, rfl⟩
                  rw [hm] at hMk hrow
                  have hmax : (if T i k < U i k then U i k else T i k) = m := by rw [← hm]; unfold maxT; split <;> omega
                  have Hrow := hide hrow
                  clear hm hrow
                  have Hm := hide hmax
                  go_upto_region 12 with fail
                  go_quiet (fail)
                  have hXq : SX w4 (wr.drewN nq) (N : Int) A1 c1 bs1 := hX.below ⟨rfl, rfl, rfl, Nat.le_refl _, fun _ _ => rfl⟩
                  clear hX p0 t0 t1 u0 u1 hmax
                  generalize wr.drewN nq = wq at hXq ⊢
                  by_cases hyes : i ≠ k ∧ m < Far
                  · have hik : ¬ (i : Int) = (k : Int) := by omega
                    have hmf : m < 100000 := by have := hyes.2; unfold Far at this; omega
                    have q1 := hXq.c1
                    have qs := hXq.sz
                    go_wp2_with (at_builtin; refine app_list _ rfl (.tmp 75) (.tmp 80) _ rfl (w4.heap.size + 1) 41 j0 _ 3 24 Try.underlying23 hj0 hy0 hy1 hy2 rfl (by omega) (.slice A1 bs1.length c1) bs1.length (bdCs bs1) rfl ?_ _ 1 _ [.int .i64 (i : Int), .int .i64 (k : Int), .int .i64 m] rfl rfl (NewsAt.block (cs := #[.int .i64 (i : Int), .int .i64 (k : Int), .int .i64 m]) (at_new rfl)) (by simp [Value.oneCell']) (by omega) (by omega) ?_ ?_
                                 · exact hXq.own.alloc _
                                 · simp only [World.size_alloc]; omega
                                 intro A3 c3 w6 hown3 hg3 hat3
                                 have hown4 : OwnB (w4.heap.size + 1) w6 (.slice A3 (bs1.length + 1) c3) (bs1 ++ [(⟨(i : Int), (k : Int), m⟩ : Bd)]) := (by unfold OwnB; rw [bdCs_append]; simpa [bdCs] using hown3)
                                 obtain ⟨v1, v2, v3⟩ := SX.app (hXq.alloc _) hg3 (bs1.length + 1) (by simp) hown4)
                    go_roundg (N - (k + 1))
                    case measure => go_light; omega
                    case rel =>
                      go_light
                      exact ⟨k + 1, by omega, rfl, by go_num, A3, c3, bs1 ++ [⟨(i : Int), (k : Int), m⟩], by unfold Hid; rw [Hrow.out, if_pos hyes, Hb.out]; simp, by simp; omega, v3⟩
                  · have hor : (i : Int) = (k : Int) ∨ (¬ (i : Int) = (k : Int) ∧ m = 100000) := by
                      by_cases e : i = k
                      · exact .inl (by omega)
                      · exact .inr ⟨by omega, by
                          have : ¬ m < Far := fun h => hyes ⟨e, h⟩
                          unfold Far at this hMk; omega⟩
                    rcases hor with hik | ⟨hik, rfl⟩
                    · have e : k = i := by omega
                      clear hik
                      subst e
                      go_wp2_with fail
                      go_roundg (N - (k + 1))
                      case measure => go_light; omega
                      case rel =>
                        go_light
                        exact ⟨k + 1, by omega, rfl, by go_num, A1, c1, bs1, by unfold Hid; rw [Hrow.out, if_neg hyes, Hb.out]; simp, by omega, hXq⟩
                    · skip
                      go_wp2_with fail
                      go_roundg (N - (k + 1))
                      case measure => go_light; omega
                      case rel =>
                        go_light
                        exact ⟨k + 1, by omega, rfl, by go_num, A1, c1, bs1, by unfold Hid; rw [Hrow.out, if_neg hyes, Hb.out]; simp, by omega, hXq⟩
                · obtain rfl : k = N := by omega
                  go_wp2_with fail
                  go_roundg (k - (i + 1))
                  case measure => go_light; omega
                  case rel => go_light; exact ⟨i + 1, by omega, rfl, by go_num, A1, c1, bs1, Hb, by omega, hX⟩
            · obtain rfl : i = N := by omega
              have hbq := Hb.out
              subst hbq
              have x0 := hX.c0
              have x1 := hX.c1
              obtain ⟨g1, hrd⟩ := OwnB.readsA hX.own
              have hZx := hZ.ex
              have HZx := hide hZx
              clear hZx
              cases r
              · have hx : x = ⟨0, []⟩ := by rw [← Hq.out, toldP_no Hr.out]
                subst hx
                go_wp2_with (go_at_call 43; go_fit (sPlanOk_c ⟨(i : Int), tabBs (maxT T U) i i⟩ A1 g1 0 c1 _ _ (by dsimp only; omega) (Nat.le_refl _) hrd); rintro e w6 ⟨rfl, hb6⟩; rw [Hr.out]; have hX6 := hX.below hb6; have hZ6 := (hZ.below hX.bel).below hb6; have hP6 := (hP.below hX.bel).below hb6; have z0 := hZ6.z0; have z1 := hZ6.z1; have zf0 := hZ6.zf 0; have zf1 := hZ6.zf 1; have y0 := hX6.c0; have y1 := hX6.c1)
                obtain ⟨u0, u1, hown, hb7⟩ := hZ6.fin (n := 0) (A := none) (c := 0) (bs := []) hP6.bel (World.ownsRow_nil _ _ _ _) (by simp [Value.ownBlock])
                dsimp only [List.length_nil] at u0 u1 hown hb7
                refine bodyPost_ret (v := .tuple #[.agg #[.int .i64 0, .slice none 0 0], .bool false]) (by simp [results, Try.results17, go_sem, u0, u1]) rfl ?_
                obtain ⟨g, hrd⟩ := OwnB.readsA hown
                first | exact ⟨_, _, g, rfl, hrd, hb7⟩ | exact ⟨⟨g, hrd⟩, hb7⟩ | exact ⟨_, _, rfl, ⟨g, hrd⟩, hb7⟩ | exact ⟨_, ⟨_, rfl⟩, ⟨g, hrd⟩, hb7⟩ | exact ⟨none, ⟨g, hrd⟩, hb7⟩ | exact ⟨none, 0, ⟨g, hrd⟩, hb7⟩
              · have hx : x = ⟨(i : Int), tabBs (maxT T U) i i⟩ := by rw [← Hq.out, toldP_yes Hr.out]
                subst hx
                go_wp2_with (go_at_call 43; go_fit (sPlanOk_c ⟨(i : Int), tabBs (maxT T U) i i⟩ A1 g1 0 c1 _ _ (by dsimp only; omega) (Nat.le_refl _) hrd); rintro e w6 ⟨rfl, hb6⟩; rw [Hr.out]; have hX6 := hX.below hb6; have hZ6 := (hZ.below hX.bel).below hb6; have hP6 := (hP.below hX.bel).below hb6; have z0 := hZ6.z0; have z1 := hZ6.z1; have zf0 := hZ6.zf 0; have zf1 := hZ6.zf 1; have y0 := hX6.c0; have y1 := hX6.c1)
                obtain ⟨u0, u1, hown, hb7⟩ := hZ6.fin (n := (i : Int)) (A := A1) (c := c1) (bs := tabBs (maxT T U) i i) hP6.bel (own_less hX6.own (by have := Hx.out; omega)) (fun e => by have := (hX6.own.lt _ e).1; have := HZx.out; omega)
                refine bodyPost_ret (v := .tuple #[.agg #[.int .i64 (i : Int), .slice A1 (tabBs (maxT T U) i i).length c1], .bool true]) (by simp [results, Try.results17, go_sem, u0, u1]) rfl ?_
                obtain ⟨g, hrd⟩ := OwnB.readsA hown
                first | exact ⟨_, _, g, rfl, hrd, hb7⟩ | exact ⟨⟨g, hrd⟩, hb7⟩ | exact ⟨_, _, rfl, ⟨g, hrd⟩, hb7⟩ | exact ⟨_, ⟨_, rfl⟩, ⟨g, hrd⟩, hb7⟩ | exact ⟨none, ⟨g, hrd⟩, hb7⟩ | exact ⟨none, 0, ⟨g, hrd⟩, hb7⟩
        · go_upto_region 2 with (first | (go_at_call 84; go_fit (sFitsOk_c ⟨n, bs⟩ A b o c _ _ hn (Nat.le_refl _) hP.rd); rintro e w1 ⟨rfl, hb1⟩; rw [Hf.out]; have hP2 := hP.below hb1; have hQ2 := hQ.below hb1; have hZ2 := hZ.below hb1; have q0 := hQ2.c0; have q1 := hQ2.c1; have hQx := hQ2.ex) | (go_at_call 84; go_fit (sFitsOk_c ⟨n, bs'⟩ A' b' o' c' _ _ hn' (Nat.le_refl _) hQ2.rd); rintro e w2 ⟨rfl, hb2⟩; rw [Hg.out]; have hP3 := hP2.below hb2; have hQ3 := hQ2.below hb2; have hZ3 := hZ2.below hb2; have p0 := hP3.c0; have p1 := hP3.c1; have q0 := hQ3.c0; have q1 := hQ3.c1))
          clear hP hQ hZ p0 p1 q0 q1 hZ2 hQ2 hP2
          obtain ⟨rfl, rfl⟩ := common_not Hc.out (by first | exact .inl Hf.out | exact .inr (.inl Hg.out) | exact .inr (.inr (.inl hnn)) | exact .inr (.inr (.inr (by simpa using h4))))
          obtain ⟨u0, u1, hown, hb7⟩ := hZ3.fin (n := 0) (A := none) (c := 0) (bs := []) hP3.bel (World.ownsRow_nil _ _ _ _) (by simp [Value.ownBlock])
          dsimp only [List.length_nil] at u0 u1 hown hb7
          have z0 := hZ3.z0
          have z1 := hZ3.z1
          have zf0 := hZ3.zf 0
          have zf1 := hZ3.zf 1
          go_wp2_with fail
          refine bodyPost_ret (v := .tuple #[.agg #[.int .i64 0, .slice none 0 0], .bool false]) (by simp [results, Try.results17, go_sem, u0, u1]) rfl ?_
          obtain ⟨g, hrd⟩ := OwnB.readsA hown
          first | exact ⟨_, _, g, rfl, hrd, hb7⟩ | exact ⟨⟨g, hrd⟩, hb7⟩ | exact ⟨_, _, rfl, ⟨g, hrd⟩, hb7⟩ | exact ⟨_, ⟨_, rfl⟩, ⟨g, hrd⟩, hb7⟩ | exact ⟨none, ⟨g, hrd⟩, hb7⟩ | exact ⟨none, 0, ⟨g, hrd⟩, hb7⟩
      · go_upto_region 2 with (first | (go_at_call 84; go_fit (sFitsOk_c ⟨n, bs⟩ A b o c _ _ hn (Nat.le_refl _) hP.rd); rintro e w1 ⟨rfl, hb1⟩; rw [Hf.out]; have hP2 := hP.below hb1; have hQ2 := hQ.below hb1; have hZ2 := hZ.below hb1; have q0 := hQ2.c0; have q1 := hQ2.c1; have hQx := hQ2.ex) | (go_at_call 84; go_fit (sFitsOk_c ⟨n', bs'⟩ A' b' o' c' _ _ hn' (Nat.le_refl _) hQ2.rd); rintro e w2 ⟨rfl, hb2⟩; rw [Hg.out]; have hP3 := hP2.below hb2; have hQ3 := hQ2.below hb2; have hZ3 := hZ2.below hb2; have p0 := hP3.c0; have p1 := hP3.c1; have q0 := hQ3.c0; have q1 := hQ3.c1))
        clear hP hQ hZ p0 p1 q0 q1 hZ2 hQ2 hP2
        obtain ⟨rfl, rfl⟩ := common_not Hc.out (by first | exact .inl Hf.out | exact .inr (.inl Hg.out) | exact .inr (.inr (.inl hnn)) | exact .inr (.inr (.inr (by simpa using h4))))
        obtain ⟨u0, u1, hown, hb7⟩ := hZ3.fin (n := 0) (A := none) (c := 0) (bs := []) hP3.bel (World.ownsRow_nil _ _ _ _) (by simp [Value.ownBlock])
        dsimp only [List.length_nil] at u0 u1 hown hb7
        have z0 := hZ3.z0
        have z1 := hZ3.z1
        have zf0 := hZ3.zf 0
        have zf1 := hZ3.zf 1
        go_wp2_with fail
        refine bodyPost_ret (v := .tuple #[.agg #[.int .i64 0, .slice none 0 0], .bool false]) (by simp [results, Try.results17, go_sem, u0, u1]) rfl ?_
        obtain ⟨g, hrd⟩ := OwnB.readsA hown
        first | exact ⟨_, _, g, rfl, hrd, hb7⟩ | exact ⟨⟨g, hrd⟩, hb7⟩ | exact ⟨_, _, rfl, ⟨g, hrd⟩, hb7⟩ | exact ⟨_, ⟨_, rfl⟩, ⟨g, hrd⟩, hb7⟩ | exact ⟨none, ⟨g, hrd⟩, hb7⟩ | exact ⟨none, 0, ⟨g, hrd⟩, hb7⟩
end Go.Proofs.Ytjlaljnffmncpaa
