/-
  impl.CommonOf.
-/
import Derived.Test.YtjlaljnffmncpaaL9
import Derived.Test.YtjlaljnffmncpaaP7
import Derived.Test.YtjlaljnffmncpaaL11a
import Derived.Test.YtjlaljnffmncpaaD2
namespace Go.Proofs.Ytjlaljnffmncpaa
set_option linter.unusedVariables false
set_option linter.unusedSimpArgs false
open Go.RowKit Pp

theorem co_box {w1 w2 : World} {v u : Value} {t : TypeId} (hb2 : Below (w1.alloc (.cells #[v] t)).heap.size (w1.alloc (.cells #[v] t)) w2) :
    (w2.alloc (.cells #[u] t)).cell? ⟨w1.heap.size, 0, none⟩ = some v ∧ (w2.alloc (.cells #[u] t)).cell? ⟨w2.heap.size, 0, none⟩ = some u ∧ w1.heap.size < (w2.alloc (.cells #[u] t)).heap.size ∧ w2.heap.size < (w2.alloc (.cells #[u] t)).heap.size ∧ Below w1.heap.size w1 (w2.alloc (.cells #[u] t)) := by
  have h0 : w1.heap.size < (w1.alloc (.cells #[v] t)).heap.size := by simp
  have h1 : w1.heap.size < w2.heap.size := Nat.lt_of_lt_of_le h0 hb2.size
  have hg : Below w2.heap.size w2 (w2.alloc (.cells #[u] t)) := by go_grown
  refine ⟨?_, by simp [go_sem], Nat.lt_of_lt_of_le h1 hg.size, by simp, bthen (bthen (show Below w1.heap.size w1 (w1.alloc (.cells #[v] t)) by go_grown) hb2) hg⟩
  rw [(bcell hg).1 _ _ h1, (bcell hb2).1 _ _ h0]
  simp [go_sem]
theorem common_no {p q x : Pl} (h : common p q = (x, false)) : x = ⟨0, []⟩ := by
  unfold common at h
  split at h
  · cases (Prod.mk.inj h).2
  · exact (Prod.mk.inj h).1.symm
theorem common_not {p q x : Pl} {r : Bool} (h : common p q = (x, r)) (hn : fits p = false ∨ fits q = false ∨ p.n ≠ q.n ∨ ¬ p.n ≤ 4) : x = ⟨0, []⟩ ∧ r = false := by
  unfold common at h
  split at h
  · rename_i hc
    simp only [Bool.and_eq_true, decide_eq_true_eq] at hc
    obtain ⟨⟨⟨⟨h1, h2⟩, h3⟩, h4⟩, h5⟩ := hc
    rcases hn with e | e | e | e
    · rw [h1] at e; cases e
    · rw [h2] at e; cases e
    · exact absurd h3 e
    · exact absurd h4 e
  · exact ⟨(Prod.mk.inj h).1.symm, (Prod.mk.inj h).2.symm⟩
theorem common_is {p q x : Pl} {r : Bool} (h : common p q = (x, r)) (h1 : fits p = true) (h2 : fits q = true) (h3 : p.n = q.n) (h4 : p.n ≤ 4) :
    toldP ⟨p.n, tabBs (maxT (clT p) (clT q)) (nn p) (nn p)⟩ = x ∧ planOk ⟨p.n, tabBs (maxT (clT p) (clT q)) (nn p) (nn p)⟩ = r := by
  unfold common at h
  rw [h1, h2, decide_eq_true h3, decide_eq_true h4] at h
  simp only [Bool.true_and] at h
  split at h
  · rename_i hc
    obtain ⟨e1, e2⟩ := Prod.mk.inj h
    exact ⟨by rw [← e1]; exact toldP_yes hc, by rw [← e2]; exact hc⟩
  · rename_i hc
    obtain ⟨e1, e2⟩ := Prod.mk.inj h
    have hc' : planOk ⟨p.n, tabBs (maxT (clT p) (clT q)) (nn p) (nn p)⟩ = false := by simpa using hc
    exact ⟨by rw [← e1]; exact toldP_no hc', by rw [← e2]; exact hc'⟩

set_option maxHeartbeats 4000000 in
set_option maxRecDepth 100000 in
theorem commonOf_q (n n' : Int) (bs bs' : List Bd) (x : Pl) (r : Bool) (hc : common ⟨n, bs⟩ ⟨n', bs'⟩ = (x, r)) (A A' : Option Addr) (b o c b' o' c' B : Nat) (w : World) (hn : bs.length ≤ 2000000) (hn' : bs'.length ≤ 2000000) (hB : B ≤ w.heap.size) (hR : BdsR w B b o A bs) (hR' : BdsR w B b' o' A' bs') :
    Calls Try.prog 16 #[.agg #[.int .i64 n, .slice A bs.length c], .agg #[.int .i64 n', .slice A' bs'.length c']] w fun e w' => ∃ A1 c1 g1, e = .returned (.tuple #[.agg #[.int .i64 x.n, .slice A1 x.bs.length c1], .bool r]) ∧ BdsR w' w'.heap.size g1 0 A1 x.bs ∧ Below w.heap.size w w' := by
  have hP := ((po_new (t := 25) (n := n) (c := c) (Below.refl w.heap.size w) (hR.more hB)).alloc (.cells #[.int .i64 n', .slice A' bs'.length c'] 25)).alloc (.cells #[.int .i64 0, .slice none 0 0] 25)
  have hw1 : Below w.heap.size w (w.alloc (.cells #[.int .i64 n, .slice A bs.length c] 25)) := by go_grown
  have hQ := (po_new (t := 25) (n := n') (c := c') hw1 ((hR'.below (hw1.mono hB)).more (Nat.le_trans hB hw1.size))).alloc (.cells #[.int .i64 0, .slice none 0 0] 25)
  have hZ : ZB w (((w.alloc (.cells #[.int .i64 n, .slice A bs.length c] 25)).alloc (.cells #[.int .i64 n', .slice A' bs'.length c'] 25)).alloc (.cells #[.int .i64 0, .slice none 0 0] 25)) (w.heap.size + 2) := by
    have h := zb_new (w0 := w) (W := (w.alloc (.cells #[.int .i64 n, .slice A bs.length c] 25)).alloc (.cells #[.int .i64 n', .slice A' bs'.length c'] 25)) (t := 25) (by simp; omega)
    simpa using h
  simp only [World.size_alloc] at hQ
  have Hc := hide hc
  go_enter Try.func16, Try.ntmps16
  go_upto_region 1 with fail
  have hqs : w.heap.size + 1 < (((w.alloc (.cells #[.int .i64 n, .slice A bs.length c] 25)).alloc (.cells #[.int .i64 n', .slice A' bs'.length c'] 25)).alloc (.cells #[.int .i64 0, .slice none 0 0] 25)).heap.size := by simp
  generalize ((w.alloc (.cells #[.int .i64 n, .slice A bs.length c] 25)).alloc (.cells #[.int .i64 n', .slice A' bs'.length c'] 25)).alloc (.cells #[.int .i64 0, .slice none 0 0] 25) = W at hP hQ hZ hqs ⊢
  clear hR hR' hw1 hB
  have hPQ : w.heap.size ≠ w.heap.size + 1 := by omega
  have hPZ : w.heap.size ≠ w.heap.size + 2 := by omega
  have hQZ : w.heap.size + 1 ≠ w.heap.size + 2 := by omega
  have hZl : w.heap.size ≤ w.heap.size + 2 := by omega
  generalize w.heap.size + 2 = Z at hZ hPZ hQZ hZl ⊢
  generalize w.heap.size + 1 = Q at hQ hPQ hQZ hqs ⊢
  have p0 := hP.c0
  have p1 := hP.c1
  have q0 := hQ.c0
  have q1 := hQ.c1
  have hXP := hP.ex
  cases hf : fits ⟨n, bs⟩
  · have Hf := hide hf
    clear hf
    cases hg : fits ⟨n', bs'⟩
    · have Hg := hide hg
      clear hg
      go_upto_region 3 with (first
        | (go_at_call 81; go_fit (closed_no ⟨n, bs⟩ A b o c _ _ hn (Nat.le_refl _) hP.rd Hf.out); rintro e w1 ⟨rfl, hb1⟩; have hP2 := hP.below hb1; have hQ2 := hQ.below hb1; have hZ2 := hZ.below hb1; have hQx := hQ2.ex; have r0 := hQ2.c0; have r1 := hQ2.c1)
        | (go_at_call 81; go_fit (closed_no ⟨n', bs'⟩ A' b' o' c' _ _ hn' (Nat.le_refl _) (hQ2.alloc _).rd Hg.out); rintro e w2 ⟨rfl, hb2⟩; skip))
      have hP3 := ((hP2.alloc _).below hb2).alloc (.cells #[.slice none 0 0] 94)
      have hQ3 := ((hQ2.alloc _).below hb2).alloc (.cells #[.slice none 0 0] 94)
      have hZ3 := ((hZ2.alloc _).below hb2).alloc (.cells #[.slice none 0 0] 94)
      obtain ⟨x0, y0, hX, hY, hB9⟩ := co_box (t := 94) (u := .slice none 0 0) hb2
      generalize w2.alloc (.cells #[.slice none 0 0] 94) = W9 at hP3 hQ3 hZ3 x0 y0 hX hY hB9 ⊢
      generalize w1.heap.size = X at x0 hX ⊢
      generalize w2.heap.size = Y at y0 hY ⊢
      clear hP2 hQ2 hZ2 hQx r0 r1 p0 p1 q0 q1 hP hQ hZ hXP hc
      have p0 := hP3.c0
      have p1 := hP3.c1
      have q0 := hQ3.c0
      have q1 := hQ3.c1
      obtain ⟨rfl, rfl⟩ := common_not Hc.out (by first | exact .inl Hf.out | exact .inr (.inl Hg.out) | exact .inr (.inr (.inl hnn)) | exact .inr (.inr (.inr h4)))
      obtain ⟨u0, u1, hown, hb7⟩ := hZ3.fin (n := 0) (A := none) (c := 0) (bs := []) hP3.bel (World.ownsRow_nil _ _ _ _) (by simp [Value.ownBlock])
      dsimp only [List.length_nil] at u0 u1 hown hb7
      have z0 := hZ3.z0
      have z1 := hZ3.z1
      have zf0 := hZ3.zf 0
      have zf1 := hZ3.zf 1
      go_wp2_with fail
      refine bodyPost_ret (v := .tuple #[.agg #[.int .i64 0, .slice none 0 0], .bool false]) (by simp [results, Try.results16, go_sem, u0, u1]) rfl ?_
      obtain ⟨g, hrd⟩ := OwnB.readsA hown
      first | exact ⟨_, _, g, rfl, hrd, hb7⟩ | exact ⟨⟨g, hrd⟩, hb7⟩ | exact ⟨_, _, rfl, ⟨g, hrd⟩, hb7⟩ | exact ⟨_, ⟨_, rfl⟩, ⟨g, hrd⟩, hb7⟩ | exact ⟨none, ⟨g, hrd⟩, hb7⟩ | exact ⟨none, 0, ⟨g, hrd⟩, hb7⟩ | (trace_state; fail)
    · have Hg := hide hg
      clear hg
      go_upto_region 3 with (first
        | (go_at_call 81; go_fit (closed_no ⟨n, bs⟩ A b o c _ _ hn (Nat.le_refl _) hP.rd Hf.out); rintro e w1 ⟨rfl, hb1⟩; have hP2 := hP.below hb1; have hQ2 := hQ.below hb1; have hZ2 := hZ.below hb1; have hQx := hQ2.ex; have r0 := hQ2.c0; have r1 := hQ2.c1)
        | (go_at_call 81; go_fit (closed_yes ⟨n', bs'⟩ A' b' o' c' _ _ (Nat.le_refl _) (hQ2.alloc _).rd Hg.out); rintro e w2 ⟨ob2, rb2, rfl, hT2, _, _, hb2⟩; skip))
      have hP3 := ((hP2.alloc _).below hb2).alloc (.cells #[.slice (some ⟨ob2, 0, none⟩) (nn ⟨n', bs'⟩) (nn ⟨n', bs'⟩)] 94)
      have hQ3 := ((hQ2.alloc _).below hb2).alloc (.cells #[.slice (some ⟨ob2, 0, none⟩) (nn ⟨n', bs'⟩) (nn ⟨n', bs'⟩)] 94)
      have hZ3 := ((hZ2.alloc _).below hb2).alloc (.cells #[.slice (some ⟨ob2, 0, none⟩) (nn ⟨n', bs'⟩) (nn ⟨n', bs'⟩)] 94)
      obtain ⟨x0, y0, hX, hY, hB9⟩ := co_box (t := 94) (u := .slice (some ⟨ob2, 0, none⟩) (nn ⟨n', bs'⟩) (nn ⟨n', bs'⟩)) hb2
      generalize w2.alloc (.cells #[.slice (some ⟨ob2, 0, none⟩) (nn ⟨n', bs'⟩) (nn ⟨n', bs'⟩)] 94) = W9 at hP3 hQ3 hZ3 x0 y0 hX hY hB9 ⊢
      generalize w1.heap.size = X at x0 hX ⊢
      generalize w2.heap.size = Y at y0 hY ⊢
      clear hP2 hQ2 hZ2 hQx r0 r1 p0 p1 q0 q1 hP hQ hZ hXP hc
      have p0 := hP3.c0
      have p1 := hP3.c1
      have q0 := hQ3.c0
      have q1 := hQ3.c1
      obtain ⟨rfl, rfl⟩ := common_not Hc.out (by first | exact .inl Hf.out | exact .inr (.inl Hg.out) | exact .inr (.inr (.inl hnn)) | exact .inr (.inr (.inr h4)))
      obtain ⟨u0, u1, hown, hb7⟩ := hZ3.fin (n := 0) (A := none) (c := 0) (bs := []) hP3.bel (World.ownsRow_nil _ _ _ _) (by simp [Value.ownBlock])
      dsimp only [List.length_nil] at u0 u1 hown hb7
      have z0 := hZ3.z0
      have z1 := hZ3.z1
      have zf0 := hZ3.zf 0
      have zf1 := hZ3.zf 1
      go_wp2_with fail
      refine bodyPost_ret (v := .tuple #[.agg #[.int .i64 0, .slice none 0 0], .bool false]) (by simp [results, Try.results16, go_sem, u0, u1]) rfl ?_
      obtain ⟨g, hrd⟩ := OwnB.readsA hown
      first | exact ⟨_, _, g, rfl, hrd, hb7⟩ | exact ⟨⟨g, hrd⟩, hb7⟩ | exact ⟨_, _, rfl, ⟨g, hrd⟩, hb7⟩ | exact ⟨_, ⟨_, rfl⟩, ⟨g, hrd⟩, hb7⟩ | exact ⟨none, ⟨g, hrd⟩, hb7⟩ | exact ⟨none, 0, ⟨g, hrd⟩, hb7⟩ | (trace_state; fail)
  · have Hf := hide hf
    clear hf
    cases hg : fits ⟨n', bs'⟩
    · have Hg := hide hg
      clear hg
      go_upto_region 3 with (first
        | (go_at_call 81; go_fit (closed_yes ⟨n, bs⟩ A b o c _ _ (Nat.le_refl _) hP.rd Hf.out); rintro e w1 ⟨ob1, rb1, rfl, hT1, _, _, hb1⟩; have hP2 := hP.below hb1; have hQ2 := hQ.below hb1; have hZ2 := hZ.below hb1; have hQx := hQ2.ex; have r0 := hQ2.c0; have r1 := hQ2.c1)
        | (go_at_call 81; go_fit (closed_no ⟨n', bs'⟩ A' b' o' c' _ _ hn' (Nat.le_refl _) (hQ2.alloc _).rd Hg.out); rintro e w2 ⟨rfl, hb2⟩; skip))
      have hP3 := ((hP2.alloc _).below hb2).alloc (.cells #[.slice none 0 0] 94)
      have hQ3 := ((hQ2.alloc _).below hb2).alloc (.cells #[.slice none 0 0] 94)
      have hZ3 := ((hZ2.alloc _).below hb2).alloc (.cells #[.slice none 0 0] 94)
      obtain ⟨x0, y0, hX, hY, hB9⟩ := co_box (t := 94) (u := .slice none 0 0) hb2
      generalize w2.alloc (.cells #[.slice none 0 0] 94) = W9 at hP3 hQ3 hZ3 x0 y0 hX hY hB9 ⊢
      generalize w1.heap.size = X at x0 hX ⊢
      generalize w2.heap.size = Y at y0 hY ⊢
      clear hP2 hQ2 hZ2 hQx r0 r1 p0 p1 q0 q1 hP hQ hZ hXP hc
      have p0 := hP3.c0
      have p1 := hP3.c1
      have q0 := hQ3.c0
      have q1 := hQ3.c1
      obtain ⟨rfl, rfl⟩ := common_not Hc.out (by first | exact .inl Hf.out | exact .inr (.inl Hg.out) | exact .inr (.inr (.inl hnn)) | exact .inr (.inr (.inr h4)))
      obtain ⟨u0, u1, hown, hb7⟩ := hZ3.fin (n := 0) (A := none) (c := 0) (bs := []) hP3.bel (World.ownsRow_nil _ _ _ _) (by simp [Value.ownBlock])
      dsimp only [List.length_nil] at u0 u1 hown hb7
      have z0 := hZ3.z0
      have z1 := hZ3.z1
      have zf0 := hZ3.zf 0
      have zf1 := hZ3.zf 1
      go_wp2_with fail
      refine bodyPost_ret (v := .tuple #[.agg #[.int .i64 0, .slice none 0 0], .bool false]) (by simp [results, Try.results16, go_sem, u0, u1]) rfl ?_
      obtain ⟨g, hrd⟩ := OwnB.readsA hown
      first | exact ⟨_, _, g, rfl, hrd, hb7⟩ | exact ⟨⟨g, hrd⟩, hb7⟩ | exact ⟨_, _, rfl, ⟨g, hrd⟩, hb7⟩ | exact ⟨_, ⟨_, rfl⟩, ⟨g, hrd⟩, hb7⟩ | exact ⟨none, ⟨g, hrd⟩, hb7⟩ | exact ⟨none, 0, ⟨g, hrd⟩, hb7⟩ | (trace_state; fail)
    · have Hg := hide hg
      clear hg
      go_upto_region 3 with (first
        | (go_at_call 81; go_fit (closed_yes ⟨n, bs⟩ A b o c _ _ (Nat.le_refl _) hP.rd Hf.out); rintro e w1 ⟨ob1, rb1, rfl, hT1, _, _, hb1⟩; have hP2 := hP.below hb1; have hQ2 := hQ.below hb1; have hZ2 := hZ.below hb1; have hQx := hQ2.ex; have r0 := hQ2.c0; have r1 := hQ2.c1)
        | (go_at_call 81; go_fit (closed_yes ⟨n', bs'⟩ A' b' o' c' _ _ (Nat.le_refl _) (hQ2.alloc _).rd Hg.out); rintro e w2 ⟨ob2, rb2, rfl, hT2, _, _, hb2⟩; skip))
      have hP3 := ((hP2.alloc _).below hb2).alloc (.cells #[.slice (some ⟨ob2, 0, none⟩) (nn ⟨n', bs'⟩) (nn ⟨n', bs'⟩)] 94)
      have hQ3 := ((hQ2.alloc _).below hb2).alloc (.cells #[.slice (some ⟨ob2, 0, none⟩) (nn ⟨n', bs'⟩) (nn ⟨n', bs'⟩)] 94)
      have hZ3 := ((hZ2.alloc _).below hb2).alloc (.cells #[.slice (some ⟨ob2, 0, none⟩) (nn ⟨n', bs'⟩) (nn ⟨n', bs'⟩)] 94)
      obtain ⟨x0, y0, hX, hY, hB9⟩ := co_box (t := 94) (u := .slice (some ⟨ob2, 0, none⟩) (nn ⟨n', bs'⟩) (nn ⟨n', bs'⟩)) hb2
      have hTa := (hT1.reads.below hB9).more hB9.size
      have hBy : Below w2.heap.size w2 (w2.alloc (.cells #[.slice (some ⟨ob2, 0, none⟩) (nn ⟨n', bs'⟩) (nn ⟨n', bs'⟩)] 94)) := by go_grown
      have hTb := (hT2.reads.below hBy).more hBy.size
      clear hBy
      generalize w2.alloc (.cells #[.slice (some ⟨ob2, 0, none⟩) (nn ⟨n', bs'⟩) (nn ⟨n', bs'⟩)] 94) = W9 at hP3 hQ3 hZ3 x0 y0 hX hY hB9 hTa hTb ⊢
      by_cases hnn : n = n'
      · subst hnn
        by_cases h4 : n ≤ 4
        · obtain ⟨hq, hr⟩ := common_is Hc.out Hf.out Hg.out rfl h4
          have hok := planOk_iff.1 (planOk_of_fits Hf.out)
          obtain ⟨N, rfl⟩ : ∃ N : Nat, n = N := Int.eq_ofNat_of_zero_le (by have := hok.1; dsimp only at this; omega)
          have hM : ∀ i j, i < N → j < N → maxT (clT ⟨(N : Int), bs⟩) (clT ⟨(N : Int), bs'⟩) i j ≤ Far := fun i j _ _ => by
            have a := clT_le (p := ⟨(N : Int), bs⟩) i j
            have b := clT_le (p := ⟨(N : Int), bs'⟩) i j
            unfold maxT; omega
          have hN : nn ⟨(N : Int), bs⟩ = N := rfl
          have hN' : nn ⟨(N : Int), bs'⟩ = N := rfl
          rw [hN] at hq hr x0 hTa
          rw [hN'] at y0 hTb
          rw [hN, hN']
          have Hq := hide hq
          have Hr := hide hr
          clear hq hr hok hN hN' hT1 hT2 hb1 hb2
          generalize w1.heap.size = X at x0 hX ⊢
          generalize w2.heap.size = Y at y0 hY ⊢
          clear hP2 hQ2 hZ2 hQx r0 r1 p0 p1 q0 q1 hP hQ hZ hXP hc
          have p0 := hP3.c0
          have p1 := hP3.c1
          have q0 := hQ3.c0
          have q1 := hQ3.c1
          go_wp2_with (go_at_call 82; go_fit (fromT_c (clT ⟨(N : Int), bs⟩) (clT ⟨(N : Int), bs'⟩) N X Y ob1 ob2 N N _ _ _ _ W9 (by omega) hTa hTb x0 y0 hX hY hM x r Hq.out Hr.out); rintro e w5 ⟨A1, c1, g1, rfl, hrd, hown, hb5⟩; have hZ5 := hZ3.below hb5; have z0 := hZ5.z0; have z1 := hZ5.z1; have zf0 := hZ5.zf 0; have zf1 := hZ5.zf 1; have hP5 := hP3.below hb5)
          obtain ⟨u0, u1, hown7, hb7⟩ := hZ5.fin (n := x.n) (A := A1) (c := c1) (bs := x.bs) hP5.bel (own_less hown (by have := hP3.bel.size; omega)) (fun e => by have := (hown.lt _ e).1; have := hZ3.ex; omega)
          refine bodyPost_ret (v := .tuple #[.agg #[.int .i64 x.n, .slice A1 x.bs.length c1], .bool r]) (by simp [results, Try.results16, go_sem, u0, u1]) rfl ?_
          obtain ⟨g, hrd⟩ := OwnB.readsA hown7
          first | exact ⟨_, _, g, rfl, hrd, hb7⟩ | exact ⟨⟨g, hrd⟩, hb7⟩ | exact ⟨_, _, rfl, ⟨g, hrd⟩, hb7⟩ | exact ⟨_, ⟨_, rfl⟩, ⟨g, hrd⟩, hb7⟩ | exact ⟨none, ⟨g, hrd⟩, hb7⟩ | exact ⟨none, 0, ⟨g, hrd⟩, hb7⟩ | (trace_state; fail)
        · skip
          generalize w1.heap.size = X at x0 hX ⊢
          generalize w2.heap.size = Y at y0 hY ⊢
          clear hP2 hQ2 hZ2 hQx r0 r1 p0 p1 q0 q1 hP hQ hZ hXP hc
          have p0 := hP3.c0
          have p1 := hP3.c1
          have q0 := hQ3.c0
          have q1 := hQ3.c1
          obtain ⟨rfl, rfl⟩ := common_not Hc.out (by first | exact .inl Hf.out | exact .inr (.inl Hg.out) | exact .inr (.inr (.inl hnn)) | exact .inr (.inr (.inr h4)))
          obtain ⟨u0, u1, hown, hb7⟩ := hZ3.fin (n := 0) (A := none) (c := 0) (bs := []) hP3.bel (World.ownsRow_nil _ _ _ _) (by simp [Value.ownBlock])
          dsimp only [List.length_nil] at u0 u1 hown hb7
          have z0 := hZ3.z0
          have z1 := hZ3.z1
          have zf0 := hZ3.zf 0
          have zf1 := hZ3.zf 1
          go_wp2_with fail
          refine bodyPost_ret (v := .tuple #[.agg #[.int .i64 0, .slice none 0 0], .bool false]) (by simp [results, Try.results16, go_sem, u0, u1]) rfl ?_
          obtain ⟨g, hrd⟩ := OwnB.readsA hown
          first | exact ⟨_, _, g, rfl, hrd, hb7⟩ | exact ⟨⟨g, hrd⟩, hb7⟩ | exact ⟨_, _, rfl, ⟨g, hrd⟩, hb7⟩ | exact ⟨_, ⟨_, rfl⟩, ⟨g, hrd⟩, hb7⟩ | exact ⟨none, ⟨g, hrd⟩, hb7⟩ | exact ⟨none, 0, ⟨g, hrd⟩, hb7⟩ | (trace_state; fail)
      · skip
        generalize w1.heap.size = X at x0 hX ⊢
        generalize w2.heap.size = Y at y0 hY ⊢
        clear hP2 hQ2 hZ2 hQx r0 r1 p0 p1 q0 q1 hP hQ hZ hXP hc
        have p0 := hP3.c0
        have p1 := hP3.c1
        have q0 := hQ3.c0
        have q1 := hQ3.c1
        obtain ⟨rfl, rfl⟩ := common_not Hc.out (by first | exact .inl Hf.out | exact .inr (.inl Hg.out) | exact .inr (.inr (.inl hnn)) | exact .inr (.inr (.inr h4)))
        obtain ⟨u0, u1, hown, hb7⟩ := hZ3.fin (n := 0) (A := none) (c := 0) (bs := []) hP3.bel (World.ownsRow_nil _ _ _ _) (by simp [Value.ownBlock])
        dsimp only [List.length_nil] at u0 u1 hown hb7
        have z0 := hZ3.z0
        have z1 := hZ3.z1
        have zf0 := hZ3.zf 0
        have zf1 := hZ3.zf 1
        go_wp2_with fail
        refine bodyPost_ret (v := .tuple #[.agg #[.int .i64 0, .slice none 0 0], .bool false]) (by simp [results, Try.results16, go_sem, u0, u1]) rfl ?_
        obtain ⟨g, hrd⟩ := OwnB.readsA hown
        first | exact ⟨_, _, g, rfl, hrd, hb7⟩ | exact ⟨⟨g, hrd⟩, hb7⟩ | exact ⟨_, _, rfl, ⟨g, hrd⟩, hb7⟩ | exact ⟨_, ⟨_, rfl⟩, ⟨g, hrd⟩, hb7⟩ | exact ⟨none, ⟨g, hrd⟩, hb7⟩ | exact ⟨none, 0, ⟨g, hrd⟩, hb7⟩ | (trace_state; fail)
end Go.Proofs.Ytjlaljnffmncpaa
