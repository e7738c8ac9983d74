/-
  impl: clone of a state, WindowOf, ReadyOk, DeadlineOf.
-/
import Derived.Test.YtjlaljnffmncpaaL14
import Derived.OwnWalk
namespace Go.Proofs.Ytjlaljnffmncpaa
set_option linter.unusedVariables false
set_option linter.unusedSimpArgs false
open Go.RowKit Pp

set_option maxHeartbeats 1000000 in
set_option maxRecDepth 100000 in
theorem stClone_c (now : Int) (xs : List Int) (A : Option Addr) (b o c B : Nat) (w : World) (hn : xs.length ≤ 2000000) (hB : B ≤ w.heap.size) (hR : IntsR w B b o A xs) :
    Calls Try.prog 129 #[.agg #[.int .i64 now, .slice A xs.length c]] w fun e w' => ∃ A1 c1, e = .returned (.agg #[.int .i64 now, .slice A1 xs.length c1]) ∧ OwnI w.heap.size w' (.slice A1 xs.length c1) xs ∧ Below w.heap.size w w' := by
  obtain ⟨i0, hi0, hz0, hz1, hz2⟩ := info_parts infoI
  go_enter Try.func129, Try.ntmps129
  go_wp2_with fail
  go_region_held3 (fun w' => w'.cell? ⟨w.heap.size, 0, none⟩ = some (.int .i64 now) ∧ w'.cell? ⟨w.heap.size, 1, none⟩ = some (.slice A xs.length c))
    (first | go_keep | (go_split_ands; refine ⟨?_, ?_⟩ <;> (rw [hgrow.cell_far _ (by simp only [World.size_alloc, World.size_drew]; omega) (by simp [Value.ownBlock])]; assumption)))
    ((refine app_step _ rfl _ _ _ rfl w.heap.size 3 i0 _ 1 8 Try.underlying44 hi0 hz0 hz1 hz2 rfl (by omega) (.slice none 0 0) 0 [] rfl (World.ownsRow_nil _ _ _ _)
        A xs.length c (xs.map (Value.int .i64)) rfl (by simp) ((hR.below ((show Below w.heap.size w _ by go_grown).mono hB)).news) (ints_one xs) (by omega) (by omega) (by simp only [World.size_alloc, World.size_drew]; omega) ?_
      intro A1 c1 w1 hown1 hgrow hat
      have hs0 : w1.cell? ⟨w.heap.size + 1, 0, none⟩ = some (.int .i64 0) := (by rw [hgrow.cell_far _ (by simp only [World.size_alloc, World.size_drew]; omega) (by simp [Value.ownBlock])]; simp [go_sem])
      have hs1 : w1.cell? ⟨w.heap.size + 1, 1, none⟩ = some (.slice none 0 0) := (by rw [hgrow.cell_far _ (by simp only [World.size_alloc, World.size_drew]; omega) (by simp [Value.ownBlock])]; simp [go_sem])
      have hf0 : w1.frozen? ⟨w.heap.size + 1, 0, none⟩ = false := (by rw [hgrow.frozen_far _ (by simp only [World.size_alloc, World.size_drew]; omega) (by simp [Value.ownBlock])]; simp [go_sem])
      have hf1 : w1.frozen? ⟨w.heap.size + 1, 1, none⟩ = false := (by rw [hgrow.frozen_far _ (by simp only [World.size_alloc, World.size_drew]; omega) (by simp [Value.ownBlock])]; simp [go_sem])))
  obtain ⟨r0, r1⟩ := two_cells (a := .int .i64 now) (b := .slice A1 xs.length c1) hs0 hs1
  go_wp2
  refine bodyPost_ret (v := .agg #[.int .i64 now, .slice A1 xs.length c1]) (by simp [results, Try.results129, go_sem, r0, r1]) rfl ?_
  rw [Nat.zero_add] at hown1
  rw [Nat.zero_add] at hat
  have hne : (Value.slice A1 xs.length c1).ownBlock ≠ some (w.heap.size + 1) := by
    rcases hat with e | e
    · rw [e]; simp [Value.ownBlock]
    · rw [e]; simp
  refine ⟨_, _, rfl, own_set (p := ⟨w.heap.size + 1, 1, none⟩) (own_set (p := ⟨w.heap.size + 1, 0, none⟩) hown1 hne _) hne _, ?_⟩
  exact ((Below.grown (row := none) (by go_grown) hgrow (by simp only [World.size_alloc, World.size_drew]; omega) (by simp)).setCell (by simp) _).setCell (by simp) _

/-- A closed table that is read. -/
theorem closed_tab (p : Pl) (A : Option Addr) (b o c B : Nat) (w : World) (hB : B ≤ w.heap.size) (hR : BdsR w B b o A p.bs) (hfit : fits p = true) :
    Calls Try.prog 81 #[.agg #[.int .i64 p.n, .slice A p.bs.length c]] w fun e w' => ∃ ob rb rc ct, e = .returned (.tuple #[.slice (some ⟨ob, 0, none⟩) (nn p) ct, .bool true]) ∧
      TabR w' w'.heap.size ob rb rc (nn p) (clT p) ∧ Below w.heap.size w w' := by
  refine (closed_yes p A b o c B w hB hR hfit).mono ?_
  rintro e w' ⟨ob, rb, rfl, hT, _, _, hb⟩
  exact ⟨ob, rb, _, _, rfl, hT.reads, hb⟩


set_option maxHeartbeats 1000000 in
set_option maxRecDepth 100000 in
theorem windowOf_c (p : Pl) (s : St) (pt : Int) (A A' : Option Addr) (b o c b' o' c' B : Nat) (w : World) (hn : p.bs.length ≤ 2000000) (hn' : s.done.length ≤ 2000000) (hB : B ≤ w.heap.size) (hR : BdsR w B b o A p.bs) (hR' : IntsR w B b' o' A' s.done) :
    Calls Try.prog 128 #[.agg #[.int .i64 p.n, .slice A p.bs.length c], .agg #[.int .i64 s.now, .slice A' s.done.length c'], .int .i64 pt] w fun e w' =>
      e = .returned (.tuple #[.int .i64 (window p s pt).1, .int .i64 (window p s pt).2.1, .bool (window p s pt).2.2]) ∧ Below w.heap.size w w' := by
  have hD := db_new (t := 25) (t' := 70) (n := p.n) (now := s.now) (c := c) (c' := c') hB hR hR'
  clear hR hR'
  cases h1 : stateOk p s
  · rw [window_no (by rw [h1]; rfl)]
    have H1 := hide h1
    clear h1
    go_enter Try.func128, Try.ntmps128
    go_upto_region 1 with fail
    generalize (w.alloc (.cells #[.int .i64 p.n, .slice A p.bs.length c] 25)).alloc (.cells #[.int .i64 s.now, .slice A' s.done.length c'] 70) = W at hD ⊢
    have p0 := hD.p.c0
    have p1 := hD.p.c1
    have s0 := hD.s.c0
    have s1 := hD.s.c1
    go_wp2_with (go_at_call 64; go_fit (stateOk_c p s A A' b o c b' o' c' _ _ hn hn' (Nat.le_refl _) hD.p.rd hD.s.rd); rintro e w2 ⟨rfl, hb2⟩; rw [H1.out]; replace hD := hD.below hb2; clear p0 p1 s0 s1; have p0 := hD.p.c0; have p1 := hD.p.c1; have s0 := hD.s.c0; have s1 := hD.s.c1)
    go_ret3
    exact ⟨rfl, hD.bel⟩
  · cases h2 : openB s.done pt
    · rw [window_no (by rw [h1, h2]; rfl)]
      have H1 := hide h1
      have H2 := hide h2
      clear h1 h2
      go_enter Try.func128, Try.ntmps128
      go_upto_region 1 with fail
      generalize (w.alloc (.cells #[.int .i64 p.n, .slice A p.bs.length c] 25)).alloc (.cells #[.int .i64 s.now, .slice A' s.done.length c'] 70) = W at hD ⊢
      have p0 := hD.p.c0
      have p1 := hD.p.c1
      have s0 := hD.s.c0
      have s1 := hD.s.c1
      go_wp2_with (first
        | (go_at_call 64; go_fit (stateOk_c p s A A' b o c b' o' c' _ _ hn hn' (Nat.le_refl _) hD.p.rd hD.s.rd); rintro e w2 ⟨rfl, hb2⟩; rw [H1.out]; replace hD := hD.below hb2; clear p0 p1 s0 s1; have p0 := hD.p.c0; have p1 := hD.p.c1; have s0 := hD.s.c0; have s1 := hD.s.c1)
        | (go_at_call 156; go_fit (open_c s.now pt s.done A' b' o' c' _ _ hn' (Nat.le_refl _) hD.s.rd); rintro e w3 ⟨rfl, hb3⟩; rw [H2.out]; replace hD := hD.below hb3; clear p0 p1 s0 s1; have p0 := hD.p.c0; have p1 := hD.p.c1; have s0 := hD.s.c0; have s1 := hD.s.c1))
      go_ret3
      exact ⟨rfl, hD.bel⟩
    · rw [window_yes h1 h2]
      have hs := stateOk_iff.1 h1
      obtain ⟨⟨o1, o2⟩, _⟩ := openB_iff.1 h2
      obtain ⟨k, rfl⟩ : ∃ k : Nat, pt = (k : Int) := ⟨pt.toNat, by omega⟩
      have hk : k < nn p := by rw [← hs.len]; omega
      have hn6 := (nn_ok (planOk_of_fits hs.fit)).1
      rw [Int.toNat_natCast]
      obtain ⟨lo, hlo⟩ : ∃ x, (winTo (clT p) s.done s.now k (nn p)).1 = x := ⟨_, rfl⟩
      obtain ⟨hi, hhi⟩ : ∃ x, (winTo (clT p) s.done s.now k (nn p)).2 = x := ⟨_, rfl⟩
      rw [hlo, hhi]
      have Hlo := hide hlo
      have Hhi := hide hhi
      have H1 := hide h1
      have H2 := hide h2
      have HS := hide hs
      clear h1 h2 hs hlo hhi
      go_enter Try.func128, Try.ntmps128
      go_upto_region 1 with fail
      generalize (w.alloc (.cells #[.int .i64 p.n, .slice A p.bs.length c] 25)).alloc (.cells #[.int .i64 s.now, .slice A' s.done.length c'] 70) = W at hD ⊢
      have p0 := hD.p.c0
      have p1 := hD.p.c1
      have s0 := hD.s.c0
      have s1 := hD.s.c1
      go_wp2_with (first
        | (go_at_call 64; go_fit (stateOk_c p s A A' b o c b' o' c' _ _ hn hn' (Nat.le_refl _) hD.p.rd hD.s.rd); rintro e w2 ⟨rfl, hb2⟩; rw [H1.out]; replace hD := hD.below hb2; clear p0 p1 s0 s1; have p0 := hD.p.c0; have p1 := hD.p.c1; have s0 := hD.s.c0; have s1 := hD.s.c1)
        | (go_at_call 156; go_fit (open_c s.now (k : Int) s.done A' b' o' c' _ _ hn' (Nat.le_refl _) hD.s.rd); rintro e w3 ⟨rfl, hb3⟩; rw [H2.out]; replace hD := hD.below hb3; clear p0 p1 s0 s1; have p0 := hD.p.c0; have p1 := hD.p.c1; have s0 := hD.s.c0; have s1 := hD.s.c1)
        | (go_at_call 81; go_fit (closed_tab p A b o c _ _ (Nat.le_refl _) hD.p.rd HS.out.fit); rintro e w4 ⟨ob, rb, rc, ct, rfl, hT, hb4⟩; replace hD := hD.below hb4; clear p0 p1 s0 s1; have p0 := hD.p.c0; have p1 := hD.p.c1; have s0 := hD.s.c0; have s1 := hD.s.c1)
        | (go_at_call 157; go_fit (window_c (nn p) ob (clT p) rb rc ct k s.done s.now A' b' o' c' _ _ (by omega) HS.out.len hk (Nat.le_refl _) hD.s.rd hT (small_clT HS.out.fit) HS.out.now HS.out.all); rintro e w5 ⟨rfl, hb5⟩; rw [Hlo.out, Hhi.out]; replace hD := hD.below hb5))
      go_ret3
      exact ⟨rfl, hD.bel⟩

set_option maxHeartbeats 1000000 in
set_option maxRecDepth 100000 in
theorem readyOk_c (p : Pl) (s : St) (pt : Int) (A A' : Option Addr) (b o c b' o' c' B : Nat) (w : World) (hn : p.bs.length ≤ 2000000) (hn' : s.done.length ≤ 2000000) (hB : B ≤ w.heap.size) (hR : BdsR w B b o A p.bs) (hR' : IntsR w B b' o' A' s.done) :
    Calls Try.prog 130 #[.agg #[.int .i64 p.n, .slice A p.bs.length c], .agg #[.int .i64 s.now, .slice A' s.done.length c'], .int .i64 pt] w fun e w' =>
      e = .returned (.bool (isReady p s pt)) ∧ Below w.heap.size w w' := by
  have hD := db_new (t := 25) (t' := 70) (n := p.n) (now := s.now) (c := c) (c' := c') hB hR hR'
  clear hR hR'
  obtain ⟨r, hr⟩ : ∃ r, isReady p s pt = r := ⟨_, rfl⟩
  rw [hr]
  have Hr := hide hr
  clear hr
  cases h1 : stateOk p s
  · have e : r = false := by rw [← Hr.out]; unfold isReady; rw [h1]; rfl
    subst e
    have H1 := hide h1
    clear h1
    go_enter Try.func130, Try.ntmps130
    go_upto_region 1 with fail
    generalize (w.alloc (.cells #[.int .i64 p.n, .slice A p.bs.length c] 25)).alloc (.cells #[.int .i64 s.now, .slice A' s.done.length c'] 70) = W at hD ⊢
    have p0 := hD.p.c0
    have p1 := hD.p.c1
    have s0 := hD.s.c0
    have s1 := hD.s.c1
    go_wp2_with (go_at_call 64; go_fit (stateOk_c p s A A' b o c b' o' c' _ _ hn hn' (Nat.le_refl _) hD.p.rd hD.s.rd); rintro e w2 ⟨rfl, hb2⟩; rw [H1.out]; replace hD := hD.below hb2; clear p0 p1 s0 s1; have p0 := hD.p.c0; have p1 := hD.p.c1; have s0 := hD.s.c0; have s1 := hD.s.c1)
    go_ret
    exact ⟨rfl, hD.bel⟩
  · cases h2 : openB s.done pt
    · have e : r = false := by rw [← Hr.out]; unfold isReady; rw [h1, h2]; rfl
      subst e
      have H1 := hide h1
      have H2 := hide h2
      clear h1 h2
      go_enter Try.func130, Try.ntmps130
      go_upto_region 1 with fail
      generalize (w.alloc (.cells #[.int .i64 p.n, .slice A p.bs.length c] 25)).alloc (.cells #[.int .i64 s.now, .slice A' s.done.length c'] 70) = W at hD ⊢
      have p0 := hD.p.c0
      have p1 := hD.p.c1
      have s0 := hD.s.c0
      have s1 := hD.s.c1
      go_wp2_with (first
        | (go_at_call 64; go_fit (stateOk_c p s A A' b o c b' o' c' _ _ hn hn' (Nat.le_refl _) hD.p.rd hD.s.rd); rintro e w2 ⟨rfl, hb2⟩; rw [H1.out]; replace hD := hD.below hb2; clear p0 p1 s0 s1; have p0 := hD.p.c0; have p1 := hD.p.c1; have s0 := hD.s.c0; have s1 := hD.s.c1)
        | (go_at_call 156; go_fit (open_c s.now pt s.done A' b' o' c' _ _ hn' (Nat.le_refl _) hD.s.rd); rintro e w3 ⟨rfl, hb3⟩; rw [H2.out]; replace hD := hD.below hb3; clear p0 p1 s0 s1; have p0 := hD.p.c0; have p1 := hD.p.c1; have s0 := hD.s.c0; have s1 := hD.s.c1))
      go_ret
      exact ⟨rfl, hD.bel⟩
    · have hs := stateOk_iff.1 h1
      obtain ⟨⟨o1, o2⟩, _⟩ := openB_iff.1 h2
      obtain ⟨k, rfl⟩ : ∃ k : Nat, pt = (k : Int) := ⟨pt.toNat, by omega⟩
      have hk : k < nn p := by rw [← hs.len]; omega
      have hn6 := (nn_ok (planOk_of_fits hs.fit)).1
      have hr3 : rdyTo (clT p) s.done k (nn p) = r := by rw [← Hr.out]; unfold isReady; rw [h1, h2, Int.toNat_natCast]; rfl
      have Hr3 := hide hr3
      have H1 := hide h1
      have H2 := hide h2
      have HS := hide hs
      clear h1 h2 hs hr3
      go_enter Try.func130, Try.ntmps130
      go_upto_region 1 with fail
      generalize (w.alloc (.cells #[.int .i64 p.n, .slice A p.bs.length c] 25)).alloc (.cells #[.int .i64 s.now, .slice A' s.done.length c'] 70) = W at hD ⊢
      have p0 := hD.p.c0
      have p1 := hD.p.c1
      have s0 := hD.s.c0
      have s1 := hD.s.c1
      go_wp2_with (first
        | (go_at_call 64; go_fit (stateOk_c p s A A' b o c b' o' c' _ _ hn hn' (Nat.le_refl _) hD.p.rd hD.s.rd); rintro e w2 ⟨rfl, hb2⟩; rw [H1.out]; replace hD := hD.below hb2; clear p0 p1 s0 s1; have p0 := hD.p.c0; have p1 := hD.p.c1; have s0 := hD.s.c0; have s1 := hD.s.c1)
        | (go_at_call 156; go_fit (open_c s.now (k : Int) s.done A' b' o' c' _ _ hn' (Nat.le_refl _) hD.s.rd); rintro e w3 ⟨rfl, hb3⟩; rw [H2.out]; replace hD := hD.below hb3; clear p0 p1 s0 s1; have p0 := hD.p.c0; have p1 := hD.p.c1; have s0 := hD.s.c0; have s1 := hD.s.c1)
        | (go_at_call 81; go_fit (closed_tab p A b o c _ _ (Nat.le_refl _) hD.p.rd HS.out.fit); rintro e w4 ⟨ob, rb, rc, ct, rfl, hT, hb4⟩; replace hD := hD.below hb4; clear p0 p1 s0 s1; have p0 := hD.p.c0; have p1 := hD.p.c1; have s0 := hD.s.c0; have s1 := hD.s.c1)
        | (go_at_call 158; go_fit (ready_c (nn p) ob (clT p) rb rc ct k s.done s.now A' b' o' c' _ _ (by omega) HS.out.len hk (Nat.le_refl _) hD.s.rd hT); rintro e w5 ⟨rfl, hb5⟩; rw [Hr3.out]; replace hD := hD.below hb5))
      go_ret
      exact ⟨rfl, hD.bel⟩

set_option maxHeartbeats 2000000 in
set_option maxRecDepth 100000 in
theorem deadlineOf_c (p : Pl) (s : St) (A A' : Option Addr) (b o c b' o' c' B : Nat) (w : World) (hn : p.bs.length ≤ 2000000) (hn' : s.done.length ≤ 2000000) (hB : B ≤ w.heap.size) (hR : BdsR w B b o A p.bs) (hR' : IntsR w B b' o' A' s.done) :
    Calls Try.prog 131 #[.agg #[.int .i64 p.n, .slice A p.bs.length c], .agg #[.int .i64 s.now, .slice A' s.done.length c']] w fun e w' =>
      e = .returned (.int .i64 (deadline p s)) ∧ Below w.heap.size w w' := by
  have hD := db_new (t := 25) (t' := 70) (n := p.n) (now := s.now) (c := c) (c' := c') hB hR hR'
  clear hR hR'
  cases h1 : stateOk p s
  · have e : deadline p s = -1 := by unfold deadline; rw [h1]; rfl
    rw [e]
    have H1 := hide h1
    clear h1 e
    go_enter Try.func131, Try.ntmps131
    go_upto_region 1 with fail
    generalize (w.alloc (.cells #[.int .i64 p.n, .slice A p.bs.length c] 25)).alloc (.cells #[.int .i64 s.now, .slice A' s.done.length c'] 70) = W at hD ⊢
    have p0 := hD.p.c0
    have p1 := hD.p.c1
    have s0 := hD.s.c0
    have s1 := hD.s.c1
    go_wp2_with (go_at_call 64; go_fit (stateOk_c p s A A' b o c b' o' c' _ _ hn hn' (Nat.le_refl _) hD.p.rd hD.s.rd); rintro e w2 ⟨rfl, hb2⟩; rw [H1.out]; replace hD := hD.below hb2; clear p0 p1 s0 s1; have p0 := hD.p.c0; have p1 := hD.p.c1; have s0 := hD.s.c0; have s1 := hD.s.c1)
    go_ret
    exact ⟨rfl, hD.bel⟩
  · have e : deadline p s = deadTo (clT p) s.done s.now (nn p) (nn p) := by unfold deadline; rw [h1]; rfl
    rw [e]
    have hs := stateOk_iff.1 h1
    have hn6 := (nn_ok (planOk_of_fits hs.fit)).1
    obtain ⟨m, hm⟩ : ∃ m, nn p = m := ⟨_, rfl⟩
    have Hm := hide hm
    have habs := deadTo_abs (small_clT hs.fit) hs.len hs.now hs.all
    have hwabs := fun pt hpt => winTo_abs (small_clT hs.fit) hs.len hs.now hs.all (pt := pt) hpt (nn p) (Nat.le_refl _)
    have hl := hs.len
    have H1 := hide h1
    have HS := hide hs
    have Hl := hide hl
    rw [hm] at hn6 habs hwabs ⊢
    clear h1 hs e hm hl
    go_enter Try.func131, Try.ntmps131
    go_upto_region 1 with fail
    generalize (w.alloc (.cells #[.int .i64 p.n, .slice A p.bs.length c] 25)).alloc (.cells #[.int .i64 s.now, .slice A' s.done.length c'] 70) = W at hD ⊢
    have p0 := hD.p.c0
    have p1 := hD.p.c1
    have s0 := hD.s.c0
    have s1 := hD.s.c1
    go_wp2_with (first
      | (go_at_call 64; go_fit (stateOk_c p s A A' b o c b' o' c' _ _ hn hn' (Nat.le_refl _) hD.p.rd hD.s.rd); rintro e w2 ⟨rfl, hb2⟩; rw [H1.out]; replace hD := hD.below hb2; clear p0 p1 s0 s1; have p0 := hD.p.c0; have p1 := hD.p.c1; have s0 := hD.s.c0; have s1 := hD.s.c1)
      | (go_at_call 81; go_fit (closed_tab p A b o c _ _ (Nat.le_refl _) hD.p.rd HS.out.fit); rintro e w4 ⟨ob, rb, rc, ct, rfl, hT, hb4⟩; rw [Hm.out] at hT ⊢; replace hD := hD.below hb4; clear p0 p1 s0 s1; have p0 := hD.p.c0; have p1 := hD.p.c1; have s0 := hD.s.c0; have s1 := hD.s.c1))
    clear p0 p1 s0 s1
    obtain ⟨Bt, hBt⟩ : ∃ x, w4.heap.size = x := ⟨_, rfl⟩
    have hBle : Bt ≤ w4.heap.size := by omega
    rw [hBt] at hT
    clear hBt
    go_loopg [7, 23] m (fun gh s7 s23 wr => ∃ (k : Nat) (d : Int), k ≤ m ∧ gh = m - k ∧ s7 = .int .i64 d ∧ s23 = .int .i64 k ∧ Hid (deadTo (clT p) s.done s.now m k = d) ∧ DB w wr b o p.n A c p.bs b' o' s.now A' c' s.done ∧ TabR wr Bt ob rb rc m (clT p) ∧ Bt ≤ wr.heap.size)
    case atStart => exact ⟨0, 100000, Nat.zero_le _, rfl, rfl, rfl, rfl, hD, hT, hBle⟩
    case round =>
      clear hD hT hBle
      obtain ⟨k, d, hk, rfl, rfl, rfl, Hd, hD, hT, hBle⟩ := hrel
      have hlen := Hl.out
      have hab := habs k hk
      rw [Hd.out] at hab
      obtain ⟨d1, d2⟩ := hab
      by_cases hlt : k < m
      · have hz : (k : Int) < (s.done.length : Int) := by rw [hlen, Hm.out]; omega
        have hop := openB_at (xs := s.done) (k := k) (by omega)
        have hwk := hwabs k hlt
        clear hlen
        have s0 := hD.s.c0
        have s1 := hD.s.c1
        by_cases g0 : s.done.getD k 0 = -1
        · rw [decide_eq_true g0] at hop
          have Hop := hide hop
          have G0 := hide g0
          obtain ⟨lo, hlo⟩ : ∃ x, (winTo (clT p) s.done s.now k m).1 = x := ⟨_, rfl⟩
          obtain ⟨hi, hhi⟩ : ∃ x, (winTo (clT p) s.done s.now k m).2 = x := ⟨_, rfl⟩
          rw [hlo, hhi] at hwk
          have Hlo := hide hlo
          have Hhi := hide hhi
          clear hop g0 hlo hhi
          obtain ⟨_, h1, h2⟩ := hwk
          have Hst : Hid (deadTo (clT p) s.done s.now m (k + 1) = min d hi) := by
            unfold Hid
            show (if s.done.getD k 0 = -1 then min (deadTo (clT p) s.done s.now m k) (winTo (clT p) s.done s.now k m).2 else _) = _
            rw [if_pos G0.out, Hd.out, Hhi.out]
          go_wp2_with (first
            | (go_at_call 156; go_fit (open_c s.now (k : Int) s.done A' b' o' c' _ _ hn' (Nat.le_refl _) hD.s.rd); rintro e w3 ⟨rfl, hb3⟩; rw [Hop.out]; replace hD := hD.below hb3; replace hT := hT.below (hb3.mono hBle); replace hBle := Nat.le_trans hBle hb3.size; clear s0 s1; have s0 := hD.s.c0; have s1 := hD.s.c1)
            | (go_at_call 157; go_fit (window_c m ob (clT p) rb rc ct k s.done s.now A' b' o' c' _ _ (by omega) (by rw [← Hm.out]; exact Hl.out) hlt (Nat.le_refl _) hD.s.rd (hT.more hBle) (by rw [← Hm.out]; exact small_clT HS.out.fit) HS.out.now HS.out.all); rintro e w5 ⟨rfl, hb5⟩; rw [Hlo.out, Hhi.out]; replace hD := hD.below hb5; replace hT := hT.below (hb5.mono hBle); replace hBle := Nat.le_trans hBle hb5.size))
          all_goals
            go_roundg (m - (k + 1))
            case measure => go_light; omega
            case rel => go_light; exact ⟨k + 1, _, by omega, rfl, rfl, by go_num, by unfold Hid; rw [Hst.out]; omega, hD, hT, hBle⟩
        · rw [decide_eq_false g0] at hop
          have Hop := hide hop
          have Hst : Hid (deadTo (clT p) s.done s.now m (k + 1) = d) := by
            unfold Hid
            show (if s.done.getD k 0 = -1 then _ else deadTo (clT p) s.done s.now m k) = _
            rw [if_neg g0, Hd.out]
          clear hop g0
          go_wp2_with (go_at_call 156; go_fit (open_c s.now (k : Int) s.done A' b' o' c' _ _ hn' (Nat.le_refl _) hD.s.rd); rintro e w3 ⟨rfl, hb3⟩; rw [Hop.out]; replace hD := hD.below hb3; replace hT := hT.below (hb3.mono hBle); replace hBle := Nat.le_trans hBle hb3.size)
          go_roundg (m - (k + 1))
          case measure => go_light; omega
          case rel => go_light; exact ⟨k + 1, _, by omega, rfl, rfl, by go_num, Hst, hD, hT, hBle⟩
      · obtain rfl : k = m := by omega
        have hz : ¬ (k : Int) < (s.done.length : Int) := by rw [hlen, Hm.out]; omega
        clear hlen
        go_wp2_with fail
        go_ret
        rw [Hd.out]
        exact ⟨rfl, hD.bel⟩
end Go.Proofs.Ytjlaljnffmncpaa
