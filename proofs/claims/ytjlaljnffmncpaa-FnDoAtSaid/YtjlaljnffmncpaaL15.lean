/-
  impl: clone of a state, WindowOf, ReadyOk, DeadlineOf.
  impl: DoAt.
-/
import Derived.Test.YtjlaljnffmncpaaL14
import Derived.OwnWalk
import Derived.Test.YtjlaljnffmncpaaL11a
namespace Go.Proofs.Ytjlaljnffmncpaa
set_option linter.unusedVariables false
set_option linter.unusedSimpArgs false
open Go.RowKit Pp

set_option maxHeartbeats 1000000 in
set_option maxRecDepth 100000 in
theorem stClone_c (now : Int) (xs : List Int) (A : Option Addr) (b o c B : Nat) (w : World) (hn : xs.length ≤ 2000000) (hB : B ≤ w.heap.size) (hR : IntsR w B b o A xs) :
    Calls Try.prog 129 #[.agg #[.int .i64 now, .slice A xs.length c]] w fun e w' => ∃ A1 c1, e = .returned (.agg #[.int .i64 now, .slice A1 xs.length c1]) ∧ OwnI w.heap.size w' (.slice A1 xs.length c1) xs ∧ Below w.heap.size w w' := by
  obtain ⟨i0, hi0, hz0, hz1, hz2⟩ := info_parts infoI
  go_enter Try.func129, Try.ntmps129
  go_wp2_with fail
  go_region_held3 (fun w' => w'.cell? ⟨w.heap.size, 0, none⟩ = some (.int .i64 now) ∧ w'.cell? ⟨w.heap.size, 1, none⟩ = some (.slice A xs.length c))
    (first | go_keep | (go_split_ands; refine ⟨?_, ?_⟩ <;> (rw [hgrow.cell_far _ (by simp only [World.size_alloc, World.size_drew]; omega) (by simp [Value.ownBlock])]; assumption)))
    ((refine app_step _ rfl _ _ _ rfl w.heap.size 3 i0 _ 1 8 Try.underlying44 hi0 hz0 hz1 hz2 rfl (by omega) (.slice none 0 0) 0 [] rfl (World.ownsRow_nil _ _ _ _)
        A xs.length c (xs.map (Value.int .i64)) rfl (by simp) ((hR.below ((show Below w.heap.size w _ by go_grown).mono hB)).news) (ints_one xs) (by omega) (by omega) (by simp only [World.size_alloc, World.size_drew]; omega) ?_
      intro A1 c1 w1 hown1 hgrow hat
      have hs0 : w1.cell? ⟨w.heap.size + 1, 0, none⟩ = some (.int .i64 0) := (by rw [hgrow.cell_far _ (by simp only [World.size_alloc, World.size_drew]; omega) (by simp [Value.ownBlock])]; simp [go_sem])
      have hs1 : w1.cell? ⟨w.heap.size + 1, 1, none⟩ = some (.slice none 0 0) := (by rw [hgrow.cell_far _ (by simp only [World.size_alloc, World.size_drew]; omega) (by simp [Value.ownBlock])]; simp [go_sem])
      have hf0 : w1.frozen? ⟨w.heap.size + 1, 0, none⟩ = false := (by rw [hgrow.frozen_far _ (by simp only [World.size_alloc, World.size_drew]; omega) (by simp [Value.ownBlock])]; simp [go_sem])
      have hf1 : w1.frozen? ⟨w.heap.size + 1, 1, none⟩ = false := (by rw [hgrow.frozen_far _ (by simp only [World.size_alloc, World.size_drew]; omega) (by simp [Value.ownBlock])]; simp [go_sem])))
  obtain ⟨r0, r1⟩ := two_cells (a := .int .i64 now) (b := .slice A1 xs.length c1) hs0 hs1
  go_wp2
  refine bodyPost_ret (v := .agg #[.int .i64 now, .slice A1 xs.length c1]) (by simp [results, Try.results129, go_sem, r0, r1]) rfl ?_
  rw [Nat.zero_add] at hown1
  rw [Nat.zero_add] at hat
  have hne : (Value.slice A1 xs.length c1).ownBlock ≠ some (w.heap.size + 1) := by
    rcases hat with e | e
    · rw [e]; simp [Value.ownBlock]
    · rw [e]; simp
  refine ⟨_, _, rfl, own_set (p := ⟨w.heap.size + 1, 1, none⟩) (own_set (p := ⟨w.heap.size + 1, 0, none⟩) hown1 hne _) hne _, ?_⟩
  exact ((Below.grown (row := none) (by go_grown) hgrow (by simp only [World.size_alloc, World.size_drew]; omega) (by simp)).setCell (by simp) _).setCell (by simp) _

/-- A closed table that is read. -/
theorem closed_tab (p : Pl) (A : Option Addr) (b o c B : Nat) (w : World) (hB : B ≤ w.heap.size) (hR : BdsR w B b o A p.bs) (hfit : fits p = true) :
    Calls Try.prog 81 #[.agg #[.int .i64 p.n, .slice A p.bs.length c]] w fun e w' => ∃ ob rb rc ct, e = .returned (.tuple #[.slice (some ⟨ob, 0, none⟩) (nn p) ct, .bool true]) ∧
      TabR w' w'.heap.size ob rb rc (nn p) (clT p) ∧ Below w.heap.size w w' := by
  refine (closed_yes p A b o c B w hB hR hfit).mono ?_
  rintro e w' ⟨ob, rb, rfl, hT, _, _, hb⟩
  exact ⟨ob, rb, _, _, rfl, hT.reads, hb⟩


set_option maxHeartbeats 1000000 in
set_option maxRecDepth 100000 in
theorem windowOf_c (p : Pl) (s : St) (pt : Int) (A A' : Option Addr) (b o c b' o' c' B : Nat) (w : World) (hn : p.bs.length ≤ 2000000) (hn' : s.done.length ≤ 2000000) (hB : B ≤ w.heap.size) (hR : BdsR w B b o A p.bs) (hR' : IntsR w B b' o' A' s.done) :
    Calls Try.prog 128 #[.agg #[.int .i64 p.n, .slice A p.bs.length c], .agg #[.int .i64 s.now, .slice A' s.done.length c'], .int .i64 pt] w fun e w' =>
      e = .returned (.tuple #[.int .i64 (window p s pt).1, .int .i64 (window p s pt).2.1, .bool (window p s pt).2.2]) ∧ Below w.heap.size w w' := by
  have hD := db_new (t := 25) (t' := 70) (n := p.n) (now := s.now) (c := c) (c' := c') hB hR hR'
  clear hR hR'
  cases h1 : stateOk p s
  · rw [window_no (by rw [h1]; rfl)]
    have H1 := hide h1
    clear h1
    go_enter Try.func128, Try.ntmps128
    go_upto_region 1 with fail
    generalize (w.alloc (.cells #[.int .i64 p.n, .slice A p.bs.length c] 25)).alloc (.cells #[.int .i64 s.now, .slice A' s.done.length c'] 70) = W at hD ⊢
    have p0 := hD.p.c0
    have p1 := hD.p.c1
    have s0 := hD.s.c0
    have s1 := hD.s.c1
    go_wp2_with (go_at_call 64; go_fit (stateOk_c p s A A' b o c b' o' c' _ _ hn hn' (Nat.le_refl _) hD.p.rd hD.s.rd); rintro e w2 ⟨rfl, hb2⟩; rw [H1.out]; replace hD := hD.below hb2; clear p0 p1 s0 s1; have p0 := hD.p.c0; have p1 := hD.p.c1; have s0 := hD.s.c0; have s1 := hD.s.c1)
    go_ret3
    exact ⟨rfl, hD.bel⟩
  · cases h2 : openB s.done pt
    · rw [window_no (by rw [h1, h2]; rfl)]
      have H1 := hide h1
      have H2 := hide h2
      clear h1 h2
      go_enter Try.func128, Try.ntmps128
      go_upto_region 1 with fail
      generalize (w.alloc (.cells #[.int .i64 p.n, .slice A p.bs.length c] 25)).alloc (.cells #[.int .i64 s.now, .slice A' s.done.length c'] 70) = W at hD ⊢
      have p0 := hD.p.c0
      have p1 := hD.p.c1
      have s0 := hD.s.c0
      have s1 := hD.s.c1
      go_wp2_with (first
        | (go_at_call 64; go_fit (stateOk_c p s A A' b o c b' o' c' _ _ hn hn' (Nat.le_refl _) hD.p.rd hD.s.rd); rintro e w2 ⟨rfl, hb2⟩; rw [H1.out]; replace hD := hD.below hb2; clear p0 p1 s0 s1; have p0 := hD.p.c0; have p1 := hD.p.c1; have s0 := hD.s.c0; have s1 := hD.s.c1)
        | (go_at_call 156; go_fit (stOpen_c s.now pt s.done A' b' o' c' _ _ hn' (Nat.le_refl _) hD.s.rd); rintro e w3 ⟨rfl, hb3⟩; rw [H2.out]; replace hD := hD.below hb3; clear p0 p1 s0 s1; have p0 := hD.p.c0; have p1 := hD.p.c1; have s0 := hD.s.c0; have s1 := hD.s.c1))
      go_ret3
      exact ⟨rfl, hD.bel⟩
    · rw [window_yes h1 h2]
      have hs := stateOk_iff.1 h1
      obtain ⟨⟨o1, o2⟩, _⟩ := openB_iff.1 h2
      obtain ⟨k, rfl⟩ : ∃ k : Nat, pt = (k : Int) := ⟨pt.toNat, by omega⟩
      have hk : k < nn p := by rw [← hs.len]; omega
      have hn6 := (nn_ok (planOk_of_fits hs.fit)).1
      rw [Int.toNat_natCast]
      obtain ⟨lo, hlo⟩ : ∃ x, (winTo (clT p) s.done s.now k (nn p)).1 = x := ⟨_, rfl⟩
      obtain ⟨hi, hhi⟩ : ∃ x, (winTo (clT p) s.done s.now k (nn p)).2 = x := ⟨_, rfl⟩
      rw [hlo, hhi]
      have Hlo := hide hlo
      have Hhi := hide hhi
      have H1 := hide h1
      have H2 := hide h2
      have HS := hide hs
      clear h1 h2 hs hlo hhi
      go_enter Try.func128, Try.ntmps128
      go_upto_region 1 with fail
      generalize (w.alloc (.cells #[.int .i64 p.n, .slice A p.bs.length c] 25)).alloc (.cells #[.int .i64 s.now, .slice A' s.done.length c'] 70) = W at hD ⊢
      have p0 := hD.p.c0
      have p1 := hD.p.c1
      have s0 := hD.s.c0
      have s1 := hD.s.c1
      go_wp2_with (first
        | (go_at_call 64; go_fit (stateOk_c p s A A' b o c b' o' c' _ _ hn hn' (Nat.le_refl _) hD.p.rd hD.s.rd); rintro e w2 ⟨rfl, hb2⟩; rw [H1.out]; replace hD := hD.below hb2; clear p0 p1 s0 s1; have p0 := hD.p.c0; have p1 := hD.p.c1; have s0 := hD.s.c0; have s1 := hD.s.c1)
        | (go_at_call 156; go_fit (stOpen_c s.now (k : Int) s.done A' b' o' c' _ _ hn' (Nat.le_refl _) hD.s.rd); rintro e w3 ⟨rfl, hb3⟩; rw [H2.out]; replace hD := hD.below hb3; clear p0 p1 s0 s1; have p0 := hD.p.c0; have p1 := hD.p.c1; have s0 := hD.s.c0; have s1 := hD.s.c1)
        | (go_at_call 81; go_fit (closed_tab p A b o c _ _ (Nat.le_refl _) hD.p.rd HS.out.fit); rintro e w4 ⟨ob, rb, rc, ct, rfl, hT, hb4⟩; replace hD := hD.below hb4; clear p0 p1 s0 s1; have p0 := hD.p.c0; have p1 := hD.p.c1; have s0 := hD.s.c0; have s1 := hD.s.c1)
        | (go_at_call 157; go_fit (window_c (nn p) ob (clT p) rb rc ct k s.done s.now A' b' o' c' _ _ (by omega) HS.out.len hk (Nat.le_refl _) hD.s.rd hT (small_clT HS.out.fit) HS.out.now HS.out.all); rintro e w5 ⟨rfl, hb5⟩; rw [Hlo.out, Hhi.out]; replace hD := hD.below hb5))
      go_ret3
      exact ⟨rfl, hD.bel⟩

set_option maxHeartbeats 1000000 in
set_option maxRecDepth 100000 in
theorem readyOk_c (p : Pl) (s : St) (pt : Int) (A A' : Option Addr) (b o c b' o' c' B : Nat) (w : World) (hn : p.bs.length ≤ 2000000) (hn' : s.done.length ≤ 2000000) (hB : B ≤ w.heap.size) (hR : BdsR w B b o A p.bs) (hR' : IntsR w B b' o' A' s.done) :
    Calls Try.prog 130 #[.agg #[.int .i64 p.n, .slice A p.bs.length c], .agg #[.int .i64 s.now, .slice A' s.done.length c'], .int .i64 pt] w fun e w' =>
      e = .returned (.bool (isReady p s pt)) ∧ Below w.heap.size w w' := by
  have hD := db_new (t := 25) (t' := 70) (n := p.n) (now := s.now) (c := c) (c' := c') hB hR hR'
  clear hR hR'
  obtain ⟨r, hr⟩ : ∃ r, isReady p s pt = r := ⟨_, rfl⟩
  rw [hr]
  have Hr := hide hr
  clear hr
  cases h1 : stateOk p s
  · have e : r = false := by rw [← Hr.out]; unfold isReady; rw [h1]; rfl
    subst e
    have H1 := hide h1
    clear h1
    go_enter Try.func130, Try.ntmps130
    go_upto_region 1 with fail
    generalize (w.alloc (.cells #[.int .i64 p.n, .slice A p.bs.length c] 25)).alloc (.cells #[.int .i64 s.now, .slice A' s.done.length c'] 70) = W at hD ⊢
    have p0 := hD.p.c0
    have p1 := hD.p.c1
    have s0 := hD.s.c0
    have s1 := hD.s.c1
    go_wp2_with (go_at_call 64; go_fit (stateOk_c p s A A' b o c b' o' c' _ _ hn hn' (Nat.le_refl _) hD.p.rd hD.s.rd); rintro e w2 ⟨rfl, hb2⟩; rw [H1.out]; replace hD := hD.below hb2; clear p0 p1 s0 s1; have p0 := hD.p.c0; have p1 := hD.p.c1; have s0 := hD.s.c0; have s1 := hD.s.c1)
    go_ret
    exact ⟨rfl, hD.bel⟩
  · cases h2 : openB s.done pt
    · have e : r = false := by rw [← Hr.out]; unfold isReady; rw [h1, h2]; rfl
      subst e
      have H1 := hide h1
      have H2 := hide h2
      clear h1 h2
      go_enter Try.func130, Try.ntmps130
      go_upto_region 1 with fail
      generalize (w.alloc (.cells #[.int .i64 p.n, .slice A p.bs.length c] 25)).alloc (.cells #[.int .i64 s.now, .slice A' s.done.length c'] 70) = W at hD ⊢
      have p0 := hD.p.c0
      have p1 := hD.p.c1
      have s0 := hD.s.c0
      have s1 := hD.s.c1
      go_wp2_with (first
        | (go_at_call 64; go_fit (stateOk_c p s A A' b o c b' o' c' _ _ hn hn' (Nat.le_refl _) hD.p.rd hD.s.rd); rintro e w2 ⟨rfl, hb2⟩; rw [H1.out]; replace hD := hD.below hb2; clear p0 p1 s0 s1; have p0 := hD.p.c0; have p1 := hD.p.c1; have s0 := hD.s.c0; have s1 := hD.s.c1)
        | (go_at_call 156; go_fit (stOpen_c s.now pt s.done A' b' o' c' _ _ hn' (Nat.le_refl _) hD.s.rd); rintro e w3 ⟨rfl, hb3⟩; rw [H2.out]; replace hD := hD.below hb3; clear p0 p1 s0 s1; have p0 := hD.p.c0; have p1 := hD.p.c1; have s0 := hD.s.c0; have s1 := hD.s.c1))
      go_ret
      exact ⟨rfl, hD.bel⟩
    · have hs := stateOk_iff.1 h1
      obtain ⟨⟨o1, o2⟩, _⟩ := openB_iff.1 h2
      obtain ⟨k, rfl⟩ : ∃ k : Nat, pt = (k : Int) := ⟨pt.toNat, by omega⟩
      have hk : k < nn p := by rw [← hs.len]; omega
      have hn6 := (nn_ok (planOk_of_fits hs.fit)).1
      have hr3 : rdyTo (clT p) s.done k (nn p) = r := by rw [← Hr.out]; unfold isReady; rw [h1, h2, Int.toNat_natCast]; rfl
      have Hr3 := hide hr3
      have H1 := hide h1
      have H2 := hide h2
      have HS := hide hs
      clear h1 h2 hs hr3
      go_enter Try.func130, Try.ntmps130
      go_upto_region 1 with fail
      generalize (w.alloc (.cells #[.int .i64 p.n, .slice A p.bs.length c] 25)).alloc (.cells #[.int .i64 s.now, .slice A' s.done.length c'] 70) = W at hD ⊢
      have p0 := hD.p.c0
      have p1 := hD.p.c1
      have s0 := hD.s.c0
      have s1 := hD.s.c1
      go_wp2_with (first
        | (go_at_call 64; go_fit (stateOk_c p s A A' b o c b' o' c' _ _ hn hn' (Nat.le_refl _) hD.p.rd hD.s.rd); rintro e w2 ⟨rfl, hb2⟩; rw [H1.out]; replace hD := hD.below hb2; clear p0 p1 s0 s1; have p0 := hD.p.c0; have p1 := hD.p.c1; have s0 := hD.s.c0; have s1 := hD.s.c1)
        | (go_at_call 156; go_fit (stOpen_c s.now (k : Int) s.done A' b' o' c' _ _ hn' (Nat.le_refl _) hD.s.rd); rintro e w3 ⟨rfl, hb3⟩; rw [H2.out]; replace hD := hD.below hb3; clear p0 p1 s0 s1; have p0 := hD.p.c0; have p1 := hD.p.c1; have s0 := hD.s.c0; have s1 := hD.s.c1)
        | (go_at_call 81; go_fit (closed_tab p A b o c _ _ (Nat.le_refl _) hD.p.rd HS.out.fit); rintro e w4 ⟨ob, rb, rc, ct, rfl, hT, hb4⟩; replace hD := hD.below hb4; clear p0 p1 s0 s1; have p0 := hD.p.c0; have p1 := hD.p.c1; have s0 := hD.s.c0; have s1 := hD.s.c1)
        | (go_at_call 158; go_fit (ready_c (nn p) ob (clT p) rb rc ct k s.done s.now A' b' o' c' _ _ (by omega) HS.out.len hk (Nat.le_refl _) hD.s.rd hT); rintro e w5 ⟨rfl, hb5⟩; rw [Hr3.out]; replace hD := hD.below hb5))
      go_ret
      exact ⟨rfl, hD.bel⟩

set_option maxHeartbeats 2000000 in
set_option maxRecDepth 100000 in
theorem deadlineOf_c (p : Pl) (s : St) (A A' : Option Addr) (b o c b' o' c' B : Nat) (w : World) (hn : p.bs.length ≤ 2000000) (hn' : s.done.length ≤ 2000000) (hB : B ≤ w.heap.size) (hR : BdsR w B b o A p.bs) (hR' : IntsR w B b' o' A' s.done) :
    Calls Try.prog 131 #[.agg #[.int .i64 p.n, .slice A p.bs.length c], .agg #[.int .i64 s.now, .slice A' s.done.length c']] w fun e w' =>
      e = .returned (.int .i64 (deadline p s)) ∧ Below w.heap.size w w' := by
  have hD := db_new (t := 25) (t' := 70) (n := p.n) (now := s.now) (c := c) (c' := c') hB hR hR'
  clear hR hR'
  cases h1 : stateOk p s
  · have e : deadline p s = -1 := by unfold deadline; rw [h1]; rfl
    rw [e]
    have H1 := hide h1
    clear h1 e
    go_enter Try.func131, Try.ntmps131
    go_upto_region 1 with fail
    generalize (w.alloc (.cells #[.int .i64 p.n, .slice A p.bs.length c] 25)).alloc (.cells #[.int .i64 s.now, .slice A' s.done.length c'] 70) = W at hD ⊢
    have p0 := hD.p.c0
    have p1 := hD.p.c1
    have s0 := hD.s.c0
    have s1 := hD.s.c1
    go_wp2_with (go_at_call 64; go_fit (stateOk_c p s A A' b o c b' o' c' _ _ hn hn' (Nat.le_refl _) hD.p.rd hD.s.rd); rintro e w2 ⟨rfl, hb2⟩; rw [H1.out]; replace hD := hD.below hb2; clear p0 p1 s0 s1; have p0 := hD.p.c0; have p1 := hD.p.c1; have s0 := hD.s.c0; have s1 := hD.s.c1)
    go_ret
    exact ⟨rfl, hD.bel⟩
  · have e : deadline p s = deadTo (clT p) s.done s.now (nn p) (nn p) := by unfold deadline; rw [h1]; rfl
    rw [e]
    have hs := stateOk_iff.1 h1
    have hn6 := (nn_ok (planOk_of_fits hs.fit)).1
    obtain ⟨m, hm⟩ : ∃ m, nn p = m := ⟨_, rfl⟩
    have Hm := hide hm
    have habs := deadTo_abs (small_clT hs.fit) hs.len hs.now hs.all
    have hwabs := fun pt hpt => winTo_abs (small_clT hs.fit) hs.len hs.now hs.all (pt := pt) hpt (nn p) (Nat.le_refl _)
    have hl := hs.len
    have H1 := hide h1
    have HS := hide hs
    have Hl := hide hl
    rw [hm] at hn6 habs hwabs ⊢
    clear h1 hs e hm hl
    go_enter Try.func131, Try.ntmps131
    go_upto_region 1 with fail
    generalize (w.alloc (.cells #[.int .i64 p.n, .slice A p.bs.length c] 25)).alloc (.cells #[.int .i64 s.now, .slice A' s.done.length c'] 70) = W at hD ⊢
    have p0 := hD.p.c0
    have p1 := hD.p.c1
    have s0 := hD.s.c0
    have s1 := hD.s.c1
    go_wp2_with (first
      | (go_at_call 64; go_fit (stateOk_c p s A A' b o c b' o' c' _ _ hn hn' (Nat.le_refl _) hD.p.rd hD.s.rd); rintro e w2 ⟨rfl, hb2⟩; rw [H1.out]; replace hD := hD.below hb2; clear p0 p1 s0 s1; have p0 := hD.p.c0; have p1 := hD.p.c1; have s0 := hD.s.c0; have s1 := hD.s.c1)
      | (go_at_call 81; go_fit (closed_tab p A b o c _ _ (Nat.le_refl _) hD.p.rd HS.out.fit); rintro e w4 ⟨ob, rb, rc, ct, rfl, hT, hb4⟩; rw [Hm.out] at hT ⊢; replace hD := hD.below hb4; clear p0 p1 s0 s1; have p0 := hD.p.c0; have p1 := hD.p.c1; have s0 := hD.s.c0; have s1 := hD.s.c1))
    clear p0 p1 s0 s1
    obtain ⟨Bt, hBt⟩ : ∃ x, w4.heap.size = x := ⟨_, rfl⟩
    have hBle : Bt ≤ w4.heap.size := by omega
    rw [hBt] at hT
    clear hBt
    go_loopg [7, 23] m (fun gh s7 s23 wr => ∃ (k : Nat) (d : Int), k ≤ m ∧ gh = m - k ∧ s7 = .int .i64 d ∧ s23 = .int .i64 k ∧ Hid (deadTo (clT p) s.done s.now m k = d) ∧ DB w wr b o p.n A c p.bs b' o' s.now A' c' s.done ∧ TabR wr Bt ob rb rc m (clT p) ∧ Bt ≤ wr.heap.size)
    case atStart => exact ⟨0, 100000, Nat.zero_le _, rfl, rfl, rfl, rfl, hD, hT, hBle⟩
    case round =>
      clear hD hT hBle
      obtain ⟨k, d, hk, rfl, rfl, rfl, Hd, hD, hT, hBle⟩ := hrel
      have hlen := Hl.out
      have hab := habs k hk
      rw [Hd.out] at hab
      obtain ⟨d1, d2⟩ := hab
      by_cases hlt : k < m
      · have hz : (k : Int) < (s.done.length : Int) := by rw [hlen, Hm.out]; omega
        have hop := openB_at (xs := s.done) (k := k) (by omega)
        have hwk := hwabs k hlt
        clear hlen
        have s0 := hD.s.c0
        have s1 := hD.s.c1
        by_cases g0 : s.done.getD k 0 = -1
        · rw [decide_eq_true g0] at hop
          have Hop := hide hop
          have G0 := hide g0
          obtain ⟨lo, hlo⟩ : ∃ x, (winTo (clT p) s.done s.now k m).1 = x := ⟨_, rfl⟩
          obtain ⟨hi, hhi⟩ : ∃ x, (winTo (clT p) s.done s.now k m).2 = x := ⟨_, rfl⟩
          rw [hlo, hhi] at hwk
          have Hlo := hide hlo
          have Hhi := hide hhi
          clear hop g0 hlo hhi
          obtain ⟨_, h1, h2⟩ := hwk
          have Hst : Hid (deadTo (clT p) s.done s.now m (k + 1) = min d hi) := by
            unfold Hid
            show (if s.done.getD k 0 = -1 then min (deadTo (clT p) s.done s.now m k) (winTo (clT p) s.done s.now k m).2 else _) = _
            rw [if_pos G0.out, Hd.out, Hhi.out]
          go_wp2_with (first
            | (go_at_call 156; go_fit (stOpen_c s.now (k : Int) s.done A' b' o' c' _ _ hn' (Nat.le_refl _) hD.s.rd); rintro e w3 ⟨rfl, hb3⟩; rw [Hop.out]; replace hD := hD.below hb3; replace hT := hT.below (hb3.mono hBle); replace hBle := Nat.le_trans hBle hb3.size; clear s0 s1; have s0 := hD.s.c0; have s1 := hD.s.c1)
            | (go_at_call 157; go_fit (window_c m ob (clT p) rb rc ct k s.done s.now A' b' o' c' _ _ (by omega) (by rw [← Hm.out]; exact Hl.out) hlt (Nat.le_refl _) hD.s.rd (hT.more hBle) (by rw [← Hm.out]; exact small_clT HS.out.fit) HS.out.now HS.out.all); rintro e w5 ⟨rfl, hb5⟩; rw [Hlo.out, Hhi.out]; replace hD := hD.below hb5; replace hT := hT.below (hb5.mono hBle); replace hBle := Nat.le_trans hBle hb5.size))
          all_goals
            go_roundg (m - (k + 1))
            case measure => go_light; omega
            case rel => go_light; exact ⟨k + 1, _, by omega, rfl, rfl, by go_num, by unfold Hid; rw [Hst.out]; omega, hD, hT, hBle⟩
        · rw [decide_eq_false g0] at hop
          have Hop := hide hop
          have Hst : Hid (deadTo (clT p) s.done s.now m (k + 1) = d) := by
            unfold Hid
            show (if s.done.getD k 0 = -1 then _ else deadTo (clT p) s.done s.now m k) = _
            rw [if_neg g0, Hd.out]
          clear hop g0
          go_wp2_with (go_at_call 156; go_fit (stOpen_c s.now (k : Int) s.done A' b' o' c' _ _ hn' (Nat.le_refl _) hD.s.rd); rintro e w3 ⟨rfl, hb3⟩; rw [Hop.out]; replace hD := hD.below hb3; replace hT := hT.below (hb3.mono hBle); replace hBle := Nat.le_trans hBle hb3.size)
          go_roundg (m - (k + 1))
          case measure => go_light; omega
          case rel => go_light; exact ⟨k + 1, _, by omega, rfl, rfl, by go_num, Hst, hD, hT, hBle⟩
      · obtain rfl : k = m := by omega
        have hz : ¬ (k : Int) < (s.done.length : Int) := by rw [hlen, Hm.out]; omega
        clear hlen
        go_wp2_with fail
        go_ret
        rw [Hd.out]
        exact ⟨rfl, hD.bel⟩


/-- A state of the call's own in a box of the call's own. -/
structure OS (Bs : Nat) (W : World) (Z g : Nat) (now : Int) (A : Option Addr) (c : Nat) (xs : List Int) : Prop where
  lo : Bs ≤ Z
  rs : RS W Z g 0 now A c xs
  fz : ∀ i, W.frozen? ⟨Z, i, none⟩ = false
  own : OwnI Bs W (.slice A xs.length c) xs
  ne : (Value.slice A xs.length c).ownBlock ≠ some Z
section
variable {Bs : Nat} {W W' : World} {Z g : Nat} {now : Int} {A : Option Addr} {c : Nat} {xs : List Int}
theorem OS.below (h : OS Bs W Z g now A c xs) (hb : Below W.heap.size W W') : OS Bs W' Z g now A c xs :=
  ⟨h.lo, h.rs.below hb, fun i => ((bcell hb).2 _ _ h.rs.ex).trans (h.fz i), own_below h.own hb, h.ne⟩
theorem os_new {t : TypeId} (hB : Bs ≤ W.heap.size) (hr : IntsR W W.heap.size g 0 A xs) (ho : OwnI Bs W (.slice A xs.length c) xs) :
    OS Bs (W.alloc (.cells #[.int .i64 now, .slice A xs.length c] t)) W.heap.size g now A c xs ∧ Below W.heap.size W (W.alloc (.cells #[.int .i64 now, .slice A xs.length c] t)) := by
  have hb : Below W.heap.size W (W.alloc (.cells #[.int .i64 now, .slice A xs.length c] t)) := by go_grown
  have hne : (Value.slice A xs.length c).ownBlock ≠ some W.heap.size := fun e => by have := ho.lt _ e; omega
  exact ⟨⟨hB, rs_new hr, fun i => by simp [go_sem], own_below ho hb, hne⟩, hb⟩
theorem OS.put {k : Nat} {v : Int} (h : OS Bs W Z g now A c xs) (hk : k < xs.length) : A = some ⟨g, 0, none⟩ ∧
    W.frozen? ⟨Z, 0, none⟩ = false ∧
    (W.setCell ⟨Z, 0, none⟩ (.int .i64 v)).cell? ⟨g, k, none⟩ = some (.int .i64 (xs.getD k 0)) ∧ (W.setCell ⟨Z, 0, none⟩ (.int .i64 v)).frozen? ⟨g, k, none⟩ = false ∧
    ((W.setCell ⟨Z, 0, none⟩ (.int .i64 v)).setCell ⟨g, k, none⟩ (.int .i64 v)).cell? ⟨Z, 0, none⟩ = some (.int .i64 v) ∧
    ((W.setCell ⟨Z, 0, none⟩ (.int .i64 v)).setCell ⟨g, k, none⟩ (.int .i64 v)).cell? ⟨Z, 1, none⟩ = some (.slice A xs.length c) ∧
    OwnI Bs ((W.setCell ⟨Z, 0, none⟩ (.int .i64 v)).setCell ⟨g, k, none⟩ (.int .i64 v)) (.slice A (xs.set k v).length c) (xs.set k v) ∧ Bs ≤ g := by
  have hA := h.rs.rd.addr (by omega)
  have hg : Bs ≤ g := by have := h.own; rw [hA] at this; exact (this.lt g rfl).1
  have hgZ : g ≠ Z := by have := h.ne; rw [hA] at this; intro e; exact this (by rw [e]; rfl)
  have o1 : OwnI Bs (W.setCell ⟨Z, 0, none⟩ (.int .i64 v)) (.slice A xs.length c) xs := own_set h.own h.ne _
  rw [hA] at o1
  obtain ⟨o2, c2, f2⟩ := own_setI v o1 hk
  refine ⟨hA, h.fz 0, c2, f2, ?_, ?_, by rw [hA]; exact o2, hg⟩
  · rw [World.cell?_setCell_other _ _ _ _ (by intro e; injection e with e; exact hgZ e)]
    exact World.cell?_setCell_same _ _ _ h.rs.c0
  · rw [World.cell?_setCell_other _ _ _ _ (by intro e; injection e with e; exact hgZ e), World.cell?_setCell_other _ _ _ _ (by simp)]
    exact h.rs.c1
end

set_option maxHeartbeats 4000000 in
set_option maxRecDepth 100000 in
theorem doAt_c (p : Pl) (s : St) (pt t : Int) (q : St) (r : Bool) (hq : doAt p s pt t = (q, r)) (A A' : Option Addr) (b o c b' o' c' B : Nat) (w : World) (hn : p.bs.length ≤ 2000000) (hn' : s.done.length ≤ 2000000) (hB : B ≤ w.heap.size) (hR : BdsR w B b o A p.bs) (hR' : IntsR w B b' o' A' s.done) :
    Calls Try.prog 61 #[.agg #[.int .i64 p.n, .slice A p.bs.length c], .agg #[.int .i64 s.now, .slice A' s.done.length c'], .int .i64 pt, .int .i64 t] w fun e w' =>
      ∃ A1 c1 g1, e = .returned (.tuple #[.agg #[.int .i64 q.now, .slice A1 q.done.length c1], .bool r]) ∧ IntsR w' w'.heap.size g1 0 A1 q.done ∧ OwnI w.heap.size w' (.slice A1 q.done.length c1) q.done ∧ Below w.heap.size w w' := by
  have hD0 := db_new (t := 25) (t' := 70) (n := p.n) (now := s.now) (c := c) (c' := c') hB hR hR'
  have hD := hD0.alloc (.cells #[.int .i64 0, .slice none 0 0] 70)
  have hZ : ZB w (((w.alloc (.cells #[.int .i64 p.n, .slice A p.bs.length c] 25)).alloc (.cells #[.int .i64 s.now, .slice A' s.done.length c'] 70)).alloc (.cells #[.int .i64 0, .slice none 0 0] 70)) (w.heap.size + 1 + 1) := by
    have h := zb_new (w0 := w) (W := (w.alloc (.cells #[.int .i64 p.n, .slice A p.bs.length c] 25)).alloc (.cells #[.int .i64 s.now, .slice A' s.done.length c'] 70)) (t := 70) hD0.bel.size
    simp only [World.size_alloc] at h
    exact h
  clear hR hR' hD0
  cases h1 : stateOk p s
  · have e : doAt p s pt t = (⟨0, []⟩, false) := by unfold doAt; rw [h1]; rfl
    rw [e] at hq
    injection hq with e1 e2
    subst e1 e2
    have H1 := hide h1
    clear h1 e
    go_enter Try.func61, Try.ntmps61
    go_upto_region 1 with fail
    generalize ((w.alloc (.cells #[.int .i64 p.n, .slice A p.bs.length c] 25)).alloc (.cells #[.int .i64 s.now, .slice A' s.done.length c'] 70)).alloc (.cells #[.int .i64 0, .slice none 0 0] 70) = W at hD hZ ⊢
    have p0 := hD.p.c0
    have p1 := hD.p.c1
    have s0 := hD.s.c0
    have s1 := hD.s.c1
    generalize w.heap.size + 1 + 1 = Y at hZ ⊢
    go_wp2_with (go_at_call 64; go_fit (stateOk_c p s A A' b o c b' o' c' _ _ hn hn' (Nat.le_refl _) hD.p.rd hD.s.rd); rintro e w2 ⟨rfl, hb2⟩; rw [H1.out]; replace hD := hD.below hb2; clear p0 p1 s0 s1; have p0 := hD.p.c0; have p1 := hD.p.c1; have s0 := hD.s.c0; have s1 := hD.s.c1; replace hZ := hZ.below hb2; have z0 := hZ.z0; have z1 := hZ.z1; have zf0 := hZ.zf 0; have zf1 := hZ.zf 1)
    obtain ⟨r0, r1, ho, hb7⟩ := hZ.finI (n := 0) (A := none) (c := 0) (xs := []) hD.bel (World.ownsRow_nil _ _ _ _) (by simp [Value.ownBlock])
    simp only [List.length_nil] at r0 r1 ho hb7
    refine bodyPost_ret (v := .tuple #[.agg #[.int .i64 0, .slice none 0 0], .bool false]) (by simp [results, Try.results61, go_sem, r0, r1]) rfl ?_
    exact ⟨none, 0, 0, rfl, IntsR.nil _ _ _, ho, hb7⟩
  · have hs := stateOk_iff.1 h1
    obtain ⟨lo, hlo⟩ : ∃ x, (window p s pt).1 = x := ⟨_, rfl⟩
    obtain ⟨hi, hhi⟩ : ∃ x, (window p s pt).2.1 = x := ⟨_, rfl⟩
    obtain ⟨ok, hok⟩ : ∃ x, (window p s pt).2.2 = x := ⟨_, rfl⟩
    obtain ⟨rd, hrd⟩ : ∃ x, isReady p s pt = x := ⟨_, rfl⟩
    obtain ⟨dl, hdl⟩ : ∃ x, deadline p s = x := ⟨_, rfl⟩
    obtain ⟨iw, hiw⟩ : ∃ x, inB t lo hi = x := ⟨_, rfl⟩
    have hokrd : rd = true → ok = true := by
      intro h
      rw [← hok]
      have h2 : openB s.done pt = true := by rw [h] at hrd; unfold isReady at hrd; rw [Bool.and_eq_true, Bool.and_eq_true] at hrd; exact hrd.1.2
      rw [window_yes h1 h2]
    have hm : mayDo p s pt t = (rd && iw && decide (t ≤ dl) && decide (t ≤ 2000)) := by unfold mayDo; rw [hlo, hhi, hrd, hdl, hiw]
    have hop : rd = true → 0 ≤ pt ∧ pt < s.done.length := by
      intro h
      have h2 : openB s.done pt = true := by rw [h] at hrd; unfold isReady at hrd; rw [Bool.and_eq_true, Bool.and_eq_true] at hrd; exact hrd.1.2
      exact (openB_iff.1 h2).1
    unfold doAt at hq
    rw [h1, if_pos rfl, hm] at hq
    have H1 := hide h1
    have Hlo := hide hlo
    have Hhi := hide hhi
    have Hok := hide hok
    have Hrd := hide hrd
    have Hdl := hide hdl
    have Hiw := hide hiw
    clear h1 hlo hhi hok hrd hdl hiw hm
    have hYs : w.heap.size + 1 + 1 < (((w.alloc (.cells #[.int .i64 p.n, .slice A p.bs.length c] 25)).alloc (.cells #[.int .i64 s.now, .slice A' s.done.length c'] 70)).alloc (.cells #[.int .i64 0, .slice none 0 0] 70)).heap.size := by simp
    go_enter Try.func61, Try.ntmps61
    go_upto_region 1 with fail
    generalize ((w.alloc (.cells #[.int .i64 p.n, .slice A p.bs.length c] 25)).alloc (.cells #[.int .i64 s.now, .slice A' s.done.length c'] 70)).alloc (.cells #[.int .i64 0, .slice none 0 0] 70) = W at hD hZ hYs ⊢
    have p0 := hD.p.c0
    have p1 := hD.p.c1
    have s0 := hD.s.c0
    have s1 := hD.s.c1
    have hYw : w.heap.size + 1 < w.heap.size + 1 + 1 := by omega
    generalize w.heap.size + 1 + 1 = Y at hZ hYs hYw ⊢
    go_upto_region 5 with (first
      | (go_at_call 64; go_fit (stateOk_c p s A A' b o c b' o' c' _ _ hn hn' (Nat.le_refl _) hD.p.rd hD.s.rd); rintro e w2 ⟨rfl, hb2⟩; rw [H1.out]; replace hD := hD.below hb2; clear p0 p1 s0 s1; have p0 := hD.p.c0; have p1 := hD.p.c1; have s0 := hD.s.c0; have s1 := hD.s.c1; replace hZ := hZ.below hb2)
      | (go_at_call 128; go_fit (windowOf_c p s pt A A' b o c b' o' c' _ _ hn hn' (Nat.le_refl _) hD.p.rd hD.s.rd); rintro e w3 ⟨rfl, hb3⟩; rw [Hlo.out, Hhi.out, Hok.out]; replace hD := hD.below hb3; clear p0 p1 s0 s1; have p0 := hD.p.c0; have p1 := hD.p.c1; have s0 := hD.s.c0; have s1 := hD.s.c1; replace hZ := hZ.below hb3)
      | (go_at_call 129; go_fit (stClone_c s.now s.done A' b' o' c' _ _ hn' (Nat.le_refl _) hD.s.rd); rintro e w4 ⟨A1, c1, rfl, hown1, hb4⟩; replace hD := hD.below hb4; clear p0 p1 s0 s1; have p0 := hD.p.c0; have p1 := hD.p.c1; have s0 := hD.s.c0; have s1 := hD.s.c1; replace hZ := hZ.below hb4))
    obtain ⟨g, hr1⟩ := own_IntsR hown1
    have hw3 : Y < w3.heap.size := by have h := hb2.size; have h' := hb3.size; omega
    have hw34 : w3.heap.size ≤ w4.heap.size := hb4.size
    generalize w3.heap.size = Bs at hown1 hw3 hw34
    obtain ⟨hO, hbO⟩ := os_new (t := 70) (now := s.now) hw34 hr1 hown1
    clear p0 p1 s0 s1 hb2 hb3 hb4 hown1 hr1
    replace hD := hD.below hbO
    replace hZ := hZ.below hbO
    have hZ4 : Bs ≤ w4.heap.size := hw34
    generalize w4.alloc (.cells #[.int .i64 s.now, .slice A1 s.done.length c1] 70) = W5 at hD hZ hO ⊢
    clear hbO hw34
    generalize w4.heap.size = Z at hO hZ4 ⊢
    have p0 := hD.p.c0
    have p1 := hD.p.c1
    have s0 := hD.s.c0
    have s1 := hD.s.c1
    have o0 := hO.rs.c0
    have o1 := hO.rs.c1
    have z0 := hZ.z0
    have z1 := hZ.z1
    have zf0 := hZ.zf 0
    have zf1 := hZ.zf 1
    have hBw : w.heap.size ≤ Bs := by omega
    have hneY : (Value.slice A1 s.done.length c1).ownBlock ≠ some Y := fun e => by have := hO.own.lt _ e; omega
    cases hrd : rd
    · subst hrd
      simp only [Bool.false_and, Bool.false_eq_true, if_false] at hq
      injection hq with e1 e2
      subst e1 e2
      cases ok
      · go_wp2_with fail
        obtain ⟨r0, r1, ho, hb9⟩ := hZ.finI (n := s.now) (A := A1) (c := c1) (xs := s.done) hD.bel (own_less hO.own hBw) hneY
        refine bodyPost_ret (v := .tuple #[.agg #[.int .i64 s.now, .slice A1 s.done.length c1], .bool false]) (by simp [results, Try.results61, go_sem, r0, r1]) rfl ?_
        obtain ⟨g9, hr9⟩ := own_IntsR ho
        exact ⟨_, _, g9, rfl, hr9, ho, hb9⟩
      · go_wp2_with (go_at_call 130; go_fit (readyOk_c p s _ A A' b o c b' o' c' _ _ hn hn' (Nat.le_refl _) hD.p.rd hD.s.rd); rintro e w6 ⟨rfl, hb6⟩; rw [Hrd.out]; replace hD := hD.below hb6; clear p0 p1 s0 s1; have p0 := hD.p.c0; have p1 := hD.p.c1; have s0 := hD.s.c0; have s1 := hD.s.c1; replace hZ := hZ.below hb6; replace hO := hO.below hb6; clear o0 o1 z0 z1 zf0 zf1; have o0 := hO.rs.c0; have o1 := hO.rs.c1; have z0 := hZ.z0; have z1 := hZ.z1; have zf0 := hZ.zf 0; have zf1 := hZ.zf 1)
        obtain ⟨r0, r1, ho, hb9⟩ := hZ.finI (n := s.now) (A := A1) (c := c1) (xs := s.done) hD.bel (own_less hO.own hBw) hneY
        refine bodyPost_ret (v := .tuple #[.agg #[.int .i64 s.now, .slice A1 s.done.length c1], .bool false]) (by simp [results, Try.results61, go_sem, r0, r1]) rfl ?_
        obtain ⟨g9, hr9⟩ := own_IntsR ho
        exact ⟨_, _, g9, rfl, hr9, ho, hb9⟩
    · subst hrd
      have hok := hokrd rfl
      subst hok
      cases hiw : iw
      · subst hiw
        simp only [Bool.and_false, Bool.false_and, Bool.false_eq_true, if_false] at hq
        injection hq with e1 e2
        subst e1 e2
        go_wp2_with (first
          | (go_at_call 130; go_fit (readyOk_c p s _ A A' b o c b' o' c' _ _ hn hn' (Nat.le_refl _) hD.p.rd hD.s.rd); rintro e w6 ⟨rfl, hb6⟩; rw [Hrd.out]; replace hD := hD.below hb6; clear p0 p1 s0 s1; have p0 := hD.p.c0; have p1 := hD.p.c1; have s0 := hD.s.c0; have s1 := hD.s.c1; replace hZ := hZ.below hb6; replace hO := hO.below hb6; clear o0 o1 z0 z1 zf0 zf1; have o0 := hO.rs.c0; have o1 := hO.rs.c1; have z0 := hZ.z0; have z1 := hZ.z1; have zf0 := hZ.zf 0; have zf1 := hZ.zf 1)
          | (go_at_call 93; go_fit (in_c t lo hi _); rintro e w0 ⟨rfl, rfl⟩; rw [Hiw.out]))
        obtain ⟨r0, r1, ho, hb9⟩ := hZ.finI (n := s.now) (A := A1) (c := c1) (xs := s.done) hD.bel (own_less hO.own hBw) hneY
        refine bodyPost_ret (v := .tuple #[.agg #[.int .i64 s.now, .slice A1 s.done.length c1], .bool false]) (by simp [results, Try.results61, go_sem, r0, r1]) rfl ?_
        obtain ⟨g9, hr9⟩ := own_IntsR ho
        exact ⟨_, _, g9, rfl, hr9, ho, hb9⟩
      · subst hiw
        by_cases hd : t ≤ dl
        · by_cases h2 : t ≤ 2000
          · obtain ⟨q1, q2⟩ := hop rfl
            obtain ⟨k, rfl⟩ : ∃ k : Nat, pt = (k : Int) := ⟨pt.toNat, by omega⟩
            have hk : k < s.done.length := by omega
            rw [decide_eq_true hd, decide_eq_true h2, Int.toNat_natCast] at hq
            simp only [Bool.and_self, if_true] at hq
            obtain ⟨ys, hys⟩ : ∃ ys, s.done.set k t = ys := ⟨_, rfl⟩
            have Hlen : Hid (ys.length = s.done.length) := by rw [← hys]; exact List.length_set
            have Hys := hide hys
            rw [hys] at hq
            clear hys
            injection hq with e1 e2
            subst e1 e2
            go_upto_region 7 with (first
              | (go_at_call 130; go_fit (readyOk_c p s _ A A' b o c b' o' c' _ _ hn hn' (Nat.le_refl _) hD.p.rd hD.s.rd); rintro e w6 ⟨rfl, hb6⟩; rw [Hrd.out]; replace hD := hD.below hb6; clear p0 p1 s0 s1; have p0 := hD.p.c0; have p1 := hD.p.c1; have s0 := hD.s.c0; have s1 := hD.s.c1; replace hZ := hZ.below hb6; replace hO := hO.below hb6; clear o0 o1 z0 z1 zf0 zf1; have o0 := hO.rs.c0; have o1 := hO.rs.c1; have z0 := hZ.z0; have z1 := hZ.z1; have zf0 := hZ.zf 0; have zf1 := hZ.zf 1)
              | (go_at_call 93; go_fit (in_c t lo hi _); rintro e w0 ⟨rfl, rfl⟩; rw [Hiw.out])
              | (go_at_call 131; go_fit (deadlineOf_c p s A A' b o c b' o' c' _ _ hn hn' (Nat.le_refl _) hD.p.rd hD.s.rd); rintro e w7 ⟨rfl, hb7⟩; rw [Hdl.out]; replace hD := hD.below hb7; clear p0 p1 s0 s1; have p0 := hD.p.c0; have p1 := hD.p.c1; have s0 := hD.s.c0; have s1 := hD.s.c1; replace hZ := hZ.below hb7; replace hO := hO.below hb7; clear o0 o1 z0 z1 zf0 zf1; have o0 := hO.rs.c0; have o1 := hO.rs.c1; have z0 := hZ.z0; have z1 := hZ.z1; have zf0 := hZ.zf 0; have zf1 := hZ.zf 1))
            obtain ⟨hA, f0, c2, f2, e0, e1, ho2, hBg⟩ := hO.put (k := k) (v := t) hk
            subst hA
            clear p0 p1 s0 s1
            have hb9 : Below w.heap.size w ((w7.setCell ⟨Z, 0, none⟩ (.int .i64 t)).setCell ⟨g, k, none⟩ (.int .i64 t)) := (hD.bel.setCell (p := ⟨Z, 0, none⟩) (Nat.le_trans hBw hO.lo) _).setCell (p := ⟨g, k, none⟩) (Nat.le_trans hBw hBg) _
            have hZ9 : ZB w ((w7.setCell ⟨Z, 0, none⟩ (.int .i64 t)).setCell ⟨g, k, none⟩ (.int .i64 t)) Y :=
              (hZ.grown (grown_set w7 ⟨Z, 0, none⟩ _) (fun q hq => by cases hq; have := hO.lo; dsimp only; omega)).grown (grown_set _ ⟨g, k, none⟩ _) (fun q hq => by cases hq; dsimp only; omega)
            clear z0 z1 zf0 zf1
            have y0 := hZ9.z0
            have y1 := hZ9.z1
            have yf0 := hZ9.zf 0
            have yf1 := hZ9.zf 1
            rw [Hys.out, Hlen.out] at ho2
            obtain ⟨r0, r1, ho, hb7⟩ := hZ9.finI (n := t) (A := some ⟨g, 0, none⟩) (c := c1) (xs := ys) hb9 (by rw [Hlen.out]; exact own_less ho2 hBw) (by rw [Hlen.out]; exact hneY)
            rw [Hlen.out] at r0 r1 ho hb7
            have Hho := hide ho
            clear ho ho2
            go_wp2_with fail
            refine bodyPost_ret (v := .tuple #[.agg #[.int .i64 t, .slice (some ⟨g, 0, none⟩) s.done.length c1], .bool true]) (by simp [results, Try.results61, go_sem, r0, r1]) rfl ?_
            have ho := Hho.out
            rw [← Hlen.out] at ho hb7 ⊢
            obtain ⟨g9, hr9⟩ := own_IntsR ho
            first | exact ⟨some ⟨g, 0, none⟩, c1, g9, rfl, hr9, ho, hb7⟩ | exact ⟨some ⟨g, 0, none⟩, c1, rfl, ⟨g9, hr9⟩, ho, hb7⟩
          · rw [decide_eq_false h2] at hq
            simp only [Bool.and_false, Bool.false_eq_true, if_false] at hq
            injection hq with e1 e2
            subst e1 e2
            go_wp2_with (first
              | (go_at_call 130; go_fit (readyOk_c p s _ A A' b o c b' o' c' _ _ hn hn' (Nat.le_refl _) hD.p.rd hD.s.rd); rintro e w6 ⟨rfl, hb6⟩; rw [Hrd.out]; replace hD := hD.below hb6; clear p0 p1 s0 s1; have p0 := hD.p.c0; have p1 := hD.p.c1; have s0 := hD.s.c0; have s1 := hD.s.c1; replace hZ := hZ.below hb6; replace hO := hO.below hb6; clear o0 o1 z0 z1 zf0 zf1; have o0 := hO.rs.c0; have o1 := hO.rs.c1; have z0 := hZ.z0; have z1 := hZ.z1; have zf0 := hZ.zf 0; have zf1 := hZ.zf 1)
              | (go_at_call 93; go_fit (in_c t lo hi _); rintro e w0 ⟨rfl, rfl⟩; rw [Hiw.out])
              | (go_at_call 131; go_fit (deadlineOf_c p s A A' b o c b' o' c' _ _ hn hn' (Nat.le_refl _) hD.p.rd hD.s.rd); rintro e w7 ⟨rfl, hb7⟩; rw [Hdl.out]; replace hD := hD.below hb7; clear p0 p1 s0 s1; have p0 := hD.p.c0; have p1 := hD.p.c1; have s0 := hD.s.c0; have s1 := hD.s.c1; replace hZ := hZ.below hb7; replace hO := hO.below hb7; clear o0 o1 z0 z1 zf0 zf1; have o0 := hO.rs.c0; have o1 := hO.rs.c1; have z0 := hZ.z0; have z1 := hZ.z1; have zf0 := hZ.zf 0; have zf1 := hZ.zf 1))
            obtain ⟨r0, r1, ho, hb9⟩ := hZ.finI (n := s.now) (A := A1) (c := c1) (xs := s.done) hD.bel (own_less hO.own hBw) hneY
            refine bodyPost_ret (v := .tuple #[.agg #[.int .i64 s.now, .slice A1 s.done.length c1], .bool false]) (by simp [results, Try.results61, go_sem, r0, r1]) rfl ?_
            obtain ⟨g9, hr9⟩ := own_IntsR ho
            exact ⟨_, _, g9, rfl, hr9, ho, hb9⟩
        · rw [decide_eq_false hd] at hq
          simp only [Bool.and_false, Bool.false_and, Bool.false_eq_true, if_false] at hq
          injection hq with e1 e2
          subst e1 e2
          go_wp2_with (first
            | (go_at_call 130; go_fit (readyOk_c p s _ A A' b o c b' o' c' _ _ hn hn' (Nat.le_refl _) hD.p.rd hD.s.rd); rintro e w6 ⟨rfl, hb6⟩; rw [Hrd.out]; replace hD := hD.below hb6; clear p0 p1 s0 s1; have p0 := hD.p.c0; have p1 := hD.p.c1; have s0 := hD.s.c0; have s1 := hD.s.c1; replace hZ := hZ.below hb6; replace hO := hO.below hb6; clear o0 o1 z0 z1 zf0 zf1; have o0 := hO.rs.c0; have o1 := hO.rs.c1; have z0 := hZ.z0; have z1 := hZ.z1; have zf0 := hZ.zf 0; have zf1 := hZ.zf 1)
            | (go_at_call 93; go_fit (in_c t lo hi _); rintro e w0 ⟨rfl, rfl⟩; rw [Hiw.out])
            | (go_at_call 131; go_fit (deadlineOf_c p s A A' b o c b' o' c' _ _ hn hn' (Nat.le_refl _) hD.p.rd hD.s.rd); rintro e w7 ⟨rfl, hb7⟩; rw [Hdl.out]; replace hD := hD.below hb7; clear p0 p1 s0 s1; have p0 := hD.p.c0; have p1 := hD.p.c1; have s0 := hD.s.c0; have s1 := hD.s.c1; replace hZ := hZ.below hb7; replace hO := hO.below hb7; clear o0 o1 z0 z1 zf0 zf1; have o0 := hO.rs.c0; have o1 := hO.rs.c1; have z0 := hZ.z0; have z1 := hZ.z1; have zf0 := hZ.zf 0; have zf1 := hZ.zf 1))
          obtain ⟨r0, r1, ho, hb9⟩ := hZ.finI (n := s.now) (A := A1) (c := c1) (xs := s.done) hD.bel (own_less hO.own hBw) hneY
          refine bodyPost_ret (v := .tuple #[.agg #[.int .i64 s.now, .slice A1 s.done.length c1], .bool false]) (by simp [results, Try.results61, go_sem, r0, r1]) rfl ?_
          obtain ⟨g9, hr9⟩ := own_IntsR ho
          exact ⟨_, _, g9, rfl, hr9, ho, hb9⟩
end Go.Proofs.Ytjlaljnffmncpaa
