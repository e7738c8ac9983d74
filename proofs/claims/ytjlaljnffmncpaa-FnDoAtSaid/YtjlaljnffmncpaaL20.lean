/-
  impl: GoesOnOk.
-/
import Derived.Test.YtjlaljnffmncpaaL15
import Derived.Test.YtjlaljnffmncpaaS3b
import Derived.Test.YtjlaljnffmncpaaP10
import Derived.Lib.SliceRun
namespace Go.Proofs.Ytjlaljnffmncpaa
set_option linter.unusedVariables false
set_option linter.unusedSimpArgs false
open Go.RowKit Pp

set_option maxRecDepth 100000 in
theorem cloneB_c (bs : List Bd) (A : Option Addr) (b o c B : Nat) (w : World) (hn : bs.length ≤ 2000000) (hB : B ≤ w.heap.size) (hR : BdsR w B b o A bs) :
    Calls Try.prog 137 #[.slice A bs.length c] w fun e w' => ∃ A1 c1, e = .returned (.slice A1 bs.length c1) ∧ OwnB w.heap.size w' (.slice A1 bs.length c1) bs ∧ Below w.heap.size w w' := by
  obtain ⟨i0, hi0, hz0, hz1, hz2⟩ := info_parts infoB
  cases A with
  | none =>
    have e : bs = [] := by
      rcases Nat.eq_zero_or_pos bs.length with h | h
      · exact List.eq_nil_of_length_eq_zero h
      · have := hR.addr h; cases this
    subst e
    have hnil := fun W => Go.Lib.run_eql_slice_nil (P := Try.prog) W 23 41 none 0 c 0 0 Try.underlying23
    go_enter Try.func137, Try.ntmps137
    go_wp2_with fail
    go_ret
    exact ⟨none, 0, rfl, World.ownsRow_nil _ _ _ _, Below.refl _ _⟩
  | some a =>
    have hnil := fun W => Go.Lib.run_eql_slice_nil (P := Try.prog) W 23 41 (some a) bs.length c 0 0 Try.underlying23
    go_enter Try.func137, Try.ntmps137
    go_wp2_with (at_builtin; refine app_list _ rfl (.tmp 5) (.tmp 6) _ rfl w.heap.size 41 i0 _ 3 24 Try.underlying23 hi0 hz0 hz1 hz2 rfl (by omega) (.slice (some ⟨w.heap.size, 0, none⟩) 0 0) 0 [] rfl (own_empty (at_new rfl) (Nat.le_refl _)) (some a) bs.length c (bdCs bs) rfl (bdCs_length bs) (hR.below ((show Below w.heap.size w (w.alloc (.cells #[] 41)) by go_grown).mono hB)).news (bdCs_one bs) (by omega) (by omega) (by first | omega | (simp only [World.size_alloc, World.size_drew]; done) | (simp only [World.size_alloc, World.size_drew]; omega)) ?_; intro A4 c4 w4 hown4 hg4 hat4)
    simp only [Nat.zero_add, List.nil_append] at hown4 hat4 ⊢
    go_ret
    refine ⟨A4, c4, rfl, hown4, ?_⟩
    exact (show Below w.heap.size w (w.alloc (.cells #[] 41)) by go_grown).grown hg4 (by first | omega | (simp only [World.size_alloc, World.size_drew]; done) | (simp only [World.size_alloc, World.size_drew]; omega)) (fun q hq => by have e := Option.some.inj hq; subst e; dsimp only; omega)

theorem goTo_len (s : St) : ∀ k, (goTo s k).length ≤ 2 * k
  | 0 => by simp [goTo]
  | k + 1 => by
    have := goTo_len s k
    simp only [goTo, List.length_append]
    split
    · simp; omega
    · simp; omega

set_option maxHeartbeats 4000000 in
set_option maxRecDepth 100000 in
theorem goesOn_c (p : Pl) (s : St) (A A' : Option Addr) (b o c b' o' c' B : Nat) (w : World) (hn : p.bs.length ≤ 2000000) (hn' : s.done.length ≤ 2000000) (hB : B ≤ w.heap.size) (hR : BdsR w B b o A p.bs) (hR' : IntsR w B b' o' A' s.done) :
    Calls Try.prog 65 #[.agg #[.int .i64 p.n, .slice A p.bs.length c], .agg #[.int .i64 s.now, .slice A' s.done.length c']] w fun e w' => e = .returned (.bool (goesOn p s)) ∧ Below w.heap.size w w' := by
  obtain ⟨i0, hi0, hz0, hz1, hz2⟩ := info_parts infoB
  have hD := db_new (t := 25) (t' := 70) (n := p.n) (now := s.now) (c := c) (c' := c') hB hR hR'
  have hbl0 : 0 < p.bs.length → b < w.heap.size := fun h => Nat.lt_of_lt_of_le (hR.lt h) hB
  have hbl1 : 0 < s.done.length → b' < w.heap.size := fun h => Nat.lt_of_lt_of_le (hR'.lt h) hB
  clear hR hR'
  obtain ⟨r, hr⟩ : ∃ r, goesOn p s = r := ⟨_, rfl⟩
  rw [hr]
  have Hr := hide hr
  clear hr
  cases h1 : stateOk p s
  · have e : r = false := by rw [← Hr.out]; unfold goesOn; rw [h1]; rfl
    subst e
    have H1 := hide h1
    clear h1
    go_enter Try.func65, Try.ntmps65
    go_upto_region 1 with fail
    generalize (w.alloc (.cells #[.int .i64 p.n, .slice A p.bs.length c] 25)).alloc (.cells #[.int .i64 s.now, .slice A' s.done.length c'] 70) = W at hD ⊢
    have p0 := hD.p.c0
    have p1 := hD.p.c1
    have s0 := hD.s.c0
    have s1 := hD.s.c1
    go_wp2_with (go_at_call 64; go_fit (stateOk_c p s A A' b o c b' o' c' _ _ hn hn' (Nat.le_refl _) hD.p.rd hD.s.rd); rintro e w2 ⟨rfl, hb2⟩; rw [H1.out]; replace hD := hD.below hb2; clear p0 p1 s0 s1; have p0 := hD.p.c0; have p1 := hD.p.c1; have s0 := hD.s.c0; have s1 := hD.s.c1)
    go_ret
    exact ⟨rfl, hD.bel⟩
  · have hs := stateOk_iff.1 h1
    have hok := planOk_of_fits hs.fit
    obtain ⟨hm6, hm1, hmn⟩ := nn_ok hok
    have hl16 := (planOk_iff.1 hok).2.1
    have hr2 : diagOk (nn p) (clF wrap64 (tab0 (goBs p s)) (nn p) (nn p)) = r := by
      rw [← Hr.out]
      unfold goesOn
      rw [h1, Bool.true_and, Bool.eq_iff_iff, diagOk_iff, diagOk_iff]
      exact clF_diag fine_wrap (fun i j _ _ => (tab0_le _ i j).1) (goBs_mild hs).2
    have hWi := goBs_within hs
    obtain ⟨m, hm⟩ : ∃ m, nn p = m := ⟨_, rfl⟩
    have Hl : Hid (s.done.length = m) := by rw [← hm]; exact hs.len
    have Hgo : Hid (goBs p s = p.bs ++ goTo s m) := by unfold Hid goBs; rw [hm]
    obtain ⟨hnow1, hnow2⟩ := hs.now
    have Hall := hide hs.all
    rw [hm] at hm6 hm1 hmn hr2 hWi
    have H1 := hide h1
    have Hr2 := hide hr2
    have HW := hide hWi
    clear h1 hs hok hr2 hm hWi Hr
    obtain ⟨n, bs⟩ := p
    dsimp only at *
    obtain rfl : n = (m : Int) := hmn.symm
    clear hmn
    go_enter Try.func65, Try.ntmps65
    go_upto_region 1 with fail
    generalize (w.alloc (.cells #[.int .i64 (m : Int), .slice A bs.length c] 25)).alloc (.cells #[.int .i64 s.now, .slice A' s.done.length c'] 70) = W at hD ⊢
    have p0 := hD.p.c0
    have p1 := hD.p.c1
    have s0 := hD.s.c0
    have s1 := hD.s.c1
    have hYx := hD.s.ex
    go_wp2_with (first
      | (go_at_call 64; go_fit (stateOk_c ⟨(m : Int), bs⟩ s A A' b o c b' o' c' _ _ hn hn' (Nat.le_refl _) hD.p.rd hD.s.rd); rintro e w2 ⟨rfl, hb2⟩; rw [H1.out]; replace hD := hD.below hb2; clear p0 p1 s0 s1; have p0 := hD.p.c0; have p1 := hD.p.c1; have s0 := hD.s.c0; have s1 := hD.s.c1)
      | (go_at_call 137; go_fit (cloneB_c bs A b o c _ _ hn (Nat.le_refl _) hD.p.rd); rintro e w3 ⟨A1, c1, rfl, hown, hb3⟩; have hb3' := hb3; have hXw2 : w.heap.size + 1 < w2.heap.size := hD.s.ex; have hW2 := hD.bel.size; replace hD := hD.below hb3; clear p0 p1 s0 s1; have p0 := hD.p.c0; have p1 := hD.p.c1; have s0 := hD.s.c0; have s1 := hD.s.c1))
    clear p0 p1 s0 s1 hb2 hYx hb3
    have s0 := hD.s.c0
    have s1 := hD.s.c1
    go_wp2_with fail
    clear s0 s1
    go_loopg [5, 18] m (fun gh s5 s18 wr => ∃ (k : Nat) (L : List Bd) (A1 : Option Addr) (c1 : Nat), k ≤ m ∧ gh = m - k ∧ s18 = .int .i64 k ∧ s5 = .slice A1 L.length c1 ∧ Hid (bs ++ goTo s k = L) ∧ L.length ≤ 16 + 2 * k ∧ OwnB w2.heap.size wr (.slice A1 L.length c1) L ∧ Below w2.heap.size w2 wr ∧ DB w wr b o (m : Int) A c bs b' o' s.now A' c' s.done)
    case atStart => exact ⟨0, bs, A1, c1, Nat.zero_le _, rfl, rfl, rfl, by unfold Hid; simp [goTo], by omega, hown, hb3', hD⟩
    case round =>
      clear hown hb3' hD
      obtain ⟨k, L, A1, c1, hk, rfl, rfl, rfl, HL, hLl, hown, hWr, hD⟩ := hrel
      have hlen := Hl.out
      have s0 := hD.s.c0
      have s1 := hD.s.c1
      have p0 := hD.p.c0
      by_cases hlt : k < m
      · have hz : (k : Int) < (s.done.length : Int) := by omega
        have hA := hD.s.rd.addr (by omega)
        subst hA
        have d0 := hD.s.rd.cell k (by omega)
        have hv1 : -1 ≤ s.done.getD k 0 ∧ s.done.getD k 0 ≤ s.now := by
          have hkl : k < s.done.length := by omega
          have e : s.done.getD k 0 = s.done[k] := by rw [List.getD_eq_getElem?_getD, List.getElem?_eq_getElem hkl]; rfl
          rw [e]; exact Hall.out _ (List.getElem_mem hkl)
        obtain ⟨v, hv⟩ : ∃ v, s.done.getD k 0 = v := ⟨_, rfl⟩
        have Hv := hide hv
        rw [hv] at d0 hv1
        obtain ⟨hv1, hv2⟩ := hv1
        have hwr := hWr.size
        have hXl := hD.s.ex
        have hXp := hD.p.ex
        have hq := fun q (hq : (Value.slice A1 L.length c1).ownBlock = some q) => (hown.lt q hq).1
        have hbl : 0 < bs.length → b < w2.heap.size := fun h => Nat.lt_of_lt_of_le (hbl0 h) hW2
        have hbl' : 0 < s.done.length → b' < w2.heap.size := fun h => Nat.lt_of_lt_of_le (hbl1 h) hW2
        clear hv hlen
        by_cases g0 : v = -1
        · have g0' : (v == -1) = true := by simp [g0]
          have Hst : Hid (bs ++ goTo s (k + 1) = L ++ [⟨(k : Int), 0, -s.now⟩]) := by
            unfold Hid
            simp only [goTo]
            rw [if_pos (by rw [Hv.out]; exact g0), ← List.append_assoc, HL.out]
          clear g0
          go_wp2_with (at_builtin; refine app_list _ rfl (.tmp 25) (.tmp 31) _ rfl w2.heap.size 41 i0 _ 3 24 Try.underlying23 hi0 hz0 hz1 hz2 rfl (by omega) (.slice A1 L.length c1) L.length (bdCs L) rfl (hown.alloc _) _ 1 _ [.int .i64 (k : Int), .int .i64 0, .int .i64 (-s.now)] rfl rfl (NewsAt.block (cs := #[.int .i64 (k : Int), .int .i64 0, .int .i64 (-s.now)]) (at_new rfl)) (by simp [Value.oneCell']) (by omega) (by omega) (by first | omega | (simp only [World.size_alloc, World.size_drew]; done) | (simp only [World.size_alloc, World.size_drew]; omega)) ?_; intro A4 c4 w4 hown4 hg4 hat4)
          have hW4 : Below w2.heap.size w2 w4 := below_app (bthen hWr (show Below wr.heap.size wr (wr.alloc (.cells #[.int .i64 (k : Int), .int .i64 0, .int .i64 (-s.now)] 41)) by go_grown)) (hown.alloc (.cells #[.int .i64 (k : Int), .int .i64 0, .int .i64 (-s.now)] 41)) hg4 (Nat.le_refl _) (by first | omega | (simp only [World.size_alloc, World.size_drew]; done) | (simp only [World.size_alloc, World.size_drew]; omega))
          have hDa := hD.alloc (.cells #[.int .i64 (k : Int), .int .i64 0, .int .i64 (-s.now)] 41)
          have hD4 : DB w w4 b o (m : Int) A c bs b' o' s.now (some ⟨b', o', none⟩) c' s.done :=
            ⟨hDa.bel.grown hg4 hDa.bel.size (fun q e => by have := hq q e; omega), hDa.p.grown hg4 (fun e => by have := hq _ e.symm; omega) (fun h e => by have := hq _ e.symm; have := hbl h; omega),
             hDa.s.grown hg4 (fun e => by have := hq _ e.symm; omega) (fun h e => by have := hq _ e.symm; have := hbl' h; omega)⟩
          go_roundg (m - (k + 1))
          case measure => go_light; omega
          case rel =>
            go_light
            have hl2 : (L ++ [(⟨(k : Int), 0, -s.now⟩ : Bd)]).length = L.length + 1 := by simp
            exact ⟨k + 1, L ++ [⟨(k : Int), 0, -s.now⟩], A4, c4, by omega, rfl, by go_num, by rw [hl2], Hst, by rw [hl2]; omega, by unfold OwnB; rw [hl2, bdCs_append]; exact hown4, hW4, hD4⟩
        · have g0' : (v == -1) = false := by simp [g0]
          have Hst : Hid (bs ++ goTo s (k + 1) = L ++ [⟨0, (k : Int), v⟩, ⟨(k : Int), 0, -v⟩]) := by
            unfold Hid
            simp only [goTo]
            rw [if_neg (by rw [Hv.out]; exact g0), ← List.append_assoc, HL.out, Hv.out]
          clear g0
          go_wp2_with (at_builtin; refine app_list _ rfl (.tmp 33) (.tmp 41) _ rfl w2.heap.size 41 i0 _ 3 24 Try.underlying23 hi0 hz0 hz1 hz2 rfl (by omega) (.slice A1 L.length c1) L.length (bdCs L) rfl (hown.alloc _) _ 2 _ [.int .i64 0, .int .i64 (k : Int), .int .i64 v, .int .i64 (k : Int), .int .i64 0, .int .i64 (-v)] rfl rfl (NewsAt.block (cs := #[.int .i64 0, .int .i64 (k : Int), .int .i64 v, .int .i64 (k : Int), .int .i64 0, .int .i64 (-v)]) (at_new rfl)) (by simp [Value.oneCell']) (by omega) (by omega) (by first | omega | (simp only [World.size_alloc, World.size_drew]; done) | (simp only [World.size_alloc, World.size_drew]; omega)) ?_; intro A4 c4 w4 hown4 hg4 hat4)
          have hW4 : Below w2.heap.size w2 w4 := below_app (bthen hWr (show Below wr.heap.size wr (wr.alloc (.cells #[.int .i64 0, .int .i64 (k : Int), .int .i64 v, .int .i64 (k : Int), .int .i64 0, .int .i64 (-v)] 41)) by go_grown)) (hown.alloc (.cells #[.int .i64 0, .int .i64 (k : Int), .int .i64 v, .int .i64 (k : Int), .int .i64 0, .int .i64 (-v)] 41)) hg4 (Nat.le_refl _) (by first | omega | (simp only [World.size_alloc, World.size_drew]; done) | (simp only [World.size_alloc, World.size_drew]; omega))
          have hDa := hD.alloc (.cells #[.int .i64 0, .int .i64 (k : Int), .int .i64 v, .int .i64 (k : Int), .int .i64 0, .int .i64 (-v)] 41)
          have hD4 : DB w w4 b o (m : Int) A c bs b' o' s.now (some ⟨b', o', none⟩) c' s.done :=
            ⟨hDa.bel.grown hg4 hDa.bel.size (fun q e => by have := hq q e; omega), hDa.p.grown hg4 (fun e => by have := hq _ e.symm; omega) (fun h e => by have := hq _ e.symm; have := hbl h; omega),
             hDa.s.grown hg4 (fun e => by have := hq _ e.symm; omega) (fun h e => by have := hq _ e.symm; have := hbl' h; omega)⟩
          go_roundg (m - (k + 1))
          case measure => go_light; omega
          case rel =>
            go_light
            have hl2 : (L ++ [(⟨0, (k : Int), v⟩ : Bd), ⟨(k : Int), 0, -v⟩]).length = L.length + 2 := by simp
            exact ⟨k + 1, L ++ [⟨0, (k : Int), v⟩, ⟨(k : Int), 0, -v⟩], A4, c4, by omega, rfl, by go_num, by rw [hl2], Hst, by rw [hl2]; omega, by unfold OwnB; rw [hl2, bdCs_append]; exact hown4, hW4, hD4⟩
      · obtain rfl : k = m := by omega
        have hz : ¬ (k : Int) < (s.done.length : Int) := by omega
        clear hlen
        have hWi : Within k 2000 L := by have h := HW.out; rw [Hgo.out, HL.out] at h; exact h
        have hrr : Hid (diagOk k (clF wrap64 (tab0 L) k k) = r) := by have h := Hr2.out; rw [Hgo.out, HL.out] at h; exact h
        obtain ⟨g, hrd⟩ := OwnB.readsA hown
        go_wp2_with (first
          | (go_at_call 87; go_fit (start_c k L 2000 A1 g 0 c1 _ _ (by omega) (by omega) (Nat.le_refl _) hrd hWi); rintro e w5 ⟨rfl, hT, hb5⟩)
          | (go_at_call 138; go_fit (close_c _ _ k wr.heap.size _ _ (by omega) hT (fun i _ => by unfold rbs; omega)); rintro e w6 ⟨rfl, _, hb6⟩; rw [hrr.out]))
        go_ret
        exact ⟨rfl, bthen (hD.bel) (hb5.trans (below_of hb6))⟩
end Go.Proofs.Ytjlaljnffmncpaa
