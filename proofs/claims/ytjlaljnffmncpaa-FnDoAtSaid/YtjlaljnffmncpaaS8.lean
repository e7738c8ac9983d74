/-
  spec: states: StateOk, windows.
  spec: WindowOf, ReadyOk, DeadlineOf.
-/
import Derived.Test.YtjlaljnffmncpaaS3
import Derived.Test.YtjlaljnffmncpaaL15
namespace Go.Proofs.Ytjlaljnffmncpaa
set_option linter.unusedVariables false
set_option linter.unusedSimpArgs false
open Go.RowKit Pp


set_option maxHeartbeats 2000000 in
set_option maxRecDepth 100000 in
theorem sWindow_c (n ob : Nat) (T : Tb) (rb rc : Nat → Nat) (ct pt : Nat) (xs : List Int) (now : Int) (A : Option Addr) (b o c B : Nat) (w : World) (hn : n ≤ 1000) (hl : xs.length = n) (hpt : pt < n) (hB : B ≤ w.heap.size)
    (hR : IntsR w B b o A xs) (hT : TabR w B ob rb rc n T) (hS : Small n T) (hnow : 0 ≤ now ∧ now ≤ 2000) (hx : ∀ x ∈ xs, -1 ≤ x ∧ x ≤ now) :
    Calls Try.prog 155 #[.slice (some ⟨ob, 0, none⟩) n ct, .agg #[.int .i64 now, .slice A xs.length c], .int .i64 pt] w fun e w' =>
      e = .returned (.tuple #[.int .i64 (winTo T xs now pt n).1, .int .i64 (winTo T xs now pt n).2]) ∧ Below w.heap.size w w' := by
  have hW : Below w.heap.size w (w.alloc (.cells #[.int .i64 now, .slice A xs.length c] 70)) := by go_grown
  have hR2 := rs_new (t := 70) (n := now) (c := c) (hR.more hB)
  have hT2 := (hT.below (hW.mono hB)).more hB
  have habs := winTo_abs hS hl hnow hx hpt
  have Hl := hide hl
  have hl2 : xs.length ≤ 1000 := by omega
  obtain rfl := hR.addr (by omega)
  clear hT hR hl
  obtain ⟨hnow1, hnow2⟩ := hnow
  go_enter Try.func155, Try.ntmps155
  go_wp2_with fail
  generalize w.alloc (.cells #[.int .i64 now, .slice (some ⟨b, o, none⟩) xs.length c] 70) = W at *
  go_loopg [8, 9, 10] n (fun gh s8 s9 s17 wr => ∃ (k : Nat) (lo hi : Int), k ≤ n ∧ gh = n - k ∧ s8 = .int .i64 lo ∧ s9 = .int .i64 hi ∧ s17 = .int .i64 k ∧ Hid (winTo T xs now pt k = (lo, hi)) ∧ Below w.heap.size w wr ∧ RS wr w.heap.size b o now (some ⟨b, o, none⟩) c xs ∧ TabR wr w.heap.size ob rb rc n T)
  case atStart => exact ⟨0, now, 100000, Nat.zero_le _, rfl, rfl, rfl, rfl, rfl, hW, hR2, hT2⟩
  case round =>
    clear hW hR2 hT2
    obtain ⟨k, lo, hi, hk, rfl, rfl, rfl, rfl, Hw, hW, hR2, hT2⟩ := hrel
    have hab := habs k hk
    rw [Hw.out] at hab
    dsimp only at hab
    obtain ⟨⟨lo1, lo2⟩, hi1, hi2⟩ := hab
    have hlen := Hl.out
    have c1 := hR2.c1
    by_cases hlt : k < n
    · have hz : (k : Int) < (xs.length : Int) := by omega
      have hpz : (pt : Int) < (n : Int) := by omega
      have hkz : (k : Int) < (n : Int) := by omega
      have hk2 : k < xs.length := by omega
      have d0 := hR2.rd.cell k hk2
      have hx0 : -1 ≤ xs.getD k 0 ∧ xs.getD k 0 ≤ now := by
        have e : xs.getD k 0 = xs[k] := by rw [List.getD_eq_getElem?_getD, List.getElem?_eq_getElem hk2]; rfl
        rw [e]; exact hx _ (List.getElem_mem hk2)
      obtain ⟨v, hv⟩ : ∃ v, xs.getD k 0 = v := ⟨_, rfl⟩
      have Hv := hide hv
      rw [hv] at d0 hx0
      obtain ⟨hx1, hx2⟩ := hx0
      have a1 := hT2.top pt hpt
      have a2 := hT2.top k hlt
      have a3 := hT2.row pt k hpt hlt
      have a4 := hT2.row k pt hlt hpt
      have s1 := hS pt k hpt hlt
      have s2 := hS k pt hlt hpt
      obtain ⟨tp, htp⟩ : ∃ v, T pt k = v := ⟨_, rfl⟩
      obtain ⟨tk, htk⟩ : ∃ v, T k pt = v := ⟨_, rfl⟩
      rw [htp] at a3 s1
      rw [htk] at a4 s2
      have Htp := hide htp
      have Htk := hide htk
      unfold Far at s1 s2
      have HK := hide (And.intro hW (And.intro hR2 hT2))
      clear hv htp htk hx hS hT2 hR2 habs hk2 hW hlen Hl
      have fin : ∀ lo' hi' : Int, winAt T pt (lo, hi) k v = (lo', hi') → Hid (winTo T xs now pt (k + 1) = (lo', hi')) := fun lo' hi' h => by unfold Hid; rw [winTo_step Hw.out Hv.out]; exact h
      have HF := hide fin
      clear fin
      have HB : ∀ w', Below wr.heap.size wr w' → Below w.heap.size w w' ∧ RS w' w.heap.size b o now (some ⟨b, o, none⟩) c xs ∧ TabR w' w.heap.size ob rb rc n T := fun w' hb =>
        ⟨bthen HK.out.1 hb, HK.out.2.1.below hb, HK.out.2.2.below (hb.mono HK.out.1.size)⟩
      by_cases g0 : v = -1
      · have g0' : (v == -1) = true := by simp [g0]
        have Hg : Hid (winAt T pt (lo, hi) k v = (lo, hi)) := by unfold Hid winAt; rw [if_pos g0]
        clear g0
        go_wp2_with fail
        go_roundg (n - (k + 1))
        case measure => go_light; omega
        case rel => go_light; exact ⟨k + 1, lo, hi, by omega, rfl, rfl, rfl, by go_num, HF.out _ _ Hg.out, HK.out⟩
      · have Hg : Hid (∀ lo' hi', lo' = (if tp < 100000 then max lo (v - tp) else lo) → hi' = (if tk < 100000 then min hi (v + tk) else hi) → winAt T pt (lo, hi) k v = (lo', hi')) := by
          intro lo' hi' h1 h2
          unfold winAt Far
          rw [if_neg g0, Htp.out, Htk.out, h1, h2]
        have g0' : (v == -1) = false := by simp [g0]
        by_cases g1 : tp < 100000
        · go_upto_region 8 with fail
          go_region
          by_cases g2 : tk < 100000
          · go_upto_region 10 with fail
            all_goals
              go_region
              go_wp2_with fail
              all_goals
                go_roundg (n - (k + 1))
                case measure => go_light; omega
                case rel =>
                  go_light
                  refine ⟨k + 1, _, _, by omega, rfl, rfl, rfl, by go_num, HF.out _ _ (Hg.out _ _ ?_ ?_), HB _ (by go_grown)⟩
                  · (repeat' split) <;> omega
                  · (repeat' split) <;> omega
          · skip
            go_wp2_with fail
            all_goals
              go_roundg (n - (k + 1))
              case measure => go_light; omega
              case rel =>
                go_light
                refine ⟨k + 1, _, _, by omega, rfl, rfl, rfl, by go_num, HF.out _ _ (Hg.out _ _ ?_ ?_), HB _ (by go_grown)⟩
                · (repeat' split) <;> omega
                · (repeat' split) <;> omega
        · by_cases g2 : tk < 100000
          · go_upto_region 10 with fail
            all_goals
              go_region
              go_wp2_with fail
              all_goals
                go_roundg (n - (k + 1))
                case measure => go_light; omega
                case rel =>
                  go_light
                  refine ⟨k + 1, _, _, by omega, rfl, rfl, rfl, by go_num, HF.out _ _ (Hg.out _ _ ?_ ?_), HB _ (by go_grown)⟩
                  · (repeat' split) <;> omega
                  · (repeat' split) <;> omega
          · skip
            go_wp2_with fail
            all_goals
              go_roundg (n - (k + 1))
              case measure => go_light; omega
              case rel =>
                go_light
                refine ⟨k + 1, _, _, by omega, rfl, rfl, rfl, by go_num, HF.out _ _ (Hg.out _ _ ?_ ?_), HB _ (by go_grown)⟩
                · (repeat' split) <;> omega
                · (repeat' split) <;> omega
    · obtain rfl : k = n := by omega
      have hz : ¬ (k : Int) < (xs.length : Int) := by omega
      clear hlen
      go_wp2_with fail
      go_ret2
      rw [Hw.out]
      exact ⟨rfl, hW⟩

set_option maxHeartbeats 2000000 in
set_option maxRecDepth 100000 in
theorem sStateOk_c (p : Pl) (s : St) (A A' : Option Addr) (b o c b' o' c' B : Nat) (w : World) (hn : p.bs.length ≤ 2000000) (hn' : s.done.length ≤ 2000000) (hB : B ≤ w.heap.size) (hR : BdsR w B b o A p.bs) (hR' : IntsR w B b' o' A' s.done) :
    Calls Try.prog 132 #[.agg #[.int .i64 p.n, .slice A p.bs.length c], .agg #[.int .i64 s.now, .slice A' s.done.length c']] w fun e w' => e = .returned (.bool (stateOk p s)) ∧ Below w.heap.size w w' := by
  have hD := db_new (t := 25) (t' := 70) (n := p.n) (now := s.now) (c := c) (c' := c') hB hR hR'
  clear hR hR'
  obtain ⟨r, hr⟩ : ∃ r, stateOk p s = r := ⟨_, rfl⟩
  rw [hr]
  have Hr := hide hr
  clear hr
  cases hf : fits p
  · have e : r = false := by rw [← Hr.out]; unfold stateOk; rw [hf]; rfl
    subst e
    have Hf := hide hf
    clear hf
    go_enter Try.func132, Try.ntmps132
    go_upto_region 1 with fail
    generalize (w.alloc (.cells #[.int .i64 p.n, .slice A p.bs.length c] 25)).alloc (.cells #[.int .i64 s.now, .slice A' s.done.length c'] 70) = W at hD ⊢
    have p0 := hD.p.c0
    have p1 := hD.p.c1
    have s0 := hD.s.c0
    have s1 := hD.s.c1
    go_wp2_with (go_at_call 84; go_fit (sFitsOk_c p A b o c _ _ hn (Nat.le_refl _) hD.p.rd); rintro e w2 ⟨rfl, hb2⟩; rw [Hf.out]; replace hD := hD.below hb2; clear p0 p1 s0 s1; have p0 := hD.p.c0; have p1 := hD.p.c1; have s0 := hD.s.c0; have s1 := hD.s.c1)
    go_ret
    exact ⟨rfl, hD.bel⟩
  · have hp := planOk_of_fits hf
    obtain ⟨hn6, hn1, hnn⟩ := nn_ok hp
    by_cases hl : (s.done.length : Int) = p.n
    · have hl' : s.done.length = nn p := by omega
      have h0n : 0 < s.done.length := by omega
      cases hc : inB s.now 0 2000
      · have e : r = false := by rw [← Hr.out]; unfold stateOk; rw [hf, hc]; simp
        subst e
        have Hf := hide hf
        have Hc := hide hc
        clear hf hc hp hl'
        go_enter Try.func132, Try.ntmps132
        go_upto_region 1 with fail
        generalize (w.alloc (.cells #[.int .i64 p.n, .slice A p.bs.length c] 25)).alloc (.cells #[.int .i64 s.now, .slice A' s.done.length c'] 70) = W at hD ⊢
        have p0 := hD.p.c0
        have p1 := hD.p.c1
        have s0 := hD.s.c0
        have s1 := hD.s.c1
        go_wp2_with (first
          | (go_at_call 84; go_fit (sFitsOk_c p A b o c _ _ hn (Nat.le_refl _) hD.p.rd); rintro e w2 ⟨rfl, hb2⟩; rw [Hf.out]; replace hD := hD.below hb2; clear p0 p1 s0 s1; have p0 := hD.p.c0; have p1 := hD.p.c1; have s0 := hD.s.c0; have s1 := hD.s.c1)
          | (go_at_call 112; go_fit (l1In_c s.now 0 2000 _); rintro e w3 ⟨rfl, rfl⟩; rw [Hc.out]))
        go_ret
        exact ⟨rfl, hD.bel⟩
      · have d0 := hD.s.rd.cell 0 h0n
        have hA := hD.s.rd.addr h0n
        have h0z : (0 : Int) < (s.done.length : Int) := by omega
        subst hA
        by_cases h0 : s.done.getD 0 0 = 0
        · have hr2 : (s.done.all fun x => inB x (-1) s.now) = r := by
            rw [← Hr.out]; unfold stateOk; rw [hf, hc, decide_eq_true hl', decide_eq_true h0]; rfl
          have Hr2 := hide hr2
          have Hf := hide hf
          have Hc := hide hc
          have H0 := hide h0
          clear hf hc hp hl' hr2 d0 h0
          go_enter Try.func132, Try.ntmps132
          go_upto_region 1 with fail
          generalize (w.alloc (.cells #[.int .i64 p.n, .slice A p.bs.length c] 25)).alloc (.cells #[.int .i64 s.now, .slice (some ⟨b', o', none⟩) s.done.length c'] 70) = W at hD ⊢
          have p0 := hD.p.c0
          have p1 := hD.p.c1
          have s0 := hD.s.c0
          have s1 := hD.s.c1
          go_wp2_with (first
            | (go_at_call 84; go_fit (sFitsOk_c p A b o c _ _ hn (Nat.le_refl _) hD.p.rd); rintro e w2 ⟨rfl, hb2⟩; rw [Hf.out]; replace hD := hD.below hb2; clear p0 p1 s0 s1; have p0 := hD.p.c0; have p1 := hD.p.c1; have s0 := hD.s.c0; have s1 := hD.s.c1; have d0 := hD.s.rd.cell 0 h0n; rw [H0.out, Nat.add_zero] at d0)
            | (go_at_call 112; go_fit (l1In_c s.now 0 2000 _); rintro e w3 ⟨rfl, rfl⟩; rw [Hc.out]))
          clear p0 p1 s0 s1 d0
          go_loopg [5] s.done.length (fun gh s5 wr => ∃ k : Nat, k ≤ s.done.length ∧ gh = s.done.length - k ∧ s5 = .int .i64 k ∧ DB w wr b o p.n A c p.bs b' o' s.now (some ⟨b', o', none⟩) c' s.done ∧ Hid (∀ j, j < k → inB (s.done.getD j 0) (-1) s.now = true))
          case atStart => exact ⟨0, Nat.zero_le _, rfl, rfl, hD, fun j hj => absurd hj (Nat.not_lt_zero _)⟩
          case round =>
            clear hD
            obtain ⟨k, hk, rfl, rfl, hD, HA⟩ := hrel
            have s0 := hD.s.c0
            have s1 := hD.s.c1
            by_cases hlt : k < s.done.length
            · have hz : (k : Int) < (s.done.length : Int) := by omega
              have d0 := hD.s.rd.cell k hlt
              have hlb : b' < wr.heap.size := hD.s.rd.lt h0n
              have hYl := hD.s.ex
              obtain ⟨v, hv⟩ : ∃ v, s.done.getD k 0 = v := ⟨_, rfl⟩
              rw [hv] at d0
              have Hv := hide hv
              clear hv
              cases hiv : inB v (-1) s.now
              · have e : r = false := by
                  rw [← Hr2.out, List.all_eq_false]
                  refine ⟨v, ?_, by rw [hiv]; simp⟩
                  rw [← Hv.out, List.getD_eq_getElem?_getD, List.getElem?_eq_getElem hlt]
                  exact List.getElem_mem hlt
                subst e
                have Hiv := hide hiv
                clear hiv
                go_upto_region 6 with fail
                go_region_held3 (fun w' => w'.cell? ⟨w.heap.size + 1, 0, none⟩ = some (.int .i64 s.now) ∧ w'.cell? ⟨w.heap.size + 1, 1, none⟩ = some (.slice (some ⟨b', o', none⟩) s.done.length c') ∧ w'.cell? ⟨b', o' + k, none⟩ = some (.int .i64 v))
                  (first
                    | (go_split_ands; (repeat' apply And.intro) <;> assumption)
                    | (go_keep; done))
                  ((go_at_call 112; go_fit (l1In_c v (-1) s.now _); rintro e w3 ⟨rfl, rfl⟩; rw [Hiv.out]))
                go_wp2_with fail
                go_ret
                exact ⟨rfl, hD.drew.bel⟩
              · have Hiv := hide hiv
                clear hiv
                go_upto_region 6 with fail
                go_region_held3 (fun w' => w'.cell? ⟨w.heap.size + 1, 0, none⟩ = some (.int .i64 s.now) ∧ w'.cell? ⟨w.heap.size + 1, 1, none⟩ = some (.slice (some ⟨b', o', none⟩) s.done.length c') ∧ w'.cell? ⟨b', o' + k, none⟩ = some (.int .i64 v))
                  (first
                    | (go_split_ands; (repeat' apply And.intro) <;> assumption)
                    | (go_keep; done))
                  ((go_at_call 112; go_fit (l1In_c v (-1) s.now _); rintro e w3 ⟨rfl, rfl⟩; rw [Hiv.out]))
                go_wp2_with fail
                go_roundg (s.done.length - (k + 1))
                case measure => go_light; omega
                case rel =>
                  go_light
                  refine ⟨k + 1, by omega, rfl, by go_num, hD.drew, fun j hj => ?_⟩
                  by_cases e : j = k
                  · subst e; rw [Hv.out]; exact Hiv.out
                  · exact HA.out j (by omega)
            · obtain rfl : k = s.done.length := by omega
              have e : r = true := by
                rw [← Hr2.out, List.all_eq_true]
                intro x hx
                obtain ⟨j, hj, rfl⟩ := List.getElem_of_mem hx
                have := HA.out j hj
                rwa [List.getD_eq_getElem?_getD, List.getElem?_eq_getElem hj] at this
              subst e
              go_wp2_with fail
              go_ret
              exact ⟨rfl, hD.bel⟩
        · have e : r = false := by rw [← Hr.out]; unfold stateOk; rw [decide_eq_false h0]; simp
          subst e
          have h0' : (s.done.getD 0 0 == 0) = false := by rw [Bool.eq_false_iff]; intro h; exact h0 (by simpa using h)
          have Hf := hide hf
          have Hc := hide hc
          clear hf hc hp hl' d0
          obtain ⟨v, hv⟩ : ∃ v, s.done.getD 0 0 = v := ⟨_, rfl⟩
          rw [hv] at h0 h0'
          have Hv := hide hv
          clear hv
          go_enter Try.func132, Try.ntmps132
          go_upto_region 1 with fail
          generalize (w.alloc (.cells #[.int .i64 p.n, .slice A p.bs.length c] 25)).alloc (.cells #[.int .i64 s.now, .slice (some ⟨b', o', none⟩) s.done.length c'] 70) = W at hD ⊢
          have p0 := hD.p.c0
          have p1 := hD.p.c1
          have s0 := hD.s.c0
          have s1 := hD.s.c1
          go_wp2_with (first
            | (go_at_call 84; go_fit (sFitsOk_c p A b o c _ _ hn (Nat.le_refl _) hD.p.rd); rintro e w2 ⟨rfl, hb2⟩; rw [Hf.out]; replace hD := hD.below hb2; clear p0 p1 s0 s1; have p0 := hD.p.c0; have p1 := hD.p.c1; have s0 := hD.s.c0; have s1 := hD.s.c1; have d0 := hD.s.rd.cell 0 h0n; rw [Hv.out, Nat.add_zero] at d0)
            | (go_at_call 112; go_fit (l1In_c s.now 0 2000 _); rintro e w3 ⟨rfl, rfl⟩; rw [Hc.out]))
          go_ret
          exact ⟨rfl, hD.bel⟩
    · have e : r = false := by rw [← Hr.out]; unfold stateOk; rw [decide_eq_false (p := s.done.length = nn p) (by omega)]; simp
      subst e
      have Hf := hide hf
      clear hf hp
      go_enter Try.func132, Try.ntmps132
      go_upto_region 1 with fail
      generalize (w.alloc (.cells #[.int .i64 p.n, .slice A p.bs.length c] 25)).alloc (.cells #[.int .i64 s.now, .slice A' s.done.length c'] 70) = W at hD ⊢
      have p0 := hD.p.c0
      have p1 := hD.p.c1
      have s0 := hD.s.c0
      have s1 := hD.s.c1
      go_wp2_with (go_at_call 84; go_fit (sFitsOk_c p A b o c _ _ hn (Nat.le_refl _) hD.p.rd); rintro e w2 ⟨rfl, hb2⟩; rw [Hf.out]; replace hD := hD.below hb2; clear p0 p1 s0 s1; have p0 := hD.p.c0; have p1 := hD.p.c1; have s0 := hD.s.c0; have s1 := hD.s.c1)
      go_ret
      exact ⟨rfl, hD.bel⟩

theorem openB_len {p : Pl} {s : St} (hs : SOk p s) (pt : Int) : openB s.done pt = (inB pt 0 (p.n - 1) && decide (s.done.getD pt.toNat 0 = -1)) := by
  have h := (nn_ok (planOk_of_fits hs.fit)).2.2
  unfold openB
  rw [hs.len, h]

set_option maxHeartbeats 2000000 in
set_option maxRecDepth 100000 in
theorem sWindowOf_c (p : Pl) (s : St) (pt : Int) (A A' : Option Addr) (b o c b' o' c' B : Nat) (w : World) (hn : p.bs.length ≤ 2000000) (hn' : s.done.length ≤ 2000000) (hB : B ≤ w.heap.size) (hR : BdsR w B b o A p.bs) (hR' : IntsR w B b' o' A' s.done) :
    Calls Try.prog 127 #[.agg #[.int .i64 p.n, .slice A p.bs.length c], .agg #[.int .i64 s.now, .slice A' s.done.length c'], .int .i64 pt] w fun e w' =>
      e = .returned (.tuple #[.int .i64 (window p s pt).1, .int .i64 (window p s pt).2.1, .bool (window p s pt).2.2]) ∧ Below w.heap.size w w' := by
  have hD := db_new (t := 25) (t' := 70) (n := p.n) (now := s.now) (c := c) (c' := c') hB hR hR'
  clear hR hR'
  cases h1 : stateOk p s
  · rw [window_no (by rw [h1]; rfl)]
    have H1 := hide h1
    clear h1
    go_enter Try.func127, Try.ntmps127
    go_upto_region 1 with fail
    generalize (w.alloc (.cells #[.int .i64 p.n, .slice A p.bs.length c] 25)).alloc (.cells #[.int .i64 s.now, .slice A' s.done.length c'] 70) = W at hD ⊢
    have p0 := hD.p.c0
    have p1 := hD.p.c1
    have s0 := hD.s.c0
    have s1 := hD.s.c1
    go_wp2_with (go_at_call 132; go_fit (sStateOk_c p s A A' b o c b' o' c' _ _ hn hn' (Nat.le_refl _) hD.p.rd hD.s.rd); rintro e w2 ⟨rfl, hb2⟩; rw [H1.out]; replace hD := hD.below hb2; clear p0 p1 s0 s1; have p0 := hD.p.c0; have p1 := hD.p.c1; have s0 := hD.s.c0; have s1 := hD.s.c1)
    go_ret3
    exact ⟨rfl, hD.bel⟩
  · have hs := stateOk_iff.1 h1
    obtain ⟨hn6, hn1, hnn⟩ := nn_ok (planOk_of_fits hs.fit)
    cases h2 : inB pt 0 (p.n - 1)
    · rw [window_no (by rw [h1, openB_len hs, h2]; rfl)]
      have H1 := hide h1
      have H2 := hide h2
      clear h1 h2 hs
      go_enter Try.func127, Try.ntmps127
      go_upto_region 1 with fail
      generalize (w.alloc (.cells #[.int .i64 p.n, .slice A p.bs.length c] 25)).alloc (.cells #[.int .i64 s.now, .slice A' s.done.length c'] 70) = W at hD ⊢
      have p0 := hD.p.c0
      have p1 := hD.p.c1
      have s0 := hD.s.c0
      have s1 := hD.s.c1
      go_wp2_with (first
        | (go_at_call 132; go_fit (sStateOk_c p s A A' b o c b' o' c' _ _ hn hn' (Nat.le_refl _) hD.p.rd hD.s.rd); rintro e w2 ⟨rfl, hb2⟩; rw [H1.out]; replace hD := hD.below hb2; clear p0 p1 s0 s1; have p0 := hD.p.c0; have p1 := hD.p.c1; have s0 := hD.s.c0; have s1 := hD.s.c1)
        | (go_at_call 112; go_fit (l1In_c pt 0 (p.n - 1) _); rintro e w3 ⟨rfl, rfl⟩; rw [H2.out]))
      go_ret3
      exact ⟨rfl, hD.bel⟩
    · obtain ⟨o1, o2⟩ := inB_iff.1 h2
      obtain ⟨k, rfl⟩ : ∃ k : Nat, pt = (k : Int) := ⟨pt.toNat, by omega⟩
      have hk : k < nn p := by omega
      have hkl : k < s.done.length := by rw [hs.len]; exact hk
      have hkz : (k : Int) < (s.done.length : Int) := by omega
      have hA := hD.s.rd.addr (by omega)
      subst hA
      obtain ⟨v, hv⟩ : ∃ v, s.done.getD k 0 = v := ⟨_, rfl⟩
      have Hv := hide hv
      by_cases hvo : v = -1
      · have h3 : openB s.done (k : Int) = true := by rw [openB_len hs, h2, Int.toNat_natCast, hv, decide_eq_true hvo]; rfl
        rw [window_yes h1 h3]
        rw [Int.toNat_natCast]
        obtain ⟨lo, hlo⟩ : ∃ x, (winTo (clT p) s.done s.now k (nn p)).1 = x := ⟨_, rfl⟩
        obtain ⟨hi, hhi⟩ : ∃ x, (winTo (clT p) s.done s.now k (nn p)).2 = x := ⟨_, rfl⟩
        rw [hlo, hhi]
        have Hlo := hide hlo
        have Hhi := hide hhi
        have H1 := hide h1
        have H2 := hide h2
        have HS := hide hs
        clear h1 h2 hs hlo hhi h3 hv
        have hvb : (v == -1) = true := by simp [hvo]
        go_enter Try.func127, Try.ntmps127
        go_upto_region 1 with fail
        generalize (w.alloc (.cells #[.int .i64 p.n, .slice A p.bs.length c] 25)).alloc (.cells #[.int .i64 s.now, .slice (some ⟨b', o', none⟩) s.done.length c'] 70) = W at hD ⊢
        have p0 := hD.p.c0
        have p1 := hD.p.c1
        have s0 := hD.s.c0
        have s1 := hD.s.c1
        go_upto_region 3 with (first
          | (go_at_call 132; go_fit (sStateOk_c p s A _ b o c b' o' c' _ _ hn hn' (Nat.le_refl _) hD.p.rd hD.s.rd); rintro e w2 ⟨rfl, hb2⟩; rw [H1.out]; replace hD := hD.below hb2; clear p0 p1 s0 s1; have p0 := hD.p.c0; have p1 := hD.p.c1; have s0 := hD.s.c0; have s1 := hD.s.c1; have d0 := hD.s.rd.cell k hkl; rw [Hv.out] at d0)
          | (go_at_call 112; go_fit (l1In_c (k : Int) 0 (p.n - 1) _); rintro e w3 ⟨rfl, rfl⟩; rw [H2.out]))
        clear d0 hb2
        go_region_held3 (fun w' => w'.cell? ⟨w.heap.size, 0, none⟩ = some (.int .i64 p.n) ∧ w'.cell? ⟨w.heap.size, 1, none⟩ = some (.slice A p.bs.length c) ∧ w'.cell? ⟨w.heap.size + 1, 0, none⟩ = some (.int .i64 s.now) ∧ w'.cell? ⟨w.heap.size + 1, 1, none⟩ = some (.slice (some ⟨b', o', none⟩) s.done.length c'))
          (first
            | (go_split_ands; (repeat' apply And.intro) <;> assumption)
            | (go_keep; done))
          (first
            | (go_at_call 85; go_fit (sClosed_c p A b o c _ _ (planOk_of_fits HS.out.fit) (Nat.le_refl _) hD.drew.p.rd); rintro e w4 ⟨ob, ct, rb, rc, rfl, hT, hb4⟩; replace hD := hD.drew; replace hD := hD.below hb4; clear p0 p1 s0 s1; have p0 := hD.p.c0; have p1 := hD.p.c1; have s0 := hD.s.c0; have s1 := hD.s.c1)
            | (go_at_call 155; go_fit (sWindow_c (nn p) ob (clT p) rb rc ct k s.done s.now _ b' o' c' _ _ (by omega) HS.out.len hk (Nat.le_refl _) hD.s.rd hT (small_clT HS.out.fit) HS.out.now HS.out.all); rintro e w5 ⟨rfl, hb5⟩; rw [Hlo.out, Hhi.out]; replace hD := hD.below hb5; clear p0 p1 s0 s1; have p0 := hD.p.c0; have p1 := hD.p.c1; have s0 := hD.s.c0; have s1 := hD.s.c1))
        go_wp2_with fail
        go_ret3
        exact ⟨rfl, hD.bel⟩
      · have h3 : openB s.done (k : Int) = false := by rw [openB_len hs, h2, Int.toNat_natCast, hv, decide_eq_false hvo]; rfl
        rw [window_no (by rw [h1, h3]; rfl)]
        have H1 := hide h1
        have H2 := hide h2
        clear h1 h2 hs h3 hv
        have hvb : (v == -1) = false := by simp [hvo]
        go_enter Try.func127, Try.ntmps127
        go_upto_region 1 with fail
        generalize (w.alloc (.cells #[.int .i64 p.n, .slice A p.bs.length c] 25)).alloc (.cells #[.int .i64 s.now, .slice (some ⟨b', o', none⟩) s.done.length c'] 70) = W at hD ⊢
        have p0 := hD.p.c0
        have p1 := hD.p.c1
        have s0 := hD.s.c0
        have s1 := hD.s.c1
        go_wp2_with (first
          | (go_at_call 132; go_fit (sStateOk_c p s A _ b o c b' o' c' _ _ hn hn' (Nat.le_refl _) hD.p.rd hD.s.rd); rintro e w2 ⟨rfl, hb2⟩; rw [H1.out]; replace hD := hD.below hb2; clear p0 p1 s0 s1; have p0 := hD.p.c0; have p1 := hD.p.c1; have s0 := hD.s.c0; have s1 := hD.s.c1; have d0 := hD.s.rd.cell k hkl; rw [Hv.out] at d0)
          | (go_at_call 112; go_fit (l1In_c (k : Int) 0 (p.n - 1) _); rintro e w3 ⟨rfl, rfl⟩; rw [H2.out]))
        go_ret3
        exact ⟨rfl, hD.bel⟩

set_option maxHeartbeats 2000000 in
set_option maxRecDepth 100000 in
theorem sReadyOk_c (p : Pl) (s : St) (pt : Int) (A A' : Option Addr) (b o c b' o' c' B : Nat) (w : World) (hn : p.bs.length ≤ 2000000) (hn' : s.done.length ≤ 2000000) (hB : B ≤ w.heap.size) (hR : BdsR w B b o A p.bs) (hR' : IntsR w B b' o' A' s.done) :
    Calls Try.prog 133 #[.agg #[.int .i64 p.n, .slice A p.bs.length c], .agg #[.int .i64 s.now, .slice A' s.done.length c'], .int .i64 pt] w fun e w' =>
      e = .returned (.bool (isReady p s pt)) ∧ Below w.heap.size w w' := by
  have hD := db_new (t := 25) (t' := 70) (n := p.n) (now := s.now) (c := c) (c' := c') hB hR hR'
  clear hR hR'
  obtain ⟨r, hr⟩ : ∃ r, isReady p s pt = r := ⟨_, rfl⟩
  rw [hr]
  have Hr := hide hr
  clear hr
  cases h12 : stateOk p s && openB s.done pt
  · have e : r = false := by rw [← Hr.out]; unfold isReady; rw [h12]; rfl
    subst e
    have hw := window_no h12
    have H1 : Hid ((window p s pt).1 = 0) := by rw [hw]; rfl
    have H2 : Hid ((window p s pt).2.1 = 0) := by rw [hw]; rfl
    have H3 : Hid ((window p s pt).2.2 = false) := by rw [hw]; rfl
    clear h12 hw
    go_enter Try.func133, Try.ntmps133
    go_upto_region 1 with fail
    generalize (w.alloc (.cells #[.int .i64 p.n, .slice A p.bs.length c] 25)).alloc (.cells #[.int .i64 s.now, .slice A' s.done.length c'] 70) = W at hD ⊢
    have p0 := hD.p.c0
    have p1 := hD.p.c1
    have s0 := hD.s.c0
    have s1 := hD.s.c1
    go_wp2_with (go_at_call 127; go_fit (sWindowOf_c p s pt A A' b o c b' o' c' _ _ hn hn' (Nat.le_refl _) hD.p.rd hD.s.rd); rintro e w2 ⟨rfl, hb2⟩; rw [H1.out, H2.out, H3.out]; replace hD := hD.below hb2; clear p0 p1 s0 s1; have p0 := hD.p.c0; have p1 := hD.p.c1; have s0 := hD.s.c0; have s1 := hD.s.c1)
    go_ret
    exact ⟨rfl, hD.bel⟩
  · rw [Bool.and_eq_true] at h12
    obtain ⟨h1, h2⟩ := h12
    have hs := stateOk_iff.1 h1
    obtain ⟨hn6, hn1, hnn⟩ := nn_ok (planOk_of_fits hs.fit)
    obtain ⟨⟨o1, o2⟩, _⟩ := openB_iff.1 h2
    obtain ⟨pk, rfl⟩ : ∃ k : Nat, pt = (k : Int) := ⟨pt.toNat, by omega⟩
    have hpk : pk < nn p := by rw [← hs.len]; omega
    have hr3 : rdyTo (clT p) s.done pk (nn p) = r := by rw [← Hr.out]; unfold isReady; rw [h1, h2, Int.toNat_natCast]; rfl
    have hw := window_yes h1 h2
    obtain ⟨x1, hx1⟩ : ∃ x, (window p s (pk : Int)).1 = x := ⟨_, rfl⟩
    obtain ⟨x2, hx2⟩ : ∃ x, (window p s (pk : Int)).2.1 = x := ⟨_, rfl⟩
    have H1 := hide hx1
    have H2 := hide hx2
    have H3 : Hid ((window p s (pk : Int)).2.2 = true) := by rw [hw]; rfl
    have HS := hide hs
    have Hr3 := hide hr3
    have hA := hD.s.rd.addr (by omega)
    subst hA
    obtain ⟨m, hm⟩ : ∃ m, nn p = m := ⟨_, rfl⟩
    have Hm := hide hm
    have Hl : Hid (s.done.length = m) := by rw [← hm]; exact hs.len
    rw [hm] at hn6 hpk Hr3 hn1
    clear h1 h2 hw hx1 hx2 hs hr3 hnn hm Hr
    go_enter Try.func133, Try.ntmps133
    go_upto_region 1 with fail
    generalize (w.alloc (.cells #[.int .i64 p.n, .slice A p.bs.length c] 25)).alloc (.cells #[.int .i64 s.now, .slice (some ⟨b', o', none⟩) s.done.length c'] 70) = W at hD ⊢
    have p0 := hD.p.c0
    have p1 := hD.p.c1
    have s0 := hD.s.c0
    have s1 := hD.s.c1
    go_wp2_with (first
      | (go_at_call 127; go_fit (sWindowOf_c p s (pk : Int) A _ b o c b' o' c' _ _ hn hn' (Nat.le_refl _) hD.p.rd hD.s.rd); rintro e w2 ⟨rfl, hb2⟩; rw [H1.out, H2.out, H3.out]; replace hD := hD.below hb2; clear p0 p1 s0 s1; have p0 := hD.p.c0; have p1 := hD.p.c1; have s0 := hD.s.c0; have s1 := hD.s.c1)
      | (go_at_call 85; go_fit (sClosed_c p A b o c _ _ (planOk_of_fits HS.out.fit) (Nat.le_refl _) hD.p.rd); rintro e w4 ⟨ob, ct, rb, rc, rfl, hT, hb4⟩; rw [Hm.out] at hT ⊢; replace hD := hD.below hb4; clear p0 p1 s0 s1; have p0 := hD.p.c0; have p1 := hD.p.c1; have s0 := hD.s.c0; have s1 := hD.s.c1))
    clear p0 p1 s0 s1
    go_loopg [11] m (fun gh s11 wr => ∃ k : Nat, k ≤ m ∧ gh = m - k ∧ s11 = .int .i64 k ∧ Hid (rdyTo (clT p) s.done pk k = true) ∧ wr = w4)
    case atStart => exact ⟨0, Nat.zero_le _, rfl, rfl, rfl, rfl⟩
    case round =>
      obtain ⟨k, hk, rfl, rfl, Hk, rfl⟩ := hrel
      have s0 := hD.s.c0
      have s1 := hD.s.c1
      have hlen := Hl.out
      by_cases hlt : k < m
      · have hz : (k : Int) < (s.done.length : Int) := by omega
        have hpz : (pk : Int) < (m : Int) := by omega
        have hkz : (k : Int) < (m : Int) := by omega
        have d0 := hD.s.rd.cell k (by omega)
        have a1 := hT.top pk hpk
        have a3 := hT.row pk k hpk hlt
        obtain ⟨tp, htp⟩ : ∃ v, clT p pk k = v := ⟨_, rfl⟩
        rw [htp] at a3
        have Htp := hide htp
        obtain ⟨v, hv⟩ : ∃ v, s.done.getD k 0 = v := ⟨_, rfl⟩
        rw [hv] at d0
        have Hv := hide hv
        clear hv htp hlen
        by_cases g0 : v = -1
        · have g0' : (v == -1) = true := by simp [g0]
          by_cases g1 : tp < 0
          · have e : r = false := by rw [← Hr3.out]; exact rdyTo_no hlt (by rw [Hv.out]; exact g0) (by rw [Htp.out]; exact g1)
            subst e
            clear g0
            go_wp2_with fail
            go_ret
            exact ⟨rfl, hD.bel⟩
          · have Hst : Hid (rdyTo (clT p) s.done pk (k + 1) = true) := by unfold Hid rdyTo; rw [Hk.out, Htp.out, decide_eq_false (p := tp < 0) (by omega)]; simp
            clear g0
            go_wp2_with fail
            go_roundg (m - (k + 1))
            case measure => go_light; omega
            case rel => go_light; exact ⟨k + 1, by omega, rfl, by go_num, Hst, rfl⟩
        · have g0' : (v == -1) = false := by simp [g0]
          have Hst : Hid (rdyTo (clT p) s.done pk (k + 1) = true) := by unfold Hid rdyTo; rw [Hk.out, Hv.out, decide_eq_false g0]; simp
          clear g0
          go_wp2_with fail
          go_roundg (m - (k + 1))
          case measure => go_light; omega
          case rel => go_light; exact ⟨k + 1, by omega, rfl, by go_num, Hst, rfl⟩
      · obtain rfl : k = m := by omega
        have hz : ¬ (k : Int) < (s.done.length : Int) := by omega
        have e : r = true := by rw [← Hr3.out]; exact Hk.out
        subst e
        clear hlen
        go_wp2_with fail
        go_ret
        exact ⟨rfl, hD.bel⟩

set_option maxHeartbeats 2000000 in
set_option maxRecDepth 100000 in
theorem sDeadlineOf_c (p : Pl) (s : St) (A A' : Option Addr) (b o c b' o' c' B : Nat) (w : World) (hn : p.bs.length ≤ 2000000) (hn' : s.done.length ≤ 2000000) (hB : B ≤ w.heap.size) (hR : BdsR w B b o A p.bs) (hR' : IntsR w B b' o' A' s.done) :
    Calls Try.prog 134 #[.agg #[.int .i64 p.n, .slice A p.bs.length c], .agg #[.int .i64 s.now, .slice A' s.done.length c']] w fun e w' =>
      e = .returned (.int .i64 (deadline p s)) ∧ Below w.heap.size w w' := by
  have hD := db_new (t := 25) (t' := 70) (n := p.n) (now := s.now) (c := c) (c' := c') hB hR hR'
  clear hR hR'
  cases h1 : stateOk p s
  · have e : deadline p s = -1 := by unfold deadline; rw [h1]; rfl
    rw [e]
    have H1 := hide h1
    clear h1 e
    go_enter Try.func134, Try.ntmps134
    go_upto_region 1 with fail
    generalize (w.alloc (.cells #[.int .i64 p.n, .slice A p.bs.length c] 25)).alloc (.cells #[.int .i64 s.now, .slice A' s.done.length c'] 70) = W at hD ⊢
    have p0 := hD.p.c0
    have p1 := hD.p.c1
    have s0 := hD.s.c0
    have s1 := hD.s.c1
    go_wp2_with (go_at_call 132; go_fit (sStateOk_c p s A A' b o c b' o' c' _ _ hn hn' (Nat.le_refl _) hD.p.rd hD.s.rd); rintro e w2 ⟨rfl, hb2⟩; rw [H1.out]; replace hD := hD.below hb2; clear p0 p1 s0 s1; have p0 := hD.p.c0; have p1 := hD.p.c1; have s0 := hD.s.c0; have s1 := hD.s.c1)
    go_ret
    exact ⟨rfl, hD.bel⟩
  · have e : deadline p s = deadTo (clT p) s.done s.now (nn p) (nn p) := by unfold deadline; rw [h1]; rfl
    rw [e]
    have hs := stateOk_iff.1 h1
    obtain ⟨hn6, hn1, _⟩ := nn_ok (planOk_of_fits hs.fit)
    obtain ⟨m, hm⟩ : ∃ m, nn p = m := ⟨_, rfl⟩
    have Hm := hide hm
    have habs := deadTo_abs (small_clT hs.fit) hs.len hs.now hs.all
    have hwabs := fun pt hpt => winTo_abs (small_clT hs.fit) hs.len hs.now hs.all (pt := pt) hpt (nn p) (Nat.le_refl _)
    have H1 := hide h1
    have HS := hide hs
    have Hl : Hid (s.done.length = m) := by rw [← hm]; exact hs.len
    have hA := hD.s.rd.addr (by have := hs.len; omega)
    subst hA
    rw [hm] at hn6 habs hwabs ⊢
    clear h1 hs e hm hn1
    go_enter Try.func134, Try.ntmps134
    go_upto_region 1 with fail
    generalize (w.alloc (.cells #[.int .i64 p.n, .slice A p.bs.length c] 25)).alloc (.cells #[.int .i64 s.now, .slice (some ⟨b', o', none⟩) s.done.length c'] 70) = W at hD ⊢
    have p0 := hD.p.c0
    have p1 := hD.p.c1
    have s0 := hD.s.c0
    have s1 := hD.s.c1
    go_wp2_with (first
      | (go_at_call 132; go_fit (sStateOk_c p s A _ b o c b' o' c' _ _ hn hn' (Nat.le_refl _) hD.p.rd hD.s.rd); rintro e w2 ⟨rfl, hb2⟩; rw [H1.out]; replace hD := hD.below hb2; clear p0 p1 s0 s1; have p0 := hD.p.c0; have p1 := hD.p.c1; have s0 := hD.s.c0; have s1 := hD.s.c1)
      | (go_at_call 85; go_fit (sClosed_c p A b o c _ _ (planOk_of_fits HS.out.fit) (Nat.le_refl _) hD.p.rd); rintro e w4 ⟨ob, ct, rb, rc, rfl, hT, hb4⟩; rw [Hm.out] at hT ⊢; replace hD := hD.below hb4; clear p0 p1 s0 s1; have p0 := hD.p.c0; have p1 := hD.p.c1; have s0 := hD.s.c0; have s1 := hD.s.c1))
    clear p0 p1 s0 s1
    obtain ⟨Bt, hBt⟩ : ∃ x, w4.heap.size = x := ⟨_, rfl⟩
    have hBle : Bt ≤ w4.heap.size := by omega
    rw [hBt] at hT
    clear hBt
    go_loopg [5, 7] m (fun gh s7 s23 wr => ∃ (k : Nat) (d : Int), k ≤ m ∧ gh = m - k ∧ s7 = .int .i64 d ∧ s23 = .int .i64 k ∧ Hid (deadTo (clT p) s.done s.now m k = d) ∧ DB w wr b o p.n A c p.bs b' o' s.now (some ⟨b', o', none⟩) c' s.done ∧ TabR wr Bt ob rb rc m (clT p) ∧ Bt ≤ wr.heap.size)
    case atStart => exact ⟨0, 100000, Nat.zero_le _, rfl, rfl, rfl, rfl, hD, hT, hBle⟩
    case round =>
      clear hD hT hBle
      obtain ⟨k, d, hk, rfl, rfl, rfl, Hd, hD, hT, hBle⟩ := hrel
      have hlen := Hl.out
      have hab := habs k hk
      rw [Hd.out] at hab
      obtain ⟨d1, d2⟩ := hab
      have s0 := hD.s.c0
      have s1 := hD.s.c1
      by_cases hlt : k < m
      · have hz : (k : Int) < (s.done.length : Int) := by omega
        have d0 := hD.s.rd.cell k (by omega)
        have hwk := hwabs k hlt
        obtain ⟨v, hv⟩ : ∃ v, s.done.getD k 0 = v := ⟨_, rfl⟩
        rw [hv] at d0
        have Hv := hide hv
        clear hv hlen
        by_cases g0 : v = -1
        · have g0' : (v == -1) = true := by simp [g0]
          obtain ⟨lo, hlo⟩ : ∃ x, (winTo (clT p) s.done s.now k m).1 = x := ⟨_, rfl⟩
          obtain ⟨hi, hhi⟩ : ∃ x, (winTo (clT p) s.done s.now k m).2 = x := ⟨_, rfl⟩
          rw [hlo, hhi] at hwk
          have Hlo := hide hlo
          have Hhi := hide hhi
          obtain ⟨_, h1, h2⟩ := hwk
          have Hst : Hid (deadTo (clT p) s.done s.now m (k + 1) = min d hi) := by
            unfold Hid
            show (if s.done.getD k 0 = -1 then min (deadTo (clT p) s.done s.now m k) (winTo (clT p) s.done s.now k m).2 else _) = _
            rw [if_pos (by rw [Hv.out]; exact g0), Hd.out, Hhi.out]
          clear g0 hlo hhi
          go_wp2_with (go_at_call 155; go_fit (sWindow_c m ob (clT p) rb rc ct k s.done s.now _ b' o' c' _ _ (by omega) Hl.out hlt (Nat.le_refl _) hD.s.rd (hT.more hBle) (by rw [← Hm.out]; exact small_clT HS.out.fit) HS.out.now HS.out.all); rintro e w5 ⟨rfl, hb5⟩; rw [Hlo.out, Hhi.out]; replace hD := hD.below hb5; replace hT := hT.below (hb5.mono hBle); replace hBle := Nat.le_trans hBle hb5.size)
          all_goals
            go_roundg (m - (k + 1))
            case measure => go_light; omega
            case rel => go_light; exact ⟨k + 1, _, by omega, rfl, rfl, by go_num, by unfold Hid; rw [Hst.out]; omega, hD, hT, hBle⟩
        · have g0' : (v == -1) = false := by simp [g0]
          have Hst : Hid (deadTo (clT p) s.done s.now m (k + 1) = d) := by
            unfold Hid
            show (if s.done.getD k 0 = -1 then _ else deadTo (clT p) s.done s.now m k) = _
            rw [if_neg (by rw [Hv.out]; exact g0), Hd.out]
          clear g0
          go_wp2_with fail
          go_roundg (m - (k + 1))
          case measure => go_light; omega
          case rel => go_light; exact ⟨k + 1, _, by omega, rfl, rfl, by go_num, Hst, hD, hT, hBle⟩
      · obtain rfl : k = m := by omega
        have hz : ¬ (k : Int) < (s.done.length : Int) := by omega
        clear hlen
        go_wp2_with fail
        go_ret
        rw [Hd.out]
        exact ⟨rfl, hD.bel⟩
end Go.Proofs.Ytjlaljnffmncpaa
