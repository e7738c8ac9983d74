/-
  spec: states: StateOk, windows.
-/
import Derived.Test.YtjlaljnffmncpaaS3
import Derived.Test.YtjlaljnffmncpaaL15
namespace Go.Proofs.Ytjlaljnffmncpaa
set_option linter.unusedVariables false
set_option linter.unusedSimpArgs false
open Go.RowKit Pp

set_option maxHeartbeats 2000000 in
set_option maxRecDepth 100000 in
theorem sWindow_c (n ob : Nat) (T : Tb) (rb rc : Nat → Nat) (ct pt : Nat) (xs : List Int) (now : Int) (A : Option Addr) (b o c B : Nat) (w : World) (hn : n ≤ 1000) (hl : xs.length = n) (hpt : pt < n) (hB : B ≤ w.heap.size)
    (hR : IntsR w B b o A xs) (hT : TabR w B ob rb rc n T) (hS : Small n T) (hnow : 0 ≤ now ∧ now ≤ 2000) (hx : ∀ x ∈ xs, -1 ≤ x ∧ x ≤ now) :
    Calls Try.prog 155 #[.slice (some ⟨ob, 0, none⟩) n ct, .agg #[.int .i64 now, .slice A xs.length c], .int .i64 pt] w fun e w' =>
      e = .returned (.tuple #[.int .i64 (winTo T xs now pt n).1, .int .i64 (winTo T xs now pt n).2]) ∧ Below w.heap.size w w' := by
  have hW : Below w.heap.size w (w.alloc (.cells #[.int .i64 now, .slice A xs.length c] 70)) := by go_grown
  have hR2 := rs_new (t := 70) (n := now) (c := c) (hR.more hB)
  have hT2 := (hT.below (hW.mono hB)).more hB
  have habs := winTo_abs hS hl hnow hx hpt
  have Hl := hide hl
  have hl2 : xs.length ≤ 1000 := by omega
  obtain rfl := hR.addr (by omega)
  clear hT hR hl
  obtain ⟨hnow1, hnow2⟩ := hnow
  go_enter Try.func155, Try.ntmps155
  go_wp2_with fail
  generalize w.alloc (.cells #[.int .i64 now, .slice (some ⟨b, o, none⟩) xs.length c] 70) = W at *
  go_loopg [8, 9, 10] n (fun gh s8 s9 s17 wr => ∃ (k : Nat) (lo hi : Int), k ≤ n ∧ gh = n - k ∧ s8 = .int .i64 lo ∧ s9 = .int .i64 hi ∧ s17 = .int .i64 k ∧ Hid (winTo T xs now pt k = (lo, hi)) ∧ Below w.heap.size w wr ∧ RS wr w.heap.size b o now (some ⟨b, o, none⟩) c xs ∧ TabR wr w.heap.size ob rb rc n T)
  case atStart => exact ⟨0, now, 100000, Nat.zero_le _, rfl, rfl, rfl, rfl, rfl, hW, hR2, hT2⟩
  case round =>
    clear hW hR2 hT2
    obtain ⟨k, lo, hi, hk, rfl, rfl, rfl, rfl, Hw, hW, hR2, hT2⟩ := hrel
    have hab := habs k hk
    rw [Hw.out] at hab
    dsimp only at hab
    obtain ⟨⟨lo1, lo2⟩, hi1, hi2⟩ := hab
    have hlen := Hl.out
    have c1 := hR2.c1
    by_cases hlt : k < n
    · have hz : (k : Int) < (xs.length : Int) := by omega
      have hpz : (pt : Int) < (n : Int) := by omega
      have hkz : (k : Int) < (n : Int) := by omega
      have hk2 : k < xs.length := by omega
      have d0 := hR2.rd.cell k hk2
      have hx0 : -1 ≤ xs.getD k 0 ∧ xs.getD k 0 ≤ now := by
        have e : xs.getD k 0 = xs[k] := by rw [List.getD_eq_getElem?_getD, List.getElem?_eq_getElem hk2]; rfl
        rw [e]; exact hx _ (List.getElem_mem hk2)
      obtain ⟨v, hv⟩ : ∃ v, xs.getD k 0 = v := ⟨_, rfl⟩
      have Hv := hide hv
      rw [hv] at d0 hx0
      obtain ⟨hx1, hx2⟩ := hx0
      have a1 := hT2.top pt hpt
      have a2 := hT2.top k hlt
      have a3 := hT2.row pt k hpt hlt
      have a4 := hT2.row k pt hlt hpt
      have s1 := hS pt k hpt hlt
      have s2 := hS k pt hlt hpt
      obtain ⟨tp, htp⟩ : ∃ v, T pt k = v := ⟨_, rfl⟩
      obtain ⟨tk, htk⟩ : ∃ v, T k pt = v := ⟨_, rfl⟩
      rw [htp] at a3 s1
      rw [htk] at a4 s2
      have Htp := hide htp
      have Htk := hide htk
      unfold Far at s1 s2
      have HK := hide (And.intro hW (And.intro hR2 hT2))
      clear hv htp htk hx hS hT2 hR2 habs hk2 hW hlen Hl
      have fin : ∀ lo' hi' : Int, winAt T pt (lo, hi) k v = (lo', hi') → Hid (winTo T xs now pt (k + 1) = (lo', hi')) := fun lo' hi' h => by unfold Hid; rw [winTo_step Hw.out Hv.out]; exact h
      have HF := hide fin
      clear fin
      have HB : ∀ w', Below wr.heap.size wr w' → Below w.heap.size w w' ∧ RS w' w.heap.size b o now (some ⟨b, o, none⟩) c xs ∧ TabR w' w.heap.size ob rb rc n T := fun w' hb =>
        ⟨bthen HK.out.1 hb, HK.out.2.1.below hb, HK.out.2.2.below (hb.mono HK.out.1.size)⟩
      by_cases g0 : v = -1
      · have g0' : (v == -1) = true := by simp [g0]
        have Hg : Hid (winAt T pt (lo, hi) k v = (lo, hi)) := by unfold Hid winAt; rw [if_pos g0]
        clear g0
        go_wp2_with fail
        go_roundg (n - (k + 1))
        case measure => go_light; omega
        case rel => go_light; exact ⟨k + 1, lo, hi, by omega, rfl, rfl, rfl, by go_num, HF.out _ _ Hg.out, HK.out⟩
      · have Hg : Hid (∀ lo' hi', lo' = (if tp < 100000 then max lo (v - tp) else lo) → hi' = (if tk < 100000 then min hi (v + tk) else hi) → winAt T pt (lo, hi) k v = (lo', hi')) := by
          intro lo' hi' h1 h2
          unfold winAt Far
          rw [if_neg g0, Htp.out, Htk.out, h1, h2]
        have g0' : (v == -1) = false := by simp [g0]
        by_cases g1 : tp < 100000
        · go_upto_region 8 with fail
          go_region
          by_cases g2 : tk < 100000
          · go_upto_region 10 with fail
            all_goals
              go_region
              go_wp2_with fail
              all_goals
                go_roundg (n - (k + 1))
                case measure => go_light; omega
                case rel =>
                  go_light
                  refine ⟨k + 1, _, _, by omega, rfl, rfl, rfl, by go_num, HF.out _ _ (Hg.out _ _ ?_ ?_), HB _ (by go_grown)⟩
                  · (repeat' split) <;> omega
                  · (repeat' split) <;> omega
          · skip
            go_wp2_with fail
            all_goals
              go_roundg (n - (k + 1))
              case measure => go_light; omega
              case rel =>
                go_light
                refine ⟨k + 1, _, _, by omega, rfl, rfl, rfl, by go_num, HF.out _ _ (Hg.out _ _ ?_ ?_), HB _ (by go_grown)⟩
                · (repeat' split) <;> omega
                · (repeat' split) <;> omega
        · by_cases g2 : tk < 100000
          · go_upto_region 10 with fail
            all_goals
              go_region
              go_wp2_with fail
              all_goals
                go_roundg (n - (k + 1))
                case measure => go_light; omega
                case rel =>
                  go_light
                  refine ⟨k + 1, _, _, by omega, rfl, rfl, rfl, by go_num, HF.out _ _ (Hg.out _ _ ?_ ?_), HB _ (by go_grown)⟩
                  · (repeat' split) <;> omega
                  · (repeat' split) <;> omega
          · skip
            go_wp2_with fail
            all_goals
              go_roundg (n - (k + 1))
              case measure => go_light; omega
              case rel =>
                go_light
                refine ⟨k + 1, _, _, by omega, rfl, rfl, rfl, by go_num, HF.out _ _ (Hg.out _ _ ?_ ?_), HB _ (by go_grown)⟩
                · (repeat' split) <;> omega
                · (repeat' split) <;> omega
    · obtain rfl : k = n := by omega
      have hz : ¬ (k : Int) < (xs.length : Int) := by omega
      clear hlen
      go_wp2_with fail
      go_ret2
      rw [Hw.out]
      exact ⟨rfl, hW⟩

set_option maxHeartbeats 2000000 in
set_option maxRecDepth 100000 in
theorem sStateOk_c (p : Pl) (s : St) (A A' : Option Addr) (b o c b' o' c' B : Nat) (w : World) (hn : p.bs.length ≤ 2000000) (hn' : s.done.length ≤ 2000000) (hB : B ≤ w.heap.size) (hR : BdsR w B b o A p.bs) (hR' : IntsR w B b' o' A' s.done) :
    Calls Try.prog 132 #[.agg #[.int .i64 p.n, .slice A p.bs.length c], .agg #[.int .i64 s.now, .slice A' s.done.length c']] w fun e w' => e = .returned (.bool (stateOk p s)) ∧ Below w.heap.size w w' := by
  have hD := db_new (t := 25) (t' := 70) (n := p.n) (now := s.now) (c := c) (c' := c') hB hR hR'
  clear hR hR'
  obtain ⟨r, hr⟩ : ∃ r, stateOk p s = r := ⟨_, rfl⟩
  rw [hr]
  have Hr := hide hr
  clear hr
  cases hf : fits p
  · have e : r = false := by rw [← Hr.out]; unfold stateOk; rw [hf]; rfl
    subst e
    have Hf := hide hf
    clear hf
    go_enter Try.func132, Try.ntmps132
    go_upto_region 1 with fail
    generalize (w.alloc (.cells #[.int .i64 p.n, .slice A p.bs.length c] 25)).alloc (.cells #[.int .i64 s.now, .slice A' s.done.length c'] 70) = W at hD ⊢
    have p0 := hD.p.c0
    have p1 := hD.p.c1
    have s0 := hD.s.c0
    have s1 := hD.s.c1
    go_wp2_with (go_at_call 84; go_fit (sFitsOk_c p A b o c _ _ hn (Nat.le_refl _) hD.p.rd); rintro e w2 ⟨rfl, hb2⟩; rw [Hf.out]; replace hD := hD.below hb2; clear p0 p1 s0 s1; have p0 := hD.p.c0; have p1 := hD.p.c1; have s0 := hD.s.c0; have s1 := hD.s.c1)
    go_ret
    exact ⟨rfl, hD.bel⟩
  · have hp := planOk_of_fits hf
    obtain ⟨hn6, hn1, hnn⟩ := nn_ok hp
    by_cases hl : (s.done.length : Int) = p.n
    · have hl' : s.done.length = nn p := by omega
      have h0n : 0 < s.done.length := by omega
      cases hc : inB s.now 0 2000
      · have e : r = false := by rw [← Hr.out]; unfold stateOk; rw [hf, hc]; simp
        subst e
        have Hf := hide hf
        have Hc := hide hc
        clear hf hc hp hl'
        go_enter Try.func132, Try.ntmps132
        go_upto_region 1 with fail
        generalize (w.alloc (.cells #[.int .i64 p.n, .slice A p.bs.length c] 25)).alloc (.cells #[.int .i64 s.now, .slice A' s.done.length c'] 70) = W at hD ⊢
        have p0 := hD.p.c0
        have p1 := hD.p.c1
        have s0 := hD.s.c0
        have s1 := hD.s.c1
        go_wp2_with (first
          | (go_at_call 84; go_fit (sFitsOk_c p A b o c _ _ hn (Nat.le_refl _) hD.p.rd); rintro e w2 ⟨rfl, hb2⟩; rw [Hf.out]; replace hD := hD.below hb2; clear p0 p1 s0 s1; have p0 := hD.p.c0; have p1 := hD.p.c1; have s0 := hD.s.c0; have s1 := hD.s.c1)
          | (go_at_call 112; go_fit (l1In_c s.now 0 2000 _); rintro e w3 ⟨rfl, rfl⟩; rw [Hc.out]))
        go_ret
        exact ⟨rfl, hD.bel⟩
      · have d0 := hD.s.rd.cell 0 h0n
        have hA := hD.s.rd.addr h0n
        have h0z : (0 : Int) < (s.done.length : Int) := by omega
        subst hA
        by_cases h0 : s.done.getD 0 0 = 0
        · have hr2 : (s.done.all fun x => inB x (-1) s.now) = r := by
            rw [← Hr.out]; unfold stateOk; rw [hf, hc, decide_eq_true hl', decide_eq_true h0]; rfl
          have Hr2 := hide hr2
          have Hf := hide hf
          have Hc := hide hc
          have H0 := hide h0
          clear hf hc hp hl' hr2 d0 h0
          go_enter Try.func132, Try.ntmps132
          go_upto_region 1 with fail
          generalize (w.alloc (.cells #[.int .i64 p.n, .slice A p.bs.length c] 25)).alloc (.cells #[.int .i64 s.now, .slice (some ⟨b', o', none⟩) s.done.length c'] 70) = W at hD ⊢
          have p0 := hD.p.c0
          have p1 := hD.p.c1
          have s0 := hD.s.c0
          have s1 := hD.s.c1
          go_wp2_with (first
            | (go_at_call 84; go_fit (sFitsOk_c p A b o c _ _ hn (Nat.le_refl _) hD.p.rd); rintro e w2 ⟨rfl, hb2⟩; rw [Hf.out]; replace hD := hD.below hb2; clear p0 p1 s0 s1; have p0 := hD.p.c0; have p1 := hD.p.c1; have s0 := hD.s.c0; have s1 := hD.s.c1; have d0 := hD.s.rd.cell 0 h0n; rw [H0.out, Nat.add_zero] at d0)
            | (go_at_call 112; go_fit (l1In_c s.now 0 2000 _); rintro e w3 ⟨rfl, rfl⟩; rw [Hc.out]))
          clear p0 p1 s0 s1 d0
          go_loopg [5] s.done.length (fun gh s5 wr => ∃ k : Nat, k ≤ s.done.length ∧ gh = s.done.length - k ∧ s5 = .int .i64 k ∧ DB w wr b o p.n A c p.bs b' o' s.now (some ⟨b', o', none⟩) c' s.done ∧ Hid (∀ j, j < k → inB (s.done.getD j 0) (-1) s.now = true))
          case atStart => exact ⟨0, Nat.zero_le _, rfl, rfl, hD, fun j hj => absurd hj (Nat.not_lt_zero _)⟩
          case round =>
            clear hD
            obtain ⟨k, hk, rfl, rfl, hD, HA⟩ := hrel
            have s0 := hD.s.c0
            have s1 := hD.s.c1
            by_cases hlt : k < s.done.length
            · have hz : (k : Int) < (s.done.length : Int) := by omega
              have d0 := hD.s.rd.cell k hlt
              have hlb : b' < wr.heap.size := hD.s.rd.lt h0n
              have hYl := hD.s.ex
              obtain ⟨v, hv⟩ : ∃ v, s.done.getD k 0 = v := ⟨_, rfl⟩
              rw [hv] at d0
              have Hv := hide hv
              clear hv
              cases hiv : inB v (-1) s.now
              · have e : r = false := by
                  rw [← Hr2.out, List.all_eq_false]
                  refine ⟨v, ?_, by rw [hiv]; simp⟩
                  rw [← Hv.out, List.getD_eq_getElem?_getD, List.getElem?_eq_getElem hlt]
                  exact List.getElem_mem hlt
                subst e
                have Hiv := hide hiv
                clear hiv
                go_upto_region 6 with fail
                go_region_held3 (fun w' => w'.cell? ⟨w.heap.size + 1, 0, none⟩ = some (.int .i64 s.now) ∧ w'.cell? ⟨w.heap.size + 1, 1, none⟩ = some (.slice (some ⟨b', o', none⟩) s.done.length c') ∧ w'.cell? ⟨b', o' + k, none⟩ = some (.int .i64 v))
                  (first
                    | (go_split_ands; (repeat' apply And.intro) <;> assumption)
                    | (go_keep; done))
                  ((go_at_call 112; go_fit (l1In_c v (-1) s.now _); rintro e w3 ⟨rfl, rfl⟩; rw [Hiv.out]))
                go_wp2_with fail
                go_ret
                exact ⟨rfl, hD.drew.bel⟩
              · have Hiv := hide hiv
                clear hiv
                go_upto_region 6 with fail
                go_region_held3 (fun w' => w'.cell? ⟨w.heap.size + 1, 0, none⟩ = some (.int .i64 s.now) ∧ w'.cell? ⟨w.heap.size + 1, 1, none⟩ = some (.slice (some ⟨b', o', none⟩) s.done.length c') ∧ w'.cell? ⟨b', o' + k, none⟩ = some (.int .i64 v))
                  (first
                    | (go_split_ands; (repeat' apply And.intro) <;> assumption)
                    | (go_keep; done))
                  ((go_at_call 112; go_fit (l1In_c v (-1) s.now _); rintro e w3 ⟨rfl, rfl⟩; rw [Hiv.out]))
                go_wp2_with fail
                go_roundg (s.done.length - (k + 1))
                case measure => go_light; omega
                case rel =>
                  go_light
                  refine ⟨k + 1, by omega, rfl, by go_num, hD.drew, fun j hj => ?_⟩
                  by_cases e : j = k
                  · subst e; rw [Hv.out]; exact Hiv.out
                  · exact HA.out j (by omega)
            · obtain rfl : k = s.done.length := by omega
              have e : r = true := by
                rw [← Hr2.out, List.all_eq_true]
                intro x hx
                obtain ⟨j, hj, rfl⟩ := List.getElem_of_mem hx
                have := HA.out j hj
                rwa [List.getD_eq_getElem?_getD, List.getElem?_eq_getElem hj] at this
              subst e
              go_wp2_with fail
              go_ret
              exact ⟨rfl, hD.bel⟩
        · have e : r = false := by rw [← Hr.out]; unfold stateOk; rw [decide_eq_false h0]; simp
          subst e
          have h0' : (s.done.getD 0 0 == 0) = false := by rw [Bool.eq_false_iff]; intro h; exact h0 (by simpa using h)
          have Hf := hide hf
          have Hc := hide hc
          clear hf hc hp hl' d0
          obtain ⟨v, hv⟩ : ∃ v, s.done.getD 0 0 = v := ⟨_, rfl⟩
          rw [hv] at h0 h0'
          have Hv := hide hv
          clear hv
          go_enter Try.func132, Try.ntmps132
          go_upto_region 1 with fail
          generalize (w.alloc (.cells #[.int .i64 p.n, .slice A p.bs.length c] 25)).alloc (.cells #[.int .i64 s.now, .slice (some ⟨b', o', none⟩) s.done.length c'] 70) = W at hD ⊢
          have p0 := hD.p.c0
          have p1 := hD.p.c1
          have s0 := hD.s.c0
          have s1 := hD.s.c1
          go_wp2_with (first
            | (go_at_call 84; go_fit (sFitsOk_c p A b o c _ _ hn (Nat.le_refl _) hD.p.rd); rintro e w2 ⟨rfl, hb2⟩; rw [Hf.out]; replace hD := hD.below hb2; clear p0 p1 s0 s1; have p0 := hD.p.c0; have p1 := hD.p.c1; have s0 := hD.s.c0; have s1 := hD.s.c1; have d0 := hD.s.rd.cell 0 h0n; rw [Hv.out, Nat.add_zero] at d0)
            | (go_at_call 112; go_fit (l1In_c s.now 0 2000 _); rintro e w3 ⟨rfl, rfl⟩; rw [Hc.out]))
          go_ret
          exact ⟨rfl, hD.bel⟩
    · have e : r = false := by rw [← Hr.out]; unfold stateOk; rw [decide_eq_false (p := s.done.length = nn p) (by omega)]; simp
      subst e
      have Hf := hide hf
      clear hf hp
      go_enter Try.func132, Try.ntmps132
      go_upto_region 1 with fail
      generalize (w.alloc (.cells #[.int .i64 p.n, .slice A p.bs.length c] 25)).alloc (.cells #[.int .i64 s.now, .slice A' s.done.length c'] 70) = W at hD ⊢
      have p0 := hD.p.c0
      have p1 := hD.p.c1
      have s0 := hD.s.c0
      have s1 := hD.s.c1
      go_wp2_with (go_at_call 84; go_fit (sFitsOk_c p A b o c _ _ hn (Nat.le_refl _) hD.p.rd); rintro e w2 ⟨rfl, hb2⟩; rw [Hf.out]; replace hD := hD.below hb2; clear p0 p1 s0 s1; have p0 := hD.p.c0; have p1 := hD.p.c1; have s0 := hD.s.c0; have s1 := hD.s.c1)
      go_ret
      exact ⟨rfl, hD.bel⟩
end Go.Proofs.Ytjlaljnffmncpaa
