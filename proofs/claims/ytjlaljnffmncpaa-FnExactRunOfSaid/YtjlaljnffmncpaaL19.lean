/-
  impl: RunOf.
-/
import Derived.Test.YtjlaljnffmncpaaL18
namespace Go.Proofs.Ytjlaljnffmncpaa
set_option linter.unusedVariables false
set_option linter.unusedSimpArgs false
open Go.RowKit Pp

theorem OS.renew {T : Nat} {W : World} {Z g : Nat} {now n2 : Int} {A A2 : Option Addr} {c c2 : Nat} {xs ys : List Int} (h : OS T W Z g now A c xs) (own : OwnI T W (.slice A2 ys.length c2) ys) (ne : (Value.slice A2 ys.length c2).ownBlock ≠ some Z) :
    ∃ g', OS T ((W.setCell ⟨Z, 0, none⟩ (.int .i64 n2)).setCell ⟨Z, 1, none⟩ (.slice A2 ys.length c2)) Z g' n2 A2 c2 ys := by
  obtain ⟨r0, r1⟩ := two_cells (a := .int .i64 n2) (b := .slice A2 ys.length c2) h.rs.c0 h.rs.c1
  have o2 : OwnI T ((W.setCell ⟨Z, 0, none⟩ (.int .i64 n2)).setCell ⟨Z, 1, none⟩ (.slice A2 ys.length c2)) (.slice A2 ys.length c2) ys := own_set (p := ⟨Z, 1, none⟩) (own_set (p := ⟨Z, 0, none⟩) own ne _) ne _
  obtain ⟨g', hr⟩ := own_IntsR o2
  exact ⟨g', h.lo, ⟨by simpa using h.rs.ex, r0, r1, hr⟩, fun i => by rw [← h.fz i]; simp, o2, ne⟩

theorem pick_at {picks : List Int} {k : Nat} {v : Int} (h : picks[k]? = some v) : pickOf picks k = max 0 v := by unfold pickOf; rw [List.getD_eq_getElem?_getD, h]; rfl
theorem pick_no {picks : List Int} {k : Nat} (h : picks.length ≤ k) : pickOf picks k = 0 := by unfold pickOf; rw [List.getD_eq_getElem?_getD, List.getElem?_eq_none h]; rfl

set_option maxHeartbeats 4000000 in
set_option maxRecDepth 100000 in
theorem runOf_c (p : Pl) (picks : List Int) (q : St) (r : Bool) (hq : runOf p picks = (q, r)) (hx : ∀ (j : Nat) (y : Int), picks[j]? = some y → -9223372036854775808 ≤ y ∧ y ≤ 9223372036854775807) (A A' : Option Addr) (b o c b' o' c' B : Nat) (w : World) (hn : p.bs.length ≤ 2000000) (hn' : picks.length ≤ 2000000) (hB : B ≤ w.heap.size) (hR : BdsR w B b o A p.bs) (hR' : IntsR w B b' o' A' picks) :
    Calls Try.prog 67 #[.agg #[.int .i64 p.n, .slice A p.bs.length c], .slice A' picks.length c'] w fun e w' =>
      ∃ A1 c1 g1, e = .returned (.tuple #[.agg #[.int .i64 q.now, .slice A1 q.done.length c1], .bool r]) ∧ IntsR w' w'.heap.size g1 0 A1 q.done ∧ OwnI w.heap.size w' (.slice A1 q.done.length c1) q.done ∧ Below w.heap.size w w' := by
  obtain ⟨n, bs⟩ := p
  dsimp only at *
  have hP := (rp_new (t := 25) (n := n) (c := c) (hR.more hB)).alloc (.cells #[.int .i64 0, .slice none 0 0] 70)
  have hZ : ZB w ((w.alloc (.cells #[.int .i64 n, .slice A bs.length c] 25)).alloc (.cells #[.int .i64 0, .slice none 0 0] 70)) (w.heap.size + 1) := by
    have h := zb_new (w0 := w) (W := w.alloc (.cells #[.int .i64 n, .slice A bs.length c] 25)) (t := 70) (by simp)
    simp only [World.size_alloc] at h
    exact h
  have hW : Below w.heap.size w ((w.alloc (.cells #[.int .i64 n, .slice A bs.length c] 25)).alloc (.cells #[.int .i64 0, .slice none 0 0] 70)) := by go_grown
  have hlb : 0 < bs.length → b < w.heap.size := fun h => Nat.lt_of_lt_of_le (hR.lt h) hB
  clear hR
  cases hf : fits ⟨n, bs⟩
  · have e : runOf ⟨n, bs⟩ picks = (⟨0, []⟩, false) := by unfold runOf; rw [hf]; rfl
    have e2 : stateNew ⟨n, bs⟩ = (⟨0, []⟩, false) := by unfold stateNew; rw [hf]; rfl
    rw [e] at hq
    injection hq with h1 h2
    subst h1 h2
    have H2 := hide e2
    clear hf e e2
    go_enter Try.func67, Try.ntmps67
    go_upto_region 1 with fail
    generalize (w.alloc (.cells #[.int .i64 n, .slice A bs.length c] 25)).alloc (.cells #[.int .i64 0, .slice none 0 0] 70) = W at hP hZ hW ⊢
    have p0 := hP.c0
    have p1 := hP.c1
    generalize w.heap.size + 1 = Y at hZ ⊢
    go_wp2_with (go_at_call 69; go_fit (implNew_c ⟨n, bs⟩ ⟨0, []⟩ false H2.out A b o c _ _ hn (Nat.le_refl _) hP.rd); rintro e w2 ⟨A1, c1, g1, rfl, _, _, hb2⟩; have hb3 := bthen hb2 (show Below w2.heap.size w2 (w2.alloc (.cells #[.int .i64 0, .slice A1 0 c1] 70)) by go_grown); replace hW := bthen hW hb3; replace hZ := hZ.below hb3; have z0 := hZ.z0; have z1 := hZ.z1; have zf0 := hZ.zf 0; have zf1 := hZ.zf 1)
    obtain ⟨r0, r1, ho, hb7⟩ := hZ.finI (n := 0) (A := none) (c := 0) (xs := []) hW (World.ownsRow_nil _ _ _ _) (by simp [Value.ownBlock])
    simp only [List.length_nil] at r0 r1 ho hb7
    refine bodyPost_ret (v := .tuple #[.agg #[.int .i64 0, .slice none 0 0], .bool false]) (by simp [results, Try.results67, go_sem, r0, r1]) rfl ?_
    exact ⟨none, 0, 0, rfl, IntsR.nil _ _ _, ho, hb7⟩
  · have hnn := nn_ok (planOk_of_fits hf)
    have e : runOf ⟨n, bs⟩ picks = (runTo ⟨n, bs⟩ picks (nn ⟨n, bs⟩), true) := by unfold runOf; rw [hf]; rfl
    rw [e] at hq
    obtain ⟨m, hm⟩ : ∃ m, nn ⟨n, bs⟩ = m := ⟨_, rfl⟩
    rw [hm] at hnn hq
    obtain ⟨hm6, hm1, hmn⟩ := hnn
    dsimp only at hmn
    obtain rfl : n = (m : Int) := hmn.symm
    injection hq with h1 h2
    subst h2
    have Hq := hide h1
    obtain ⟨s1, hs1⟩ : ∃ s1, (stateNew ⟨(m : Int), bs⟩).1 = s1 := ⟨_, rfl⟩
    have H2 : Hid (stateNew ⟨(m : Int), bs⟩ = (s1, true)) := by unfold Hid; rw [← hs1]; unfold stateNew; rw [hf]; rfl
    have Hs1 : Hid (runTo ⟨(m : Int), bs⟩ picks 0 = s1) := hs1
    have Hall := hide (fun k => runTo_ok hf picks k)
    clear h1 e hm hmn hs1 hf
    go_enter Try.func67, Try.ntmps67
    go_upto_region 1 with fail
    generalize (w.alloc (.cells #[.int .i64 (m : Int), .slice A bs.length c] 25)).alloc (.cells #[.int .i64 0, .slice none 0 0] 70) = W at hP hZ hW ⊢
    have p0 := hP.c0
    have p1 := hP.c1
    have hYw : w.heap.size < w.heap.size + 1 := Nat.lt_succ_self _
    generalize w.heap.size + 1 = Y at hZ hYw ⊢
    have hYT := hZ.ex
    go_upto_region 2 with (go_at_call 69; go_fit (implNew_c ⟨(m : Int), bs⟩ s1 true H2.out A b o c _ _ hn (Nat.le_refl _) hP.rd); rintro e w2 ⟨A1, c1, g1, rfl, hr2, hown2, hb2⟩)
    obtain ⟨hO, hbO⟩ := os_new (t := 70) (now := s1.now) hb2.size hr2 hown2
    have hb3 := bthen hb2 hbO
    replace hW := bthen hW hb3
    replace hZ := hZ.below hb3
    replace hP := hP.below hb3
    clear hr2 hown2 hb2 hbO hb3 p0 p1
    generalize w2.alloc (.cells #[.int .i64 s1.now, .slice A1 s1.done.length c1] 70) = W3 at hO hW hZ hP ⊢
    generalize w2.heap.size = Z at hO ⊢
    obtain ⟨T, hT⟩ : ∃ T, W.heap.size = T := ⟨_, rfl⟩
    rw [hT] at hO hYT
    clear hT
    have p0 := hP.c0
    go_wp2_with fail
    clear p0
    go_loopg [20] m (fun gh s20 wr => ∃ (k : Nat) (s : St) (A1 : Option Addr) (c1 g1 : Nat), k ≤ m ∧ gh = m - k ∧ s20 = .int .i64 k ∧ Hid (runTo ⟨(m : Int), bs⟩ picks k = s) ∧ OS T wr Z g1 s.now A1 c1 s.done ∧ Below w.heap.size w wr ∧ RP wr w.heap.size b o (m : Int) A c bs ∧ ZB w wr Y)
    case atStart => exact ⟨0, s1, A1, c1, _, Nat.zero_le _, rfl, rfl, Hs1, hO, hW, hP, hZ⟩
    case round =>
      clear hO hW hZ hP
      obtain ⟨k, s, A1, c1, g1, hk, rfl, rfl, Hk, hO, hW, hP, hZ⟩ := hrel
      have p0 := hP.c0
      have p1 := hP.c1
      have q0 := hO.rs.c0
      have q1 := hO.rs.c1
      by_cases hlt : k < m
      · have hz : (k : Int) < (m : Int) := by omega
        have Hs : Hid (stateOk ⟨(m : Int), bs⟩ s = true) := by unfold Hid; rw [← Hk.out]; exact Hall.out k
        by_cases hkl : k < picks.length
        · have hklz : (k : Int) < (picks.length : Int) := by omega
          have hA := hR'.addr (by omega)
          subst hA
          have d0 := (hR'.below (hW.mono hB)).cell k hkl
          have hv := List.getElem?_eq_getElem hkl
          have hpk := pick_at hv
          have hxv := hx k _ hv
          rw [ints_at hv] at d0
          generalize picks[k] = v at d0 hpk hxv
          obtain ⟨hv1, hv2⟩ := hxv
          clear hv
          by_cases hv0 : 0 < v
          · obtain ⟨q1, hq1⟩ : ∃ q1, stepR ⟨(m : Int), bs⟩ s v = q1 := ⟨_, rfl⟩
            have Hst : Hid (runTo ⟨(m : Int), bs⟩ picks (k + 1) = q1) := by
              show stepR _ (runTo _ picks k) (pickOf picks k) = q1
              rw [Hk.out, hpk, ← hq1, show max 0 v = v by omega]
            have Hq1 := hide hq1
            clear hq1 hpk
            go_wp2_with (go_at_call 139; go_fit (step_c ⟨(m : Int), bs⟩ s v q1 Hq1.out (by omega) Hs.out A A1 b o c g1 0 c1 _ _ hn (Nat.le_refl _) hP.rd hO.rs.rd); rintro e w5 ⟨A2, c2, rfl, hown, hb5⟩; have hP5 := hP.below hb5; have hZ5 := hZ.below hb5; have hO5 := hO.below hb5; have o0 := hO5.rs.c0; have o1 := hO5.rs.c1; have of0 := hO5.fz 0; have of1 := hO5.fz 1)
            have hW5 := bthen hW hb5
            have hr5 : OwnI T w5 (.slice A2 q1.done.length c2) q1.done ∧ (Value.slice A2 q1.done.length c2).ownBlock ≠ some Z := by
              rcases hown with h | ⟨h1, h2, h3⟩
              · exact ⟨own_less h (by have := hO.lo; have := hO.rs.ex; omega), fun e => by have := (h.lt _ e).1; have := hO.rs.ex; omega⟩
              · subst h1; subst h2; subst h3; exact ⟨hO5.own, hO5.ne⟩
            obtain ⟨g2, hO6⟩ := hO5.renew (n2 := q1.now) hr5.1 hr5.2
            have hP6 : RP ((w5.setCell ⟨Z, 0, none⟩ (.int .i64 q1.now)).setCell ⟨Z, 1, none⟩ (.slice A2 q1.done.length c2)) w.heap.size b o (m : Int) A c bs := (hP5.set (by have := hO.lo; omega) (fun h => by have := hlb h; have := hO.lo; omega)).set (by have := hO.lo; omega) (fun h => by have := hlb h; have := hO.lo; omega)
            have hZ6 : ZB w ((w5.setCell ⟨Z, 0, none⟩ (.int .i64 q1.now)).setCell ⟨Z, 1, none⟩ (.slice A2 q1.done.length c2)) Y := (hZ5.set (by have := hO.lo; omega)).set (by have := hO.lo; omega)
            have hW6 : Below w.heap.size w ((w5.setCell ⟨Z, 0, none⟩ (.int .i64 q1.now)).setCell ⟨Z, 1, none⟩ (.slice A2 q1.done.length c2)) := (hW5.setCell (p := ⟨Z, 0, none⟩) (by have := hO.lo; dsimp only; omega) _).setCell (p := ⟨Z, 1, none⟩) (by have := hO.lo; dsimp only; omega) _
            go_roundg (m - (k + 1))
            case measure => go_light; omega
            case rel => go_light; exact ⟨k + 1, q1, A2, c2, g2, by omega, rfl, by go_num, Hst.out, hO6, hW6, hP6, hZ6⟩
          · obtain ⟨q1, hq1⟩ : ∃ q1, stepR ⟨(m : Int), bs⟩ s 0 = q1 := ⟨_, rfl⟩
            have Hst : Hid (runTo ⟨(m : Int), bs⟩ picks (k + 1) = q1) := by
              show stepR _ (runTo _ picks k) (pickOf picks k) = q1
              rw [Hk.out, hpk, ← hq1, show max 0 v = 0 by omega]
            have Hq1 := hide hq1
            clear hq1 hpk
            go_wp2_with (go_at_call 139; go_fit (step_c ⟨(m : Int), bs⟩ s 0 q1 Hq1.out (by omega) Hs.out A A1 b o c g1 0 c1 _ _ hn (Nat.le_refl _) hP.rd hO.rs.rd); rintro e w5 ⟨A2, c2, rfl, hown, hb5⟩; have hP5 := hP.below hb5; have hZ5 := hZ.below hb5; have hO5 := hO.below hb5; have o0 := hO5.rs.c0; have o1 := hO5.rs.c1; have of0 := hO5.fz 0; have of1 := hO5.fz 1)
            have hW5 := bthen hW hb5
            have hr5 : OwnI T w5 (.slice A2 q1.done.length c2) q1.done ∧ (Value.slice A2 q1.done.length c2).ownBlock ≠ some Z := by
              rcases hown with h | ⟨h1, h2, h3⟩
              · exact ⟨own_less h (by have := hO.lo; have := hO.rs.ex; omega), fun e => by have := (h.lt _ e).1; have := hO.rs.ex; omega⟩
              · subst h1; subst h2; subst h3; exact ⟨hO5.own, hO5.ne⟩
            obtain ⟨g2, hO6⟩ := hO5.renew (n2 := q1.now) hr5.1 hr5.2
            have hP6 : RP ((w5.setCell ⟨Z, 0, none⟩ (.int .i64 q1.now)).setCell ⟨Z, 1, none⟩ (.slice A2 q1.done.length c2)) w.heap.size b o (m : Int) A c bs := (hP5.set (by have := hO.lo; omega) (fun h => by have := hlb h; have := hO.lo; omega)).set (by have := hO.lo; omega) (fun h => by have := hlb h; have := hO.lo; omega)
            have hZ6 : ZB w ((w5.setCell ⟨Z, 0, none⟩ (.int .i64 q1.now)).setCell ⟨Z, 1, none⟩ (.slice A2 q1.done.length c2)) Y := (hZ5.set (by have := hO.lo; omega)).set (by have := hO.lo; omega)
            have hW6 : Below w.heap.size w ((w5.setCell ⟨Z, 0, none⟩ (.int .i64 q1.now)).setCell ⟨Z, 1, none⟩ (.slice A2 q1.done.length c2)) := (hW5.setCell (p := ⟨Z, 0, none⟩) (by have := hO.lo; dsimp only; omega) _).setCell (p := ⟨Z, 1, none⟩) (by have := hO.lo; dsimp only; omega) _
            go_roundg (m - (k + 1))
            case measure => go_light; omega
            case rel => go_light; exact ⟨k + 1, q1, A2, c2, g2, by omega, rfl, by go_num, Hst.out, hO6, hW6, hP6, hZ6⟩
        · have hklz : ¬ (k : Int) < (picks.length : Int) := by omega
          have hpk := pick_no (picks := picks) (k := k) (by omega)
          obtain ⟨q1, hq1⟩ : ∃ q1, stepR ⟨(m : Int), bs⟩ s 0 = q1 := ⟨_, rfl⟩
          have Hst : Hid (runTo ⟨(m : Int), bs⟩ picks (k + 1) = q1) := by
            show stepR _ (runTo _ picks k) (pickOf picks k) = q1
            rw [Hk.out, hpk, ← hq1]
          have Hq1 := hide hq1
          clear hq1 hpk
          go_wp2_with (go_at_call 139; go_fit (step_c ⟨(m : Int), bs⟩ s 0 q1 Hq1.out (by omega) Hs.out A A1 b o c g1 0 c1 _ _ hn (Nat.le_refl _) hP.rd hO.rs.rd); rintro e w5 ⟨A2, c2, rfl, hown, hb5⟩; have hP5 := hP.below hb5; have hZ5 := hZ.below hb5; have hO5 := hO.below hb5; have o0 := hO5.rs.c0; have o1 := hO5.rs.c1; have of0 := hO5.fz 0; have of1 := hO5.fz 1)
          have hW5 := bthen hW hb5
          have hr5 : OwnI T w5 (.slice A2 q1.done.length c2) q1.done ∧ (Value.slice A2 q1.done.length c2).ownBlock ≠ some Z := by
            rcases hown with h | ⟨h1, h2, h3⟩
            · exact ⟨own_less h (by have := hO.lo; have := hO.rs.ex; omega), fun e => by have := (h.lt _ e).1; have := hO.rs.ex; omega⟩
            · subst h1; subst h2; subst h3; exact ⟨hO5.own, hO5.ne⟩
          obtain ⟨g2, hO6⟩ := hO5.renew (n2 := q1.now) hr5.1 hr5.2
          have hP6 : RP ((w5.setCell ⟨Z, 0, none⟩ (.int .i64 q1.now)).setCell ⟨Z, 1, none⟩ (.slice A2 q1.done.length c2)) w.heap.size b o (m : Int) A c bs := (hP5.set (by have := hO.lo; omega) (fun h => by have := hlb h; have := hO.lo; omega)).set (by have := hO.lo; omega) (fun h => by have := hlb h; have := hO.lo; omega)
          have hZ6 : ZB w ((w5.setCell ⟨Z, 0, none⟩ (.int .i64 q1.now)).setCell ⟨Z, 1, none⟩ (.slice A2 q1.done.length c2)) Y := (hZ5.set (by have := hO.lo; omega)).set (by have := hO.lo; omega)
          have hW6 : Below w.heap.size w ((w5.setCell ⟨Z, 0, none⟩ (.int .i64 q1.now)).setCell ⟨Z, 1, none⟩ (.slice A2 q1.done.length c2)) := (hW5.setCell (p := ⟨Z, 0, none⟩) (by have := hO.lo; dsimp only; omega) _).setCell (p := ⟨Z, 1, none⟩) (by have := hO.lo; dsimp only; omega) _
          go_roundg (m - (k + 1))
          case measure => go_light; omega
          case rel => go_light; exact ⟨k + 1, q1, A2, c2, g2, by omega, rfl, by go_num, Hst.out, hO6, hW6, hP6, hZ6⟩
      · obtain rfl : k = m := by omega
        have e : q = s := by rw [← Hk.out]; exact Hq.out.symm
        subst e
        have z0 := hZ.z0
        have z1 := hZ.z1
        have zf0 := hZ.zf 0
        have zf1 := hZ.zf 1
        obtain ⟨r0, r1, ho, hb9⟩ := hZ.finI (n := q.now) (A := A1) (c := c1) (xs := q.done) hW (own_less hO.own (by omega)) (fun e => by have := (hO.own.lt _ e).1; omega)
        go_wp2_with fail
        refine bodyPost_ret (v := .tuple #[.agg #[.int .i64 q.now, .slice A1 q.done.length c1], .bool true]) (by simp [results, Try.results67, go_sem, r0, r1]) rfl ?_
        obtain ⟨g9, hr9⟩ := own_IntsR ho
        exact ⟨_, _, g9, rfl, hr9, ho, hb9⟩
end Go.Proofs.Ytjlaljnffmncpaa
