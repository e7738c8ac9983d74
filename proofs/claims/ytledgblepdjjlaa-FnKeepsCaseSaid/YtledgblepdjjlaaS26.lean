/-
  spec: l4Window, StartOk and EndedFrom without times, TimesFor.
-/
import Derived.Test.YtledgblepdjjlaaP12
import Derived.Test.YtledgblepdjjlaaS2c
import Derived.Test.YtledgblepdjjlaaI3
namespace Go.Proofs.Ytledgblepdjjlaa
set_option linter.unusedVariables false
set_option linter.unusedSimpArgs false
open Go.RowKit Pp

set_option maxHeartbeats 2000000 in
set_option maxRecDepth 100000 in
theorem l4Window_c (n ob : Nat) (T : Tb) (rb rc : Nat → Nat) (ct : Nat) (xs : List Int) (M : Int) (A : Option Addr) (b o c B : Nat) (w : World) (hn : n ≤ 1000) (hpt : xs.length < n) (hB : B ≤ w.heap.size)
    (hR : IntsR w B b o A xs) (hT : TabR w B ob rb rc n T) (hS : Small n T) (hx : AbsTo xs M) (h0 : 0 ≤ M) (h1 : M ≤ 10000) :
    Calls Try.prog 128 #[.slice (some ⟨ob, 0, none⟩) n ct, .slice A xs.length c, .int .i64 xs.length] w fun e w' => e = .returned (.tuple #[.int .i64 (nwTo T xs xs.length xs.length).1, .int .i64 (nwTo T xs xs.length xs.length).2]) ∧ Below w.heap.size w w' := by
  have habs := nwTo_abs hS hx h0 h1 hpt
  obtain ⟨m, hm⟩ : ∃ m, xs.length = m := ⟨_, rfl⟩
  have hRc : Hid (∀ k, k < m → A = some ⟨b, o, none⟩ ∧ b < B ∧ w.cell? ⟨b, o + k, none⟩ = some (.int .i64 (xs.getD k 0))) := fun k hk => ⟨hR.addr (by omega), hR.lt (by omega), hR.cell k (by omega)⟩
  rw [hm] at hpt habs ⊢
  clear hR hm
  have hpz : (m : Int) < (n : Int) := by omega
  have hm0 : (0 : Int) ≤ (m : Int) := by omega
  go_enter Try.func128, Try.ntmps128
  go_upto_region 4 with fail
  go_loopg [8, 9, 10] m (fun gh s6 s7 s14 wr => ∃ (k : Nat) (lo hi : Int), k ≤ m ∧ gh = m - k ∧ s6 = .int .i64 lo ∧ s7 = .int .i64 hi ∧ s14 = .int .i64 k ∧ Hid (nwTo T xs m k = (lo, hi)) ∧ Below w.heap.size w wr)
  case atStart => exact ⟨0, -100000, 100000, Nat.zero_le _, rfl, rfl, rfl, rfl, rfl, Below.refl _ _⟩
  case round =>
    obtain ⟨k, lo, hi, hk, rfl, rfl, rfl, rfl, Hw, hW⟩ := hrel
    have hab := habs k (by omega)
    rw [Hw.out] at hab
    dsimp only at hab
    obtain ⟨hlo, hhi⟩ := hab
    by_cases hlt : k < m
    · have hz : (k : Int) < (m : Int) := by omega
      have hzn : (k : Int) < (n : Int) := by omega
      have hz0 : (0 : Int) ≤ (k : Int) := by omega
      obtain ⟨rfl, hbB, d0'⟩ := hRc.out k hlt
      have d0 := ((hW.mono hB).cell (p := ⟨b, o + k, none⟩) hbB).trans d0'
      clear d0'
      obtain ⟨hx1, hx2⟩ := hx k
      obtain ⟨v, hv⟩ : ∃ v, xs.getD k 0 = v := ⟨_, rfl⟩
      have Hv := hide hv
      rw [hv] at d0 hx1 hx2
      have hTw := hT.below (hW.mono hB)
      have a1 := hTw.top m hpt
      have a2 := hTw.top k (by omega)
      have a3 := hTw.row m k hpt (by omega)
      have a4 := hTw.row k m (by omega) hpt
      have s1 := hS m k hpt (by omega)
      have s2 := hS k m (by omega) hpt
      obtain ⟨tp, htp⟩ : ∃ v, T m k = v := ⟨_, rfl⟩
      obtain ⟨tk, htk⟩ : ∃ v, T k m = v := ⟨_, rfl⟩
      rw [htp] at a3 s1
      rw [htk] at a4 s2
      have Htp := hide htp
      have Htk := hide htk
      unfold Far at s1 s2
      obtain ⟨s11, s12⟩ := s1
      obtain ⟨s21, s22⟩ := s2
      have S12 := hide s12
      have S22 := hide s22
      clear hv htp htk hx hS hT hTw habs s12 s22
      have HF : Hid (∀ lo' hi' : Int, lo' = (if tp < 100000 then max lo (v - tp) else lo) → hi' = (if tk < 100000 then min hi (v + tk) else hi) → nwTo T xs m (k + 1) = (lo', hi')) := by
        intro lo' hi' h1 h2
        rw [nwTo_step Hw.out Hv.out]
        unfold nwAt Far
        rw [Htp.out, Htk.out, h1, h2]
      by_cases g1 : tp < 100000
      · have q1 : -600 ≤ tp ∧ tp ≤ 600 := S12.out g1
        obtain ⟨q11, q12⟩ := q1
        go_upto_region 7 with fail
        go_region
        by_cases g2 : tk < 100000
        · have q2 : -600 ≤ tk ∧ tk ≤ 600 := S22.out g2
          obtain ⟨q21, q22⟩ := q2
          go_upto_region 9 with fail
          all_goals
            go_region
            go_wp2_with fail
            all_goals
              go_roundg (m - (k + 1))
              case measure => go_light; omega
              case rel =>
                go_light
                refine ⟨k + 1, _, _, by omega, rfl, rfl, rfl, by go_num, HF.out _ _ ?_ ?_, bthen hW (by go_grown)⟩
                · (repeat' split) <;> omega
                · (repeat' split) <;> omega
        · skip
          go_wp2_with fail
          all_goals
            go_roundg (m - (k + 1))
            case measure => go_light; omega
            case rel =>
              go_light
              refine ⟨k + 1, _, _, by omega, rfl, rfl, rfl, by go_num, HF.out _ _ ?_ ?_, bthen hW (by go_grown)⟩
              · (repeat' split) <;> omega
              · (repeat' split) <;> omega
      · by_cases g2 : tk < 100000
        · have q2 : -600 ≤ tk ∧ tk ≤ 600 := S22.out g2
          obtain ⟨q21, q22⟩ := q2
          go_upto_region 9 with fail
          all_goals
            go_region
            go_wp2_with fail
            all_goals
              go_roundg (m - (k + 1))
              case measure => go_light; omega
              case rel =>
                go_light
                refine ⟨k + 1, _, _, by omega, rfl, rfl, rfl, by go_num, HF.out _ _ ?_ ?_, bthen hW (by go_grown)⟩
                · (repeat' split) <;> omega
                · (repeat' split) <;> omega
        · skip
          go_wp2_with fail
          all_goals
            go_roundg (m - (k + 1))
            case measure => go_light; omega
            case rel =>
              go_light
              refine ⟨k + 1, _, _, by omega, rfl, rfl, rfl, by go_num, HF.out _ _ ?_ ?_, bthen hW (by go_grown)⟩
              · (repeat' split) <;> omega
              · (repeat' split) <;> omega
    · obtain rfl : k = m := by omega
      go_wp2_with fail
      go_ret2
      rw [Hw.out]
      exact ⟨rfl, hW⟩

set_option maxHeartbeats 2000000 in
set_option maxRecDepth 100000 in
theorem sStartOk0_c (p : Pl) (A Az : Option Addr) (b o c cz B : Nat) (w : World) (hn : p.bs.length ≤ 2000000) (hB : B ≤ w.heap.size) (hR : BdsR w B b o A p.bs) :
    Calls Try.prog 127 #[.agg #[.int .i64 p.n, .slice A p.bs.length c], .slice Az 0 cz] w fun e w' => e = .returned (.bool (fits p)) ∧ Below w.heap.size w w' := by
  have hD := po_new (t := 32) (n := p.n) (c := c) (Below.refl w.heap.size w) (hR.more hB)
  clear hR hB
  cases hf : fits p
  · have Hf := hide hf
    clear hf
    go_enter Try.func127, Try.ntmps127
    go_upto_region 1 with fail
    generalize w.alloc (.cells #[.int .i64 p.n, .slice A p.bs.length c] 32) = W at hD ⊢
    have p0 := hD.c0
    have p1 := hD.c1
    go_wp2_with (go_at_call 80; go_fit (sFitsOk_c p A b o c _ _ hn (Nat.le_refl _) hD.rd); rintro e w2 ⟨rfl, hb⟩; rw [Hf.out]; replace hD := hD.below hb)
    go_ret
    exact ⟨rfl, hD.bel⟩
  · have hp := planOk_of_fits hf
    have hz : ¬ p.n < 0 := by have := (planOk_iff.1 hp).1; omega
    have Hf := hide hf
    have Hp := hide hp
    clear hf hp
    go_enter Try.func127, Try.ntmps127
    go_upto_region 1 with fail
    generalize w.alloc (.cells #[.int .i64 p.n, .slice A p.bs.length c] 32) = W at hD ⊢
    have p0 := hD.c0
    have p1 := hD.c1
    go_upto_region 5 with (first
      | (go_at_call 80; go_fit (sFitsOk_c p A b o c _ _ hn (Nat.le_refl _) hD.rd); rintro e w2 ⟨rfl, hb⟩; rw [Hf.out]; replace hD := hD.below hb; clear p0 p1; have p0 := hD.c0; have p1 := hD.c1)
      | (go_at_call 116; go_fit (sClosed_c p A b o c _ _ Hp.out (Nat.le_refl _) hD.rd); rintro e w3 ⟨ob, c4, rb, rc, rfl, hT, hb⟩; replace hD := hD.below hb))
    go_loopg [6] 0 (fun gh s wr => s = .int .i64 0 ∧ Below w.heap.size w wr)
    case atStart => exact ⟨rfl, hD.bel⟩
    case round =>
      obtain ⟨rfl, hW⟩ := hrel
      go_wp2_with fail
      go_ret
      exact ⟨rfl, hW⟩

set_option maxHeartbeats 4000000 in
set_option maxRecDepth 100000 in
theorem sEndedFrom0_q (p : Pl) (ys : List Int) (r : Bool) (h : timesFor p = (ys, r)) (A Az : Option Addr) (b o c cz B : Nat) (w : World) (hn : p.bs.length ≤ 2000000) (hB : B ≤ w.heap.size) (hR : BdsR w B b o A p.bs) :
    Calls Try.prog 102 #[.agg #[.int .i64 p.n, .slice A p.bs.length c], .slice Az 0 cz] w fun e w' => ∃ A1 c1, e = .returned (.tuple #[.slice A1 ys.length c1, .bool r]) ∧ OwnI w.heap.size w' (.slice A1 ys.length c1) ys ∧ Below w.heap.size w w' := by
  have hD := po_new (t := 32) (n := p.n) (c := c) (Below.refl w.heap.size w) (hR.more hB)
  clear hR hB
  cases hf : fits p
  · have hq : ys = [] ∧ r = false := by unfold timesFor at h; rw [hf] at h; simpa [eq_comm] using h
    obtain ⟨rfl, rfl⟩ := hq
    have Hf := hide hf
    clear hf h
    go_enter Try.func102, Try.ntmps102
    go_upto_region 1 with fail
    generalize w.alloc (.cells #[.int .i64 p.n, .slice A p.bs.length c] 32) = W at hD ⊢
    have p0 := hD.c0
    have p1 := hD.c1
    go_wp2_with (go_at_call 127; go_fit (sStartOk0_c p A Az b o c cz _ _ hn (Nat.le_refl _) hD.rd); rintro e w2 ⟨rfl, hb⟩; rw [Hf.out]; replace hD := hD.below hb)
    go_ret2
    exact ⟨some ⟨w2.heap.size, 0, none⟩, 0, rfl, own_empty (at_new rfl) hD.bel.size, (hD.alloc _).bel⟩
  · have hp := planOk_of_fits hf
    obtain ⟨hn6, hn1, hnn⟩ := nn_ok hp
    have hS := small_clT hf
    have hq : endT (clT p) (nn p) [] = ys ∧ r = true := by unfold timesFor at h; rw [hf, if_pos rfl] at h; exact ⟨(Prod.mk.inj h).1, (Prod.mk.inj h).2.symm⟩
    obtain ⟨hys, rfl⟩ := hq
    obtain ⟨i0, hi0, hz0, hz1, hz2⟩ := info_parts infoI
    have Hf := hide hf
    have Hp := hide hp
    have Hys := hide hys
    have Hnn : Hid (p.n = (nn p : Int)) := by unfold Hid; omega
    clear hf h hp hys
    go_enter Try.func102, Try.ntmps102
    go_upto_region 1 with fail
    generalize w.alloc (.cells #[.int .i64 p.n, .slice A p.bs.length c] 32) = W at hD ⊢
    have p0 := hD.c0
    have p1 := hD.c1
    go_upto_region 4 with (first
      | (go_at_call 127; go_fit (sStartOk0_c p A Az b o c cz _ _ hn (Nat.le_refl _) hD.rd); rintro e w2 ⟨rfl, hb⟩; rw [Hf.out]; replace hD := hD.below hb; clear p0 p1; have p0 := hD.c0; have p1 := hD.c1)
      | (go_at_call 116; go_fit (sClosed_c p A b o c _ _ Hp.out (Nat.le_refl _) hD.rd); rintro e w3 ⟨ob, c4, rb, rc, rfl, hT, hb⟩; replace hD := hD.below hb))
    clear hb p0 p1
    have hws := hD.bel.size
    have hDl := hD.ex
    go_upto_region 6 with (at_builtin; refine app_list _ rfl (.tmp 18) (.tmp 19) _ rfl w3.heap.size 3 i0 _ 1 8 Try.underlying28 hi0 hz0 hz1 hz2 rfl (by omega) (.slice (some ⟨w3.heap.size, 0, none⟩) 0 0) 0 [] rfl (own_empty (at_new rfl) (Nat.le_refl _)) Az 0 cz [] rfl rfl (by intro h; omega) (by simp) (by omega) (by omega) (by simp only [World.size_alloc]; omega) ?_; intro A4 c4b w4 hown4 hg4 hat4)
    simp only [Nat.add_zero, List.append_nil] at hown4
    have hWb : Below w3.heap.size w3 w4 := below_app (show Below w3.heap.size w3 (w3.alloc (.cells #[] 3)) by go_grown) (own_empty (size := 1) (at_new rfl) (Nat.le_refl _)) hg4 (Nat.le_refl _) (by simp only [World.size_alloc]; omega)
    clear hg4 hat4
    go_loopg [7, 8] (nn p) (fun gh s s2 wr => ∃ (xs : List Int) (A1 : Option Addr) (c1 : Nat), xs.length ≤ nn p ∧ gh = nn p - xs.length ∧ s = .slice A1 xs.length c1 ∧ s2 = .int .i64 xs.length ∧ Hid (endT (clT p) (nn p - xs.length) xs = ys) ∧ Hid (AbsTo xs (600 * xs.length)) ∧ Below w3.heap.size w3 wr ∧ OwnI w3.heap.size wr (.slice A1 xs.length c1) xs)
    case atStart => exact ⟨[], A4, c4b, Nat.zero_le _, rfl, rfl, rfl, Hys, fun i => by simp, hWb, hown4⟩
    case round =>
      clear hWb hown4
      obtain ⟨xs, A1, c1, hk, rfl, rfl, rfl, HE, Hx, hW, hown⟩ := hrel
      have p0 := ((bcell hW).1 _ 0 hDl).trans hD.c0
      by_cases hlt : xs.length < nn p
      · have hz : (xs.length : Int) < p.n := by have := Hnn.out; omega
        obtain ⟨v, hv⟩ : ∃ v, nextT (clT p) xs = v := ⟨_, rfl⟩
        have hva := nextT_abs hS Hx.out (by omega) (by omega) hlt
        rw [hv] at hva
        have hl2 : (xs ++ [v]).length = xs.length + 1 := by simp
        have HE2 : Hid (endT (clT p) (nn p - (xs.length + 1)) (xs ++ [v]) = ys) := by
          unfold Hid
          rw [← HE.out, show nn p - xs.length = (nn p - (xs.length + 1)) + 1 by omega, endT, hv]
        have Hx2 : Hid (AbsTo (xs ++ [v]) (600 * (xs.length + 1 : Nat))) := by
          have h := absTo_next Hx.out (by omega) hva
          intro i
          have := h i
          omega
        have hab := nwTo_abs hS Hx.out (by omega) (by omega) hlt xs.length (by omega)
        obtain ⟨lo, hi, hwe⟩ : ∃ lo hi, nwTo (clT p) xs xs.length xs.length = (lo, hi) := ⟨_, _, rfl⟩
        have HvE : Hid (v = if -100000 < lo then lo else if hi < 100000 then hi else 0) := by unfold Hid; rw [← hv]; unfold nextT; rw [hwe]
        rw [hwe] at hab
        dsimp only at hab
        obtain ⟨hlo, hhi⟩ := hab
        have Hl2 := hide hl2
        have HwE := hide hwe
        clear hv hl2 hwe
        obtain ⟨g1, hrd⟩ := own_IntsR hown
        have hTr := (hT.below hW).more hW.size
        have hM : (0 : Int) ≤ 600 * (xs.length : Int) ∧ 600 * (xs.length : Int) ≤ 10000 := by omega
        have hWs := hW.size
        by_cases g1' : -100000 < lo
        · have e : v = lo := by rw [HvE.out, if_pos g1']
          subst e
          go_wp2_with (first
            | (go_at_call 128; go_fit (l4Window_c (nn p) ob (clT p) rb rc c4 xs (600 * xs.length) A1 g1 0 c1 _ _ (by omega) hlt (Nat.le_refl _) hrd hTr hS Hx.out hM.1 hM.2); rintro e wl ⟨rfl, hbl⟩; rw [HwE.out]; dsimp only; replace hW := bthen hW hbl; replace hown := own_below hown hbl; have hWs := hW.size; clear p0; have p0 := ((bcell hW).1 _ 0 hDl).trans hD.c0)
            | (at_builtin; refine app_list _ rfl (.tmp 42) (.tmp 44) _ rfl w3.heap.size 3 i0 _ 1 8 Try.underlying28 hi0 hz0 hz1 hz2 rfl (by omega) (.slice A1 xs.length c1) xs.length (xs.map (Value.int .i64)) rfl (hown.alloc _) _ 1 _ [.int .i64 v] rfl rfl (NewsAt.block (cs := #[.int .i64 v]) (at_new rfl)) (by simp [Value.oneCell']) (by omega) (by omega) (by simp only [World.size_alloc]; omega) ?_; intro A5 c5 w5 hown5 hg5 hat5))
          have hW5 : Below w3.heap.size w3 w5 := below_app (bthen hW (show Below wl.heap.size wl (wl.alloc (.cells #[.int .i64 v] 3)) by go_grown)) (hown.alloc (.cells #[.int .i64 v] 3)) hg5 (Nat.le_refl _) (by simp only [World.size_alloc]; omega)
          go_roundg (nn p - (xs.length + 1))
          case measure => go_light; omega
          case rel =>
            go_light
            have hl2 := Hl2.out
            exact ⟨xs ++ [v], A5, c5, by omega, by rw [hl2], by rw [hl2], by rw [hl2]; first | rfl | (congr 1), by rw [hl2]; exact HE2, by rw [hl2]; exact Hx2, hW5, by unfold OwnI; rw [hl2, List.map_append]; exact hown5⟩
        · by_cases g2' : hi < 100000
          · have e : v = hi := by rw [HvE.out, if_neg g1', if_pos g2']
            subst e
            go_wp2_with (first
              | (go_at_call 128; go_fit (l4Window_c (nn p) ob (clT p) rb rc c4 xs (600 * xs.length) A1 g1 0 c1 _ _ (by omega) hlt (Nat.le_refl _) hrd hTr hS Hx.out hM.1 hM.2); rintro e wl ⟨rfl, hbl⟩; rw [HwE.out]; dsimp only; replace hW := bthen hW hbl; replace hown := own_below hown hbl; have hWs := hW.size; clear p0; have p0 := ((bcell hW).1 _ 0 hDl).trans hD.c0)
              | (at_builtin; refine app_list _ rfl (.tmp 49) (.tmp 51) _ rfl w3.heap.size 3 i0 _ 1 8 Try.underlying28 hi0 hz0 hz1 hz2 rfl (by omega) (.slice A1 xs.length c1) xs.length (xs.map (Value.int .i64)) rfl (hown.alloc _) _ 1 _ [.int .i64 v] rfl rfl (NewsAt.block (cs := #[.int .i64 v]) (at_new rfl)) (by simp [Value.oneCell']) (by omega) (by omega) (by simp only [World.size_alloc]; omega) ?_; intro A5 c5 w5 hown5 hg5 hat5))
            have hW5 : Below w3.heap.size w3 w5 := below_app (bthen hW (show Below wl.heap.size wl (wl.alloc (.cells #[.int .i64 v] 3)) by go_grown)) (hown.alloc (.cells #[.int .i64 v] 3)) hg5 (Nat.le_refl _) (by simp only [World.size_alloc]; omega)
            go_roundg (nn p - (xs.length + 1))
            case measure => go_light; omega
            case rel =>
              go_light
              have hl2 := Hl2.out
              exact ⟨xs ++ [v], A5, c5, by omega, by rw [hl2], by rw [hl2], by rw [hl2]; first | rfl | (congr 1), by rw [hl2]; exact HE2, by rw [hl2]; exact Hx2, hW5, by unfold OwnI; rw [hl2, List.map_append]; exact hown5⟩
          · have e : v = 0 := by rw [HvE.out, if_neg g1', if_neg g2']
            subst e
            go_wp2_with (first
              | (go_at_call 128; go_fit (l4Window_c (nn p) ob (clT p) rb rc c4 xs (600 * xs.length) A1 g1 0 c1 _ _ (by omega) hlt (Nat.le_refl _) hrd hTr hS Hx.out hM.1 hM.2); rintro e wl ⟨rfl, hbl⟩; rw [HwE.out]; dsimp only; replace hW := bthen hW hbl; replace hown := own_below hown hbl; have hWs := hW.size; clear p0; have p0 := ((bcell hW).1 _ 0 hDl).trans hD.c0)
              | (at_builtin; refine app_list _ rfl (.tmp 36) (.tmp 37) _ rfl w3.heap.size 3 i0 _ 1 8 Try.underlying28 hi0 hz0 hz1 hz2 rfl (by omega) (.slice A1 xs.length c1) xs.length (xs.map (Value.int .i64)) rfl (hown.alloc _) _ 1 _ [.int .i64 (0 : Int)] rfl rfl (NewsAt.block (cs := #[.int .i64 (0 : Int)]) (at_new rfl)) (by simp [Value.oneCell']) (by omega) (by omega) (by simp only [World.size_alloc]; omega) ?_; intro A5 c5 w5 hown5 hg5 hat5))
            have hW5 : Below w3.heap.size w3 w5 := below_app (bthen hW (show Below wl.heap.size wl (wl.alloc (.cells #[.int .i64 (0 : Int)] 3)) by go_grown)) (hown.alloc (.cells #[.int .i64 (0 : Int)] 3)) hg5 (Nat.le_refl _) (by simp only [World.size_alloc]; omega)
            go_roundg (nn p - (xs.length + 1))
            case measure => go_light; omega
            case rel =>
              go_light
              have hl2 := Hl2.out
              exact ⟨xs ++ [(0 : Int)], A5, c5, by omega, by rw [hl2], by rw [hl2], by rw [hl2]; first | rfl | (congr 1), by rw [hl2]; exact HE2, by rw [hl2]; exact Hx2, hW5, by unfold OwnI; rw [hl2, List.map_append]; exact hown5⟩
      · have he : Hid (xs = ys) := by
          unfold Hid
          rw [← HE.out, show nn p - xs.length = 0 by omega]; rfl
        have hz : ¬ (xs.length : Int) < p.n := by have := Hnn.out; omega
        go_wp2_with fail
        go_ret2
        have e := he.out
        subst e
        exact ⟨A1, c1, rfl, own_less hown hws, hD.bel.trans (hW.mono hws)⟩

end Go.Proofs.Ytledgblepdjjlaa
