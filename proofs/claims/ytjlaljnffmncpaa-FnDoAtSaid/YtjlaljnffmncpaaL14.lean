/-
  impl: states of a plan: isClock, open, StateOk, window, ready.
-/
import Derived.Test.YtjlaljnffmncpaaE4
import Derived.Test.YtjlaljnffmncpaaL5
import Derived.Test.YtjlaljnffmncpaaP10
namespace Go.Proofs.Ytjlaljnffmncpaa
set_option linter.unusedVariables false
set_option linter.unusedSimpArgs false
open Go.RowKit Pp

theorem isClock_c (t : Int) (w : World) : Calls Try.prog 135 #[.int .i64 t] w fun e w' => e = .returned (.bool (inB t 0 2000)) ∧ w = w' := by
  go_enter Try.func135, Try.ntmps135
  go_wp2_with (go_at_call 93; go_fit (in_c t 0 2000 _); rintro e w2 ⟨rfl, rfl⟩)
  go_ret
  exact ⟨rfl, rfl⟩

theorem stOpen_c (now pt : Int) (xs : List Int) (A : Option Addr) (b o c B : Nat) (w : World) (hl : xs.length ≤ 2000000) (hB : B ≤ w.heap.size) (hR : IntsR w B b o A xs) :
    Calls Try.prog 156 #[.agg #[.int .i64 now, .slice A xs.length c], .int .i64 pt] w fun e w' => e = .returned (.bool (openB xs pt)) ∧ Below w.heap.size w w' := by
  have hW : Below w.heap.size w (w.alloc (.cells #[.int .i64 now, .slice A xs.length c] 70)) := by go_grown
  cases h1 : inB pt 0 ((xs.length : Int) - 1)
  · have e : openB xs pt = false := by unfold openB; rw [h1]; rfl
    rw [e]
    have H1 := hide h1
    clear h1 e
    go_enter Try.func156, Try.ntmps156
    go_wp2_with (go_at_call 93; go_fit (in_c pt 0 ((xs.length : Int) - 1) _); rintro e w2 ⟨rfl, rfl⟩; rw [H1.out])
    go_ret
    exact ⟨rfl, hW⟩
  · obtain ⟨p1, p2⟩ := inB_iff.1 h1
    obtain ⟨k, rfl⟩ : ∃ k : Nat, pt = (k : Int) := ⟨pt.toNat, by omega⟩
    have hk : k < xs.length := by omega
    have hk' : (k : Int) < (xs.length : Int) := by omega
    have e : openB xs (k : Int) = (xs.getD k 0 == -1) := by unfold openB; rw [h1, Int.toNat_natCast, Bool.eq_iff_iff]; simp
    rw [e]
    have H1 := hide h1
    have hR2 := hR.below (hW.mono hB)
    obtain rfl := hR.addr (by omega)
    have d0 := hR2.cell k hk
    clear h1 e hR hR2 p1 p2
    generalize xs.getD k 0 = x at d0 ⊢
    go_enter Try.func156, Try.ntmps156
    go_wp2_with (go_at_call 93; go_fit (in_c (k : Int) 0 ((xs.length : Int) - 1) _); rintro e w2 ⟨rfl, rfl⟩; rw [H1.out])
    go_ret
    exact ⟨rfl, hW⟩

set_option maxHeartbeats 2000000 in
set_option maxRecDepth 100000 in
theorem window_c (n ob : Nat) (T : Tb) (rb rc : Nat → Nat) (ct pt : Nat) (xs : List Int) (now : Int) (A : Option Addr) (b o c B : Nat) (w : World) (hn : n ≤ 1000) (hl : xs.length = n) (hpt : pt < n) (hB : B ≤ w.heap.size)
    (hR : IntsR w B b o A xs) (hT : TabR w B ob rb rc n T) (hS : Small n T) (hnow : 0 ≤ now ∧ now ≤ 2000) (hx : ∀ x ∈ xs, -1 ≤ x ∧ x ≤ now) :
    Calls Try.prog 157 #[.agg #[.int .i64 now, .slice A xs.length c], .slice (some ⟨ob, 0, none⟩) n ct, .int .i64 pt] w fun e w' =>
      e = .returned (.tuple #[.int .i64 (winTo T xs now pt n).1, .int .i64 (winTo T xs now pt n).2]) ∧ Below w.heap.size w w' := by
  have hW : Below w.heap.size w (w.alloc (.cells #[.int .i64 now, .slice A xs.length c] 70)) := by go_grown
  have hR2 := (hR.below (hW.mono hB)).more (Nat.le_trans hB hW.size)
  have hT2 := (hT.below (hW.mono hB)).more (Nat.le_trans hB hW.size)
  have habs := winTo_abs hS hl hnow hx hpt
  rw [hl] at hW hR2 hT2 ⊢
  obtain rfl := hR.addr (by omega)
  clear hT hR
  obtain ⟨hnow1, hnow2⟩ := hnow
  go_enter Try.func157, Try.ntmps157
  go_wp2_with fail
  generalize w.alloc (.cells #[.int .i64 now, .slice (some ⟨b, o, none⟩) n c] 70) = W at *
  go_loopg [8, 9, 17] n (fun gh s8 s9 s17 wr => ∃ (k : Nat) (lo hi : Int), k ≤ n ∧ gh = n - k ∧ s8 = .int .i64 lo ∧ s9 = .int .i64 hi ∧ s17 = .int .i64 k ∧ Hid (winTo T xs now pt k = (lo, hi)) ∧ wr = W)
  case atStart => exact ⟨0, now, 100000, Nat.zero_le _, rfl, rfl, rfl, rfl, rfl, rfl⟩
  case round =>
    obtain ⟨k, lo, hi, hk, rfl, rfl, rfl, rfl, Hw, rfl⟩ := hrel
    have hab := habs k hk
    rw [Hw.out] at hab
    dsimp only at hab
    obtain ⟨⟨lo1, lo2⟩, hi1, hi2⟩ := hab
    by_cases hlt : k < n
    · have hz : (k : Int) < (n : Int) := by omega
      have hpz : (pt : Int) < (n : Int) := by omega
      have hk2 : k < xs.length := by omega
      have d0 := hR2.cell k hk2
      have hx0 : -1 ≤ xs.getD k 0 ∧ xs.getD k 0 ≤ now := by
        have e : xs.getD k 0 = xs[k] := by rw [List.getD_eq_getElem?_getD, List.getElem?_eq_getElem hk2]; rfl
        rw [e]; exact hx _ (List.getElem_mem hk2)
      obtain ⟨v, hv⟩ : ∃ v, xs.getD k 0 = v := ⟨_, rfl⟩
      have Hv := hide hv
      rw [hv] at d0 hx0
      obtain ⟨hx1, hx2⟩ := hx0
      have a1 := hT2.top pt hpt
      have a2 := hT2.top k hlt
      have a3 := hT2.row pt k hpt hlt
      have a4 := hT2.row k pt hlt hpt
      have s1 := hS pt k hpt hlt
      have s2 := hS k pt hlt hpt
      obtain ⟨tp, htp⟩ : ∃ v, T pt k = v := ⟨_, rfl⟩
      obtain ⟨tk, htk⟩ : ∃ v, T k pt = v := ⟨_, rfl⟩
      rw [htp] at a3 s1
      rw [htk] at a4 s2
      have Htp := hide htp
      have Htk := hide htk
      unfold Far at s1 s2
      clear hv htp htk hx hS hT2 hR2 habs hl hk2
      have fin : ∀ lo' hi' : Int, winAt T pt (lo, hi) k v = (lo', hi') → Hid (winTo T xs now pt (k + 1) = (lo', hi')) := fun lo' hi' h => by unfold Hid; rw [winTo_step Hw.out Hv.out]; exact h
      have HF := hide fin
      clear fin
      by_cases g0 : v = -1
      · have g0' : (v == -1) = true := by simp [g0]
        have Hg : Hid (winAt T pt (lo, hi) k v = (lo, hi)) := by unfold Hid winAt; rw [if_pos g0]
        clear g0
        go_wp2_with fail
        go_roundg (n - (k + 1))
        case measure => go_light; omega
        case rel => go_light; exact ⟨k + 1, lo, hi, by omega, rfl, rfl, rfl, by go_num, HF.out _ _ Hg.out, rfl⟩
      · have Hg : Hid (∀ lo' hi', lo' = (if tp < 100000 then max lo (v - tp) else lo) → hi' = (if tk < 100000 then min hi (v + tk) else hi) → winAt T pt (lo, hi) k v = (lo', hi')) := by
          intro lo' hi' h1 h2
          unfold winAt Far
          rw [if_neg g0, Htp.out, Htk.out, h1, h2]
        by_cases g1 : tp < 100000 <;> by_cases g2 : tk < 100000
        all_goals
          first | (have k1 : (tp == 100000) = false := by simp; omega) | (have k1 : (tp == 100000) = true := by simp; omega)
          first | (have k2 : (tk == 100000) = false := by simp; omega) | (have k2 : (tk == 100000) = true := by simp; omega)
          go_wp2_with fail
          all_goals
            go_roundg (n - (k + 1))
            case measure => go_light; omega
            case rel =>
              go_light
              refine ⟨k + 1, _, _, by omega, rfl, rfl, rfl, by go_num, HF.out _ _ (Hg.out _ _ ?_ ?_), rfl⟩
              · split <;> omega
              · split <;> omega
    · obtain rfl : k = n := by omega
      go_wp2_with fail
      go_ret2
      rw [Hw.out]
      exact ⟨rfl, hW⟩

theorem openB_at {xs : List Int} {k : Nat} (hk : k < xs.length) : openB xs (k : Int) = decide (xs.getD k 0 = -1) := by
  unfold openB
  rw [inB_iff.2 ⟨by omega, by omega⟩, Int.toNat_natCast]; rfl

set_option maxHeartbeats 2000000 in
set_option maxRecDepth 100000 in
theorem ready_c (n ob : Nat) (T : Tb) (rb rc : Nat → Nat) (ct pt : Nat) (xs : List Int) (now : Int) (A : Option Addr) (b o c B : Nat) (w : World) (hn : n ≤ 1000) (hl : xs.length = n) (hpt : pt < n) (hB : B ≤ w.heap.size)
    (hR : IntsR w B b o A xs) (hT : TabR w B ob rb rc n T) :
    Calls Try.prog 158 #[.agg #[.int .i64 now, .slice A xs.length c], .slice (some ⟨ob, 0, none⟩) n ct, .int .i64 pt] w fun e w' =>
      e = .returned (.bool (rdyTo T xs pt n)) ∧ Below w.heap.size w w' := by
  have hW : Below w.heap.size w (w.alloc (.cells #[.int .i64 now, .slice A xs.length c] 70)) := by go_grown
  have hS := rs_new (t := 70) (n := now) (c := c) (hR.more hB)
  obtain ⟨r, hr⟩ : ∃ r, rdyTo T xs pt n = r := ⟨_, rfl⟩
  have Hr := hide hr
  rw [hr]
  clear hr
  have Hl := hide hl
  have hl2 : xs.length ≤ 2000000 := by omega
  clear hl
  go_enter Try.func158, Try.ntmps158
  go_wp2_with fail
  generalize w.alloc (.cells #[.int .i64 now, .slice A xs.length c] 70) = W at *
  go_loopg [11] n (fun gh s11 wr => ∃ k : Nat, k ≤ n ∧ gh = n - k ∧ s11 = .int .i64 k ∧ Hid (rdyTo T xs pt k = true) ∧ Below w.heap.size w wr ∧ RS wr w.heap.size b o now A c xs)
  case atStart => exact ⟨0, Nat.zero_le _, rfl, rfl, rfl, hW, hS⟩
  case round =>
    clear hS hW
    obtain ⟨k, hk, rfl, rfl, Hk, hW, hS⟩ := hrel
    have hlen := Hl.out
    by_cases hlt : k < n
    · have hz : (k : Int) < (xs.length : Int) := by omega
      have hpz : (pt : Int) < (n : Int) := by omega
      have c0 := hS.c0
      have c1 := hS.c1
      have a1 := ((hT.below (hW.mono hB)).top pt hpt)
      have a3 := ((hT.below (hW.mono hB)).row pt k hpt hlt)
      have hb1 : ob < wr.heap.size := Nat.lt_of_lt_of_le hT.lt1 (Nat.le_trans hB hW.size)
      have hb2 : rb pt < wr.heap.size := Nat.lt_of_lt_of_le (hT.lt2 pt hpt) (Nat.le_trans hB hW.size)
      have hop := openB_at (xs := xs) (k := k) (by omega)
      obtain ⟨tp, htp⟩ : ∃ v, T pt k = v := ⟨_, rfl⟩
      rw [htp] at a3
      have Htp := hide htp
      clear htp
      clear hlen
      by_cases g0 : xs.getD k 0 = -1
      · rw [decide_eq_true g0] at hop
        have Hop := hide hop
        have G0 := hide g0
        clear hop g0
        by_cases g1 : tp < 0
        · go_wp2_with (go_at_call 156; go_fit (stOpen_c now (k : Int) xs A b o c _ _ hl2 (Nat.le_refl _) hS.rd); rintro e w2 ⟨rfl, hb2⟩; rw [Hop.out]; have hW2 := bthen hW hb2; have a1' := ((bcell hb2).1 _ _ (by assumption)).trans a1; have a3' := ((bcell hb2).1 _ _ (by assumption)).trans a3)
          go_ret
          have e : r = false := by rw [← Hr.out]; exact rdyTo_no hlt G0.out (by rw [Htp.out]; exact g1)
          subst e
          exact ⟨rfl, hW2⟩
        · go_wp2_with (go_at_call 156; go_fit (stOpen_c now (k : Int) xs A b o c _ _ hl2 (Nat.le_refl _) hS.rd); rintro e w2 ⟨rfl, hb2⟩; rw [Hop.out]; have hW2 := bthen hW hb2; have hS2 := hS.below hb2; have a1' := ((bcell hb2).1 _ _ (by assumption)).trans a1; have a3' := ((bcell hb2).1 _ _ (by assumption)).trans a3)
          go_roundg (n - (k + 1))
          case measure => go_light; omega
          case rel => go_light; exact ⟨k + 1, by omega, rfl, by go_num, by unfold Hid rdyTo; rw [Hk.out, Htp.out, decide_eq_false (p := tp < 0) (by omega)]; simp, hW2, hS2⟩
      · rw [decide_eq_false g0] at hop
        have Hop := hide hop
        have G0 := hide g0
        clear hop g0
        go_wp2_with (go_at_call 156; go_fit (stOpen_c now (k : Int) xs A b o c _ _ hl2 (Nat.le_refl _) hS.rd); rintro e w2 ⟨rfl, hb2⟩; rw [Hop.out]; have hW2 := bthen hW hb2; have hS2 := hS.below hb2)
        go_roundg (n - (k + 1))
        case measure => go_light; omega
        case rel => go_light; exact ⟨k + 1, by omega, rfl, by go_num, by unfold Hid rdyTo; rw [Hk.out, decide_eq_false G0.out]; simp, hW2, hS2⟩
    · obtain rfl : k = n := by omega
      have hz : ¬ (k : Int) < (xs.length : Int) := by omega
      clear hlen
      go_wp2_with fail
      go_ret
      have e : r = true := by rw [← Hr.out]; exact Hk.out
      subst e
      exact ⟨rfl, hW⟩

/-- A plan and a state in two boxes of the call's own. -/
structure DB (w0 W : World) (b o : Nat) (n : Int) (A : Option Addr) (c : Nat) (bs : List Bd) (b' o' : Nat) (now : Int) (A' : Option Addr) (c' : Nat) (xs : List Int) : Prop where
  bel : Below w0.heap.size w0 W
  p : RP W w0.heap.size b o n A c bs
  s : RS W (w0.heap.size + 1) b' o' now A' c' xs
section
variable {w0 W W' : World} {b o : Nat} {n : Int} {A : Option Addr} {c : Nat} {bs : List Bd} {b' o' : Nat} {now : Int} {A' : Option Addr} {c' : Nat} {xs : List Int}
theorem DB.below (h : DB w0 W b o n A c bs b' o' now A' c' xs) (hb : Below W.heap.size W W') : DB w0 W' b o n A c bs b' o' now A' c' xs := ⟨bthen h.bel hb, h.p.below hb, h.s.below hb⟩
theorem DB.alloc (h : DB w0 W b o n A c bs b' o' now A' c' xs) (x : Obj) : DB w0 (W.alloc x) b o n A c bs b' o' now A' c' xs := h.below (by go_grown)
theorem DB.drew (h : DB w0 W b o n A c bs b' o' now A' c' xs) : DB w0 W.drew b o n A c bs b' o' now A' c' xs := h.below (by go_grown)
theorem db_new {t t' : TypeId} {B : Nat} (hB : B ≤ w0.heap.size) (hR : BdsR w0 B b o A bs) (hR' : IntsR w0 B b' o' A' xs) :
    DB w0 ((w0.alloc (.cells #[.int .i64 n, .slice A bs.length c] t)).alloc (.cells #[.int .i64 now, .slice A' xs.length c'] t')) b o n A c bs b' o' now A' c' xs := by
  have h1 : RP (w0.alloc (.cells #[.int .i64 n, .slice A bs.length c] t)) w0.heap.size b o n A c bs := rp_new (hR.more hB)
  have hb : Below w0.heap.size w0 (w0.alloc (.cells #[.int .i64 n, .slice A bs.length c] t)) := by go_grown
  have h2 : RS ((w0.alloc (.cells #[.int .i64 n, .slice A bs.length c] t)).alloc (.cells #[.int .i64 now, .slice A' xs.length c'] t')) (w0.alloc (.cells #[.int .i64 n, .slice A bs.length c] t)).heap.size b' o' now A' c' xs := rs_new (((hR'.more hB).below hb).more hb.size)
  have e : (w0.alloc (.cells #[.int .i64 n, .slice A bs.length c] t)).heap.size = w0.heap.size + 1 := by simp
  rw [e] at h2
  exact ⟨by go_grown, h1.alloc _, h2⟩
end


set_option maxHeartbeats 1000000 in
set_option maxRecDepth 100000 in
theorem stateOk_c (p : Pl) (s : St) (A A' : Option Addr) (b o c b' o' c' B : Nat) (w : World) (hn : p.bs.length ≤ 2000000) (hn' : s.done.length ≤ 2000000) (hB : B ≤ w.heap.size) (hR : BdsR w B b o A p.bs) (hR' : IntsR w B b' o' A' s.done) :
    Calls Try.prog 64 #[.agg #[.int .i64 p.n, .slice A p.bs.length c], .agg #[.int .i64 s.now, .slice A' s.done.length c']] w fun e w' => e = .returned (.bool (stateOk p s)) ∧ Below w.heap.size w w' := by
  have hD := db_new (t := 25) (t' := 70) (n := p.n) (now := s.now) (c := c) (c' := c') hB hR hR'
  clear hR hR'
  obtain ⟨r, hr⟩ : ∃ r, stateOk p s = r := ⟨_, rfl⟩
  rw [hr]
  have Hr := hide hr
  clear hr
  cases hf : fits p
  · have e : r = false := by rw [← Hr.out]; unfold stateOk; rw [hf]; rfl
    subst e
    have Hf := hide hf
    clear hf
    go_enter Try.func64, Try.ntmps64
    go_upto_region 1 with fail
    generalize (w.alloc (.cells #[.int .i64 p.n, .slice A p.bs.length c] 25)).alloc (.cells #[.int .i64 s.now, .slice A' s.done.length c'] 70) = W at hD ⊢
    have p0 := hD.p.c0
    have p1 := hD.p.c1
    have s0 := hD.s.c0
    have s1 := hD.s.c1
    go_wp2_with (go_at_call 39; go_fit (fitsOk_c p A b o c _ _ hn (Nat.le_refl _) hD.p.rd); rintro e w2 ⟨rfl, hb2⟩; rw [Hf.out]; replace hD := hD.below hb2; clear p0 p1 s0 s1; have p0 := hD.p.c0; have p1 := hD.p.c1; have s0 := hD.s.c0; have s1 := hD.s.c1)
    go_ret
    exact ⟨rfl, hD.bel⟩
  · have hp := planOk_of_fits hf
    obtain ⟨hn6, hn1, hnn⟩ := nn_ok hp
    by_cases hl : (s.done.length : Int) = p.n
    · have hl' : s.done.length = nn p := by omega
      have h0n : 0 < s.done.length := by omega
      cases hc : inB s.now 0 2000
      · have e : r = false := by rw [← Hr.out]; unfold stateOk; rw [hf, hc]; simp
        subst e
        have Hf := hide hf
        have Hc := hide hc
        clear hf hc hp hl'
        go_enter Try.func64, Try.ntmps64
        go_upto_region 1 with fail
        generalize (w.alloc (.cells #[.int .i64 p.n, .slice A p.bs.length c] 25)).alloc (.cells #[.int .i64 s.now, .slice A' s.done.length c'] 70) = W at hD ⊢
        have p0 := hD.p.c0
        have p1 := hD.p.c1
        have s0 := hD.s.c0
        have s1 := hD.s.c1
        go_wp2_with (first
          | (go_at_call 39; go_fit (fitsOk_c p A b o c _ _ hn (Nat.le_refl _) hD.p.rd); rintro e w2 ⟨rfl, hb2⟩; rw [Hf.out]; replace hD := hD.below hb2; clear p0 p1 s0 s1; have p0 := hD.p.c0; have p1 := hD.p.c1; have s0 := hD.s.c0; have s1 := hD.s.c1)
          | (go_at_call 135; go_fit (isClock_c s.now _); rintro e w3 ⟨rfl, rfl⟩; rw [Hc.out]))
        go_ret
        exact ⟨rfl, hD.bel⟩
      · have d0 := hD.s.rd.cell 0 h0n
        have hA := hD.s.rd.addr h0n
        have h0z : (0 : Int) < (s.done.length : Int) := by omega
        subst hA
        by_cases h0 : s.done.getD 0 0 = 0
        · have hr2 : (s.done.all fun x => inB x (-1) s.now) = r := by
            rw [← Hr.out]; unfold stateOk; rw [hf, hc, decide_eq_true hl', decide_eq_true h0]; rfl
          have Hr2 := hide hr2
          have Hf := hide hf
          have Hc := hide hc
          have H0 := hide h0
          clear hf hc hp hl' hr2 d0 h0
          go_enter Try.func64, Try.ntmps64
          go_upto_region 1 with fail
          generalize (w.alloc (.cells #[.int .i64 p.n, .slice A p.bs.length c] 25)).alloc (.cells #[.int .i64 s.now, .slice (some ⟨b', o', none⟩) s.done.length c'] 70) = W at hD ⊢
          have p0 := hD.p.c0
          have p1 := hD.p.c1
          have s0 := hD.s.c0
          have s1 := hD.s.c1
          go_wp2_with (first
            | (go_at_call 39; go_fit (fitsOk_c p A b o c _ _ hn (Nat.le_refl _) hD.p.rd); rintro e w2 ⟨rfl, hb2⟩; rw [Hf.out]; replace hD := hD.below hb2; clear p0 p1 s0 s1; have p0 := hD.p.c0; have p1 := hD.p.c1; have s0 := hD.s.c0; have s1 := hD.s.c1; have d0 := hD.s.rd.cell 0 h0n; rw [H0.out, Nat.add_zero] at d0)
            | (go_at_call 135; go_fit (isClock_c s.now _); rintro e w3 ⟨rfl, rfl⟩; rw [Hc.out])
            | (go_at_call 136; go_fit (allIn_c s.done (-1) s.now _ b' o' c' _ _ hn' (Nat.le_refl _) hD.s.rd); rintro e w3 ⟨rfl, hb3⟩; rw [Hr2.out]; replace hD := hD.below hb3))
          go_ret
          exact ⟨rfl, hD.bel⟩
        · have e : r = false := by rw [← Hr.out]; unfold stateOk; rw [decide_eq_false h0]; simp
          subst e
          have h0' : (s.done.getD 0 0 == 0) = false := by rw [Bool.eq_false_iff]; intro h; exact h0 (by simpa using h)
          have Hf := hide hf
          have Hc := hide hc
          clear hf hc hp hl' d0
          obtain ⟨v, hv⟩ : ∃ v, s.done.getD 0 0 = v := ⟨_, rfl⟩
          rw [hv] at h0 h0'
          have Hv := hide hv
          clear hv
          go_enter Try.func64, Try.ntmps64
          go_upto_region 1 with fail
          generalize (w.alloc (.cells #[.int .i64 p.n, .slice A p.bs.length c] 25)).alloc (.cells #[.int .i64 s.now, .slice (some ⟨b', o', none⟩) s.done.length c'] 70) = W at hD ⊢
          have p0 := hD.p.c0
          have p1 := hD.p.c1
          have s0 := hD.s.c0
          have s1 := hD.s.c1
          go_wp2_with (first
            | (go_at_call 39; go_fit (fitsOk_c p A b o c _ _ hn (Nat.le_refl _) hD.p.rd); rintro e w2 ⟨rfl, hb2⟩; rw [Hf.out]; replace hD := hD.below hb2; clear p0 p1 s0 s1; have p0 := hD.p.c0; have p1 := hD.p.c1; have s0 := hD.s.c0; have s1 := hD.s.c1; have d0 := hD.s.rd.cell 0 h0n; rw [Hv.out, Nat.add_zero] at d0)
            | (go_at_call 135; go_fit (isClock_c s.now _); rintro e w3 ⟨rfl, rfl⟩; rw [Hc.out]))
          go_ret
          exact ⟨rfl, hD.bel⟩
    · have e : r = false := by rw [← Hr.out]; unfold stateOk; rw [decide_eq_false (p := s.done.length = nn p) (by omega)]; simp
      subst e
      have Hf := hide hf
      clear hf hp
      go_enter Try.func64, Try.ntmps64
      go_upto_region 1 with fail
      generalize (w.alloc (.cells #[.int .i64 p.n, .slice A p.bs.length c] 25)).alloc (.cells #[.int .i64 s.now, .slice A' s.done.length c'] 70) = W at hD ⊢
      have p0 := hD.p.c0
      have p1 := hD.p.c1
      have s0 := hD.s.c0
      have s1 := hD.s.c1
      go_wp2_with (go_at_call 39; go_fit (fitsOk_c p A b o c _ _ hn (Nat.le_refl _) hD.p.rd); rintro e w2 ⟨rfl, hb2⟩; rw [Hf.out]; replace hD := hD.below hb2; clear p0 p1 s0 s1; have p0 := hD.p.c0; have p1 := hD.p.c1; have s0 := hD.s.c0; have s1 := hD.s.c1)
      go_ret
      exact ⟨rfl, hD.bel⟩
end Go.Proofs.Ytjlaljnffmncpaa
