/-
  impl: StateNew, step.
  impl: step.
  impl: RunOf.
-/
import Derived.Test.YtjlaljnffmncpaaL15
import Derived.Test.YtjlaljnffmncpaaS3b
import Derived.Test.YtjlaljnffmncpaaP10
namespace Go.Proofs.Ytjlaljnffmncpaa
set_option linter.unusedVariables false
set_option linter.unusedSimpArgs false
open Go.RowKit Pp

theorem RP.set {W : World} {X b o g k : Nat} {n : Int} {A : Option Addr} {c : Nat} {bs : List Bd} {v : Value} (h : RP W X b o n A c bs) (hX : X ≠ g) (hb : 0 < bs.length → b ≠ g) : RP (W.setCell ⟨g, k, none⟩ v) X b o n A c bs :=
  h.grown (grown_set W ⟨g, k, none⟩ v) (fun e => by injection e with e; exact hX e) (fun h0 e => by injection e with e; exact hb h0 e)
theorem ZB.set {w0 W : World} {Y g k : Nat} {v : Value} (h : ZB w0 W Y) (hg : g ≠ Y) : ZB w0 (W.setCell ⟨g, k, none⟩ v) Y := h.grown (grown_set W ⟨g, k, none⟩ v) (fun q hq => by cases hq; exact hg)

set_option maxHeartbeats 4000000 in
set_option maxRecDepth 100000 in
theorem implNew_c (p : Pl) (q : St) (r : Bool) (hq : stateNew p = (q, r)) (A : Option Addr) (b o c B : Nat) (w : World) (hn : p.bs.length ≤ 2000000) (hB : B ≤ w.heap.size) (hR : BdsR w B b o A p.bs) :
    Calls Try.prog 69 #[.agg #[.int .i64 p.n, .slice A p.bs.length c]] w fun e w' =>
      ∃ A1 c1 g1, e = .returned (.tuple #[.agg #[.int .i64 q.now, .slice A1 q.done.length c1], .bool r]) ∧ IntsR w' w'.heap.size g1 0 A1 q.done ∧ OwnI w.heap.size w' (.slice A1 q.done.length c1) q.done ∧ Below w.heap.size w w' := by
  obtain ⟨n, bs⟩ := p
  dsimp only at *
  have hP := (rp_new (t := 25) (n := n) (c := c) (hR.more hB)).alloc (.cells #[.int .i64 0, .slice none 0 0] 70)
  have hZ : ZB w ((w.alloc (.cells #[.int .i64 n, .slice A bs.length c] 25)).alloc (.cells #[.int .i64 0, .slice none 0 0] 70)) (w.heap.size + 1) := by
    have h := zb_new (w0 := w) (W := w.alloc (.cells #[.int .i64 n, .slice A bs.length c] 25)) (t := 70) (by simp)
    simp only [World.size_alloc] at h
    exact h
  have hW : Below w.heap.size w ((w.alloc (.cells #[.int .i64 n, .slice A bs.length c] 25)).alloc (.cells #[.int .i64 0, .slice none 0 0] 70)) := by go_grown
  have hlb : 0 < bs.length → b < w.heap.size := fun h => Nat.lt_of_lt_of_le (hR.lt h) hB
  clear hR
  cases hf : fits ⟨n, bs⟩
  · have e : stateNew ⟨n, bs⟩ = (⟨0, []⟩, false) := by unfold stateNew; rw [hf]; rfl
    rw [e] at hq
    injection hq with e1 e2
    subst e1 e2
    have Hf := hide hf
    clear hf e
    go_enter Try.func69, Try.ntmps69
    go_upto_region 1 with fail
    generalize (w.alloc (.cells #[.int .i64 n, .slice A bs.length c] 25)).alloc (.cells #[.int .i64 0, .slice none 0 0] 70) = W at hP hZ hW ⊢
    have p0 := hP.c0
    have p1 := hP.c1
    generalize w.heap.size + 1 = Y at hZ ⊢
    go_wp2_with (go_at_call 39; go_fit (fitsOk_c ⟨n, bs⟩ A b o c _ _ hn (Nat.le_refl _) hP.rd); rintro e w2 ⟨rfl, hb2⟩; rw [Hf.out]; replace hW := bthen hW hb2; replace hZ := hZ.below hb2; have z0 := hZ.z0; have z1 := hZ.z1; have zf0 := hZ.zf 0; have zf1 := hZ.zf 1)
    obtain ⟨r0, r1, ho, hb7⟩ := hZ.finI (n := 0) (A := none) (c := 0) (xs := []) hW (World.ownsRow_nil _ _ _ _) (by simp [Value.ownBlock])
    simp only [List.length_nil] at r0 r1 ho hb7
    refine bodyPost_ret (v := .tuple #[.agg #[.int .i64 0, .slice none 0 0], .bool false]) (by simp [results, Try.results69, go_sem, r0, r1]) rfl ?_
    exact ⟨none, 0, 0, rfl, IntsR.nil _ _ _, ho, hb7⟩
  · have hnn := nn_ok (planOk_of_fits hf)
    have e : stateNew ⟨n, bs⟩ = (⟨0, 0 :: List.replicate (nn ⟨n, bs⟩ - 1) (-1)⟩, true) := by unfold stateNew; rw [hf]; rfl
    rw [e] at hq
    obtain ⟨m, hm⟩ : ∃ m, nn ⟨n, bs⟩ = m := ⟨_, rfl⟩
    rw [hm] at hnn hq
    obtain ⟨hm6, hm1, hmn⟩ := hnn
    dsimp only at hmn
    obtain rfl : n = (m : Int) := hmn.symm
    obtain ⟨ys, hys⟩ : ∃ ys, (0 : Int) :: List.replicate (m - 1) (-1) = ys := ⟨_, rfl⟩
    have Hlen : Hid (ys.length = m) := by rw [← hys]; unfold Hid; simp; omega
    have Hget : Hid (∀ j, j < m → ys[j]? = some (if j = 0 then 0 else -1)) := by
      intro j hj
      rw [← hys]
      cases j with
      | zero => rfl
      | succ j => rw [List.getElem?_cons_succ, List.getElem?_replicate, if_pos (by omega), if_neg (by omega)]
    rw [hys] at hq
    injection hq with e1 e2
    subst e1 e2
    have Hf := hide hf
    clear hf e hys hm hmn
    obtain ⟨i0, hi0, hz0, hz1, hz2⟩ := info_parts infoI
    have hmk := fun W => run_make (P := Try.prog) W 44 3 i0 (.int .i64 0) Try.underlying44 hi0 hz0 .i64 .i64 m m (by omega) (Int.le_refl _) (by rw [hz2]; omega) (by omega)
    simp only [Int.toNat_natCast, hz1] at hmk
    go_enter Try.func69, Try.ntmps69
    go_upto_region 1 with fail
    generalize (w.alloc (.cells #[.int .i64 (m : Int), .slice A bs.length c] 25)).alloc (.cells #[.int .i64 0, .slice none 0 0] 70) = W at hP hZ hW ⊢
    have p0 := hP.c0
    have p1 := hP.c1
    have hYw : w.heap.size < w.heap.size + 1 := Nat.lt_succ_self _
    generalize w.heap.size + 1 = Y at hZ hYw ⊢
    go_upto_region 4 with (go_at_call 39; go_fit (fitsOk_c ⟨(m : Int), bs⟩ A b o c _ _ hn (Nat.le_refl _) hP.rd); rintro e w2 ⟨rfl, hb2⟩; rw [Hf.out]; replace hW := bthen hW hb2; replace hZ := hZ.below hb2; replace hP := hP.below hb2; clear p0 p1; have p0 := hP.c0; have p1 := hP.c1; have hPx := hP.ex)
    have hrow : (w2.alloc (.cells (madeCells #[.int .i64 0] m) 3)).rowIs w2.heap.size 3 m (fun _ => .int .i64 0) := by
      have h := World.rowIs_alloc w2 (madeCells #[.int .i64 0] m) 3 (fun _ => .int .i64 0) (fun i hi => by
        rw [size_madeCells] at hi
        simp only [madeCells, Array.getElem?_map]
        rw [Array.getElem?_eq_getElem (by simpa using hi)]
        simp
        rw [Nat.mod_one]; rfl)
      rwa [size_madeCells] at h
    replace hrow := hrow.alloc (.cells #[.int .i64 0, .slice (some ⟨w2.heap.size, 0, none⟩) m m] 70)
    have hb3 : Below w2.heap.size w2 ((w2.alloc (.cells (madeCells #[.int .i64 0] m) 3)).alloc (.cells #[.int .i64 0, .slice (some ⟨w2.heap.size, 0, none⟩) m m] 70)) := by go_grown
    have k0 : ((w2.alloc (.cells (madeCells #[.int .i64 0] m) 3)).alloc (.cells #[.int .i64 0, .slice (some ⟨w2.heap.size, 0, none⟩) m m] 70)).cell? ⟨w2.heap.size + 1, 0, none⟩ = some (.int .i64 0) := by simp [go_sem]
    have k1 : ((w2.alloc (.cells (madeCells #[.int .i64 0] m) 3)).alloc (.cells #[.int .i64 0, .slice (some ⟨w2.heap.size, 0, none⟩) m m] 70)).cell? ⟨w2.heap.size + 1, 1, none⟩ = some (.slice (some ⟨w2.heap.size, 0, none⟩) m m) := by simp [go_sem]
    replace hW := bthen hW hb3
    have hYg := hZ.ex
    replace hZ := hZ.below hb3
    replace hP := hP.below hb3
    clear p0 p1 hb2 hb3 hmk
    generalize (w2.alloc (.cells (madeCells #[.int .i64 0] m) 3)).alloc (.cells #[.int .i64 0, .slice (some ⟨w2.heap.size, 0, none⟩) m m] 70) = W3 at hrow k0 k1 hW hZ hP ⊢
    have hgK : w2.heap.size < w2.heap.size + 1 := Nat.lt_succ_self _
    generalize w2.heap.size + 1 = K at k0 k1 hgK ⊢
    have hXg : w.heap.size < w2.heap.size := hPx
    clear hPx
    generalize w2.heap.size = g at hrow k0 k1 hYg hgK hXg ⊢
    go_wp2_with fail
    go_loopg [5] m (fun gh s5 wr => ∃ i : Nat, 1 ≤ i ∧ i ≤ m ∧ gh = m + 1 - i ∧ s5 = .int .i64 i ∧ Below w.heap.size w wr ∧ RP wr w.heap.size b o (m : Int) A c bs ∧ ZB w wr Y ∧ wr.cell? ⟨K, 0, none⟩ = some (.int .i64 0) ∧ wr.cell? ⟨K, 1, none⟩ = some (.slice (some ⟨g, 0, none⟩) m m) ∧ wr.rowIs g 3 m (fun j => if j < i then (if j = 0 then .int .i64 0 else .int .i64 (-1)) else .int .i64 0))
    case atStart =>
      go_light
      exact ⟨1, Nat.le_refl _, hm1, by omega, by go_num, hW, hP, hZ, k0, k1, hrow.congr (fun j _ => by
        by_cases h : j = 0
        · subst h; rfl
        · have h1 : ¬ j < 1 := by omega
          rw [if_neg h1])⟩
    case round =>
      clear hrow k0 k1 hW hZ hP
      obtain ⟨i, hi1, hi, rfl, rfl, hW, hP, hZ, k0, k1, hrow⟩ := hrel
      have p0 := hP.c0
      by_cases hlt : i < m
      · have hlt' : (i : Int) < (m : Int) := by omega
        have t0 := hrow.cell (i := i) hlt
        have tf0 := hrow.frozen i
        have hstep := hrow.set i (.int .i64 (-1))
        have k0' : (wr.setCell ⟨g, i, none⟩ (.int .i64 (-1))).cell? ⟨K, 0, none⟩ = some (.int .i64 0) := (set_other (by dsimp only; omega)).trans k0
        have k1' : (wr.setCell ⟨g, i, none⟩ (.int .i64 (-1))).cell? ⟨K, 1, none⟩ = some (.slice (some ⟨g, 0, none⟩) m m) := (set_other (by dsimp only; omega)).trans k1
        have HS := hide hstep
        have hW2 := hW.setCell (p := ⟨g, i, none⟩) (Nat.le_of_lt hXg) (.int .i64 (-1))
        have hP2 : RP (wr.setCell ⟨g, i, none⟩ (.int .i64 (-1))) w.heap.size b o (m : Int) A c bs := hP.set (by omega) (fun h => by have := hlb h; omega)
        have hZ2 : ZB w (wr.setCell ⟨g, i, none⟩ (.int .i64 (-1))) Y := hZ.set (by omega)
        have HK := hide (And.intro k0' k1')
        clear hstep k0' k1'
        go_wp2_with fail
        go_roundg (m + 1 - (i + 1))
        case measure => go_light; omega
        case rel =>
          go_light
          refine ⟨i + 1, by omega, by omega, rfl, by go_num, hW2, hP2, hZ2, HK.out.1, HK.out.2, HS.out.congr (fun j _ => ?_)⟩
          by_cases e : j = i
          · have h1 : j < i + 1 := by omega
            have h2 : ¬ j = 0 := by omega
            rw [if_pos e, if_pos h1, if_neg h2]
          · rw [if_neg e]
            by_cases h : j < i
            · have h1 : j < i + 1 := by omega
              rw [if_pos h, if_pos h1]
            · have h1 : ¬ j < i + 1 := by omega
              rw [if_neg h, if_neg h1]
      · obtain rfl : i = m := by omega
        have z0 := hZ.z0
        have z1 := hZ.z1
        have zf0 := hZ.zf 0
        have zf1 := hZ.zf 1
        have hlen := Hlen.out
        have hown : OwnI w.heap.size wr (.slice (some ⟨g, 0, none⟩) ys.length i) ys := by
          have h := row_own (n := i) (cap := i) (size := 1) (base := w.heap.size) (xs := ys.map (Value.int .i64)) (by rw [Nat.mul_one]; exact hrow) (fun j hj => by
            have hj' : j < i := by omega
            rw [List.getElem?_map, Hget.out j hj', if_pos hj']
            by_cases h0 : j = 0
            · rw [if_pos h0]; simp [h0]
            · rw [if_neg h0]; simp [h0]) (by rw [List.length_map, hlen, Nat.mul_one]) (Nat.le_of_lt hXg) (Nat.le_refl _) (by unfold maxLen; omega)
          unfold OwnI
          rw [hlen]
          exact h
        obtain ⟨r0, r1, ho, hb7⟩ := hZ.finI (n := 0) (A := some ⟨g, 0, none⟩) (c := i) (xs := ys) hW hown (by rw [hlen]; intro e; have e2 := Option.some.inj e; dsimp only at e2; omega)
        rw [hlen] at r0 r1 hb7 ho
        have Hho := hide ho
        clear ho hown hlen
        go_wp2_with fail
        refine bodyPost_ret (v := .tuple #[.agg #[.int .i64 0, .slice (some ⟨g, 0, none⟩) i i], .bool true]) (by simp [results, Try.results69, go_sem, r0, r1]) rfl ?_
        have ho := Hho.out
        rw [← Hlen.out] at ho
        obtain ⟨g9, hr9⟩ := own_IntsR ho
        rw [Hlen.out] at hr9 ho
        first
          | exact ⟨_, _, g9, by rw [Hlen.out], hr9, by rw [Hlen.out]; exact ho, hb7⟩
          | exact ⟨_, _, by rw [Hlen.out], ⟨g9, hr9⟩, by rw [Hlen.out]; exact ho, hb7⟩

set_option maxHeartbeats 4000000 in
set_option maxRecDepth 100000 in
theorem step_c (p : Pl) (s : St) (pick : Int) (q : St) (hq : stepR p s pick = q) (hpk : 0 ≤ pick ∧ pick ≤ 9223372036854775807) (hs : stateOk p s = true) (A A' : Option Addr) (b o c b' o' c' B : Nat) (w : World) (hn : p.bs.length ≤ 2000000) (hB : B ≤ w.heap.size) (hR : BdsR w B b o A p.bs) (hR' : IntsR w B b' o' A' s.done) :
    Calls Try.prog 139 #[.agg #[.int .i64 p.n, .slice A p.bs.length c], .agg #[.int .i64 s.now, .slice A' s.done.length c'], .int .i64 pick] w fun e w' =>
      ∃ A1 c1, e = .returned (.agg #[.int .i64 q.now, .slice A1 q.done.length c1]) ∧ (OwnI w.heap.size w' (.slice A1 q.done.length c1) q.done ∨ (A1 = A' ∧ c1 = c' ∧ q = s)) ∧ Below w.heap.size w w' := by
  obtain ⟨i0, hi0, hz0, hz1, hz2⟩ := info_parts infoI
  have hS0 := stateOk_iff.1 hs
  obtain ⟨hm6, hm1, hmn⟩ := nn_ok (planOk_of_fits hS0.fit)
  have hlen := hS0.len
  have hn' : s.done.length ≤ 2000000 := by omega
  clear hS0 hs
  unfold stepR at hq
  obtain ⟨m, hm⟩ : ∃ m, nn p = m := ⟨_, rfl⟩
  rw [hm] at hm6 hm1 hlen hq
  clear hm hmn
  obtain ⟨hp0, hp1⟩ := hpk
  have Hlen := hide hlen
  have Hq := hide hq
  clear hq hlen
  have hD0 := db_new (t := 25) (t' := 70) (n := p.n) (now := s.now) (c := c) (c' := c') hB hR hR'
  have hD := hD0.alloc (.cells #[.int .i64 0, .slice none 0 0] 70)
  have hZ : ZB w (((w.alloc (.cells #[.int .i64 p.n, .slice A p.bs.length c] 25)).alloc (.cells #[.int .i64 s.now, .slice A' s.done.length c'] 70)).alloc (.cells #[.int .i64 0, .slice none 0 0] 70)) (w.heap.size + 1 + 1) := by
    have h := zb_new (w0 := w) (W := (w.alloc (.cells #[.int .i64 p.n, .slice A p.bs.length c] 25)).alloc (.cells #[.int .i64 s.now, .slice A' s.done.length c'] 70)) (t := 70) hD0.bel.size
    simp only [World.size_alloc] at h
    exact h
  clear hR hR' hD0
  go_enter Try.func139, Try.ntmps139
  go_upto_region 1 with fail
  have hYs : w.heap.size + 1 + 1 < (((w.alloc (.cells #[.int .i64 p.n, .slice A p.bs.length c] 25)).alloc (.cells #[.int .i64 s.now, .slice A' s.done.length c'] 70)).alloc (.cells #[.int .i64 0, .slice none 0 0] 70)).heap.size := by simp
  generalize ((w.alloc (.cells #[.int .i64 p.n, .slice A p.bs.length c] 25)).alloc (.cells #[.int .i64 s.now, .slice A' s.done.length c'] 70)).alloc (.cells #[.int .i64 0, .slice none 0 0] 70) = W at hD hZ hYs ⊢
  have hYw : w.heap.size + 1 < w.heap.size + 1 + 1 := Nat.lt_succ_self _
  generalize w.heap.size + 1 + 1 = Y at hZ hYs hYw ⊢
  have s0 := hD.s.c0
  have s1 := hD.s.c1
  go_wp2_with fail
  clear s0 s1
  go_loopg [7, 19] m (fun gh s7 s19 wr => ∃ (k : Nat) (rs : List Int) (Ar : Option Addr) (cr : Nat), k ≤ m ∧ gh = m - k ∧ s19 = .int .i64 k ∧ s7 = .slice Ar rs.length cr ∧ Hid (readyTo p s k = rs) ∧ OwnI W.heap.size wr (.slice Ar rs.length cr) rs ∧ Below W.heap.size W wr)
  case atStart => exact ⟨0, [], none, 0, Nat.zero_le _, rfl, rfl, rfl, rfl, World.ownsRow_nil _ _ _ _, Below.refl _ _⟩
  case round =>
    obtain ⟨k, rs, Ar, cr, hk, rfl, rfl, rfl, Hrs, hown, hWr⟩ := hrel
    have hlen := Hlen.out
    have hDr := hD.below hWr
    have s0 := hDr.s.c0
    have s1 := hDr.s.c1
    have p0 := hDr.p.c0
    have p1 := hDr.p.c1
    have hrl : rs.length ≤ 6 := by rw [← Hrs.out]; have := readyTo_le p s k; omega
    by_cases hlt : k < m
    · have hz : (k : Int) < (s.done.length : Int) := by omega
      clear hlen
      cases hrd : isReady p s (k : Int)
      · have Hst : Hid (readyTo p s (k + 1) = rs) := by unfold Hid; simp only [readyTo]; rw [hrd, ← Hrs.out]; rfl
        have Hrd := hide hrd
        clear hrd
        go_wp2_with (go_at_call 130; go_fit (readyOk_c p s (k : Int) A A' b o c b' o' c' _ _ hn hn' (Nat.le_refl _) hDr.p.rd hDr.s.rd); rintro e w5 ⟨rfl, hb5⟩; rw [Hrd.out]; have hW5 : Below W.heap.size W w5 := bthen hWr hb5; have hown5 := own_below hown hb5)
        go_roundg (m - (k + 1))
        case measure => go_light; omega
        case rel => go_light; exact ⟨k + 1, rs, Ar, cr, by omega, rfl, by go_num, rfl, Hst, hown5, hW5⟩
      · have Hst : Hid (readyTo p s (k + 1) = rs ++ [(k : Int)]) := by unfold Hid; simp only [readyTo]; rw [hrd, ← Hrs.out]; rfl
        have Hrd := hide hrd
        clear hrd
        go_wp2_with (first
          | (go_at_call 130; go_fit (readyOk_c p s (k : Int) A A' b o c b' o' c' _ _ hn hn' (Nat.le_refl _) hDr.p.rd hDr.s.rd); rintro e w5 ⟨rfl, hb5⟩; rw [Hrd.out]; have hW5 : Below W.heap.size W w5 := bthen hWr hb5; have hown5 := own_below hown hb5)
          | (at_builtin; refine app_list _ rfl (.tmp 26) (.tmp 28) _ rfl W.heap.size 3 i0 _ 1 8 Try.underlying44 hi0 hz0 hz1 hz2 rfl (by omega) (.slice Ar rs.length cr) rs.length (rs.map (Value.int .i64)) rfl (hown5.alloc _) _ 1 _ [.int .i64 (k : Int)] rfl rfl (NewsAt.block (cs := #[.int .i64 (k : Int)]) (at_new rfl)) (by simp [Value.oneCell']) (by omega) (by omega) (by have h := hW5.size; simp only [World.size_alloc]; omega) ?_; intro A4 c4 w4 hown4 hg4 hat4))
        have hW4 : Below W.heap.size W w4 := below_app (bthen hW5 (show Below w5.heap.size w5 (w5.alloc (.cells #[.int .i64 (k : Int)] 3)) by go_grown)) (hown5.alloc (.cells #[.int .i64 (k : Int)] 3)) hg4 (Nat.le_refl _) (by have h := hW5.size; simp only [World.size_alloc]; omega)
        go_roundg (m - (k + 1))
        case measure => go_light; omega
        case rel =>
          go_light
          have hl2 : (rs ++ [(k : Int)]).length = rs.length + 1 := by simp
          exact ⟨k + 1, rs ++ [(k : Int)], A4, c4, by omega, rfl, by go_num, by rw [hl2], Hst, by unfold OwnI; rw [hl2, List.map_append]; exact hown4, hW4⟩
    · obtain rfl : k = m := by omega
      have hz : ¬ (k : Int) < (s.done.length : Int) := by omega
      clear hlen
      have Hq2 : Hid (tryFrom p s rs pick rs.length = q) := by unfold Hid; rw [← Hrs.out]; exact Hq.out
      clear Hq Hrs hk hlt s0 s1 p0 p1
      obtain ⟨L, hL⟩ : ∃ L, rs.length = L := ⟨_, rfl⟩
      have HL := hide hL
      rw [hL] at hown hrl
      have Hq3 : Hid (tryFrom p s rs pick L = q) := by unfold Hid; rw [← hL]; exact Hq2.out
      rw [hL]
      clear hL Hq2
      have hDr' := hide hDr
      go_wp2_with fail
      go_loopg [33] (L + 1) (fun gh s33 wr => ∃ (mm j : Nat), mm + j = L ∧ gh = mm + 1 ∧ s33 = .int .i64 j ∧ Hid (tryFrom p s rs pick mm = q) ∧ OwnI W.heap.size wr (.slice Ar L cr) rs ∧ Below W.heap.size W wr)
      case atStart => exact ⟨L, 0, rfl, rfl, rfl, Hq3, hown, hWr⟩
      case round =>
        clear hown hWr hDr hDr' Hq3
        obtain ⟨mm, j, hmj, rfl, rfl, Ht, hown, hWr⟩ := hrel
        have hDr := hD.below hWr
        have hZr := hZ.below hWr
        have s0 := hDr.s.c0
        have s1 := hDr.s.c1
        have p0 := hDr.p.c0
        have p1 := hDr.p.c1
        have z0 := hZr.z0
        have z1 := hZr.z1
        have zf0 := hZr.zf 0
        have zf1 := hZr.zf 1
        have hbW : w.heap.size ≤ W.heap.size := hD.bel.size
        cases mm with
        | zero =>
          have hz : ¬ (j : Int) < (L : Int) := by omega
          have e : q = s := Ht.out.symm
          subst e
          obtain ⟨r0, r1⟩ := two_cells (a := .int .i64 q.now) (b := .slice A' q.done.length c') z0 z1
          have hWf := (hDr.bel.setCell (p := ⟨Y, 0, none⟩) hZr.lo (.int .i64 q.now)).setCell (p := ⟨Y, 1, none⟩) hZr.lo (.slice A' q.done.length c')
          clear hmj
          go_wp2_with fail
          refine bodyPost_ret (v := .agg #[.int .i64 q.now, .slice A' q.done.length c']) (by simp [results, Try.results139, go_sem, r0, r1]) rfl ?_
          refine ⟨A', c', rfl, .inr ?_, hWf⟩
          simp
        | succ mm =>
          have hz : (j : Int) < (L : Int) := by omega
          have hL0 : 0 < L := by omega
          have hLz : (0 : Int) < (L : Int) := by omega
          have hj : rs.length - (mm + 1) = j := by rw [HL.out]; omega
          have hix := ixOf_lt (pick := pick) (j := j) hL0
          have hixe := ixOf_eq (j := j) hL0 hp0
          obtain ⟨ix, hixv⟩ : ∃ ix, ixOf pick L j = ix := ⟨_, rfl⟩
          rw [hixv] at hix hixe
          obtain ⟨t1, ht1⟩ : ∃ t1, Int.tmod pick (L : Int) = t1 := ⟨_, rfl⟩
          have ht1a : 0 ≤ t1 := by rw [← ht1]; exact Int.tmod_nonneg _ hp0
          have ht1b : t1 < (L : Int) := by rw [← ht1]; exact Int.tmod_lt_of_pos _ hLz
          rw [ht1] at hixe
          have hixz : (ix : Int) < (L : Int) := by omega
          obtain ⟨g, hrr⟩ := own_IntsR (c := cr) (by rw [HL.out]; exact hown : OwnI W.heap.size wr (.slice Ar rs.length cr) rs)
          have hAr := hrr.addr (by rw [HL.out]; omega)
          subst hAr
          have d0 := hrr.cell ix (by rw [HL.out]; exact hix)
          rw [Nat.zero_add] at d0
          have hgl : g < wr.heap.size := hrr.lt (by rw [HL.out]; omega)
          obtain ⟨pt, hpt⟩ : ∃ pt, rs.getD ix 0 = pt := ⟨_, rfl⟩
          rw [hpt] at d0
          obtain ⟨lo, hlo⟩ : ∃ x, (window p s pt).1 = x := ⟨_, rfl⟩
          obtain ⟨q1, r1, hd⟩ : ∃ q1 r1, doAt p s pt lo = (q1, r1) := ⟨_, _, rfl⟩
          have Hst : Hid ((if r1 then q1 else tryFrom p s rs pick mm) = q) := by
            unfold Hid
            rw [← Ht.out]
            simp only [tryFrom]
            rw [hj, HL.out, hixv, hpt, hlo, hd]
          obtain ⟨hi, hhi⟩ : ∃ x, (window p s pt).2.1 = x := ⟨_, rfl⟩
          obtain ⟨ok, hok⟩ : ∃ x, (window p s pt).2.2 = x := ⟨_, rfl⟩
          have Hlo := hide hlo
          have Hhi := hide hhi
          have Hok := hide hok
          have Hd := hide hd
          clear hlo hhi hok hd hpt hixv hj hrr z0 z1 zf0 zf1
          have hL6 : (L : Int) ≤ 6 := by omega
          cases r1
          · go_wp2_with (first
              | (go_at_call 128; go_fit (windowOf_c p s pt A A' b o c b' o' c' _ _ hn hn' (Nat.le_refl _) hDr.p.rd hDr.s.rd); rintro e w5 ⟨rfl, hb5⟩; rw [Hlo.out, Hhi.out, Hok.out]; have hW5 : Below W.heap.size W w5 := bthen hWr hb5; have hD5 := hD.below hW5; clear s0 s1 p0 p1; have s0 := hD5.s.c0; have s1 := hD5.s.c1; have p0 := hD5.p.c0; have p1 := hD5.p.c1)
              | (go_at_call 61; go_fit (doAt_c p s pt lo q1 false Hd.out A A' b o c b' o' c' _ _ hn hn' (Nat.le_refl _) hD5.p.rd hD5.s.rd); rintro e w6 ⟨A6, c6, g6, rfl, hr6, hown6, hb6⟩))
            go_roundg (mm + 1)
            case measure => go_light; omega
            case rel =>
              go_light
              have hb7 : Below wr.heap.size wr (w6.alloc (.cells #[.int .i64 q1.now, .slice A6 q1.done.length c6] 70)) := bthen (bthen hb5 hb6) (by go_grown)
              exact ⟨mm, j + 1, by omega, rfl, by go_num, Hst.out, own_below hown hb7, bthen hWr hb7⟩
          · have e : q1 = q := Hst.out
            subst e
            go_wp2_with (first
              | (go_at_call 128; go_fit (windowOf_c p s pt A A' b o c b' o' c' _ _ hn hn' (Nat.le_refl _) hDr.p.rd hDr.s.rd); rintro e w5 ⟨rfl, hb5⟩; rw [Hlo.out, Hhi.out, Hok.out]; have hW5 : Below W.heap.size W w5 := bthen hWr hb5; have hD5 := hD.below hW5; clear s0 s1 p0 p1; have s0 := hD5.s.c0; have s1 := hD5.s.c1; have p0 := hD5.p.c0; have p1 := hD5.p.c1)
              | (go_at_call 61; go_fit (doAt_c p s pt lo q1 true Hd.out A A' b o c b' o' c' _ _ hn hn' (Nat.le_refl _) hD5.p.rd hD5.s.rd); rintro e w6 ⟨A6, c6, g6, rfl, hr6, hown6, hb6⟩; have hZ6 := (hZ.below (bthen hW5 hb6)).below (show Below w6.heap.size w6 (w6.alloc (.cells #[.int .i64 q1.now, .slice A6 q1.done.length c6] 70)) by go_grown); have z0 := hZ6.z0; have z1 := hZ6.z1; have zf0 := hZ6.zf 0; have zf1 := hZ6.zf 1))
            have hb7 : Below w.heap.size w (w6.alloc (.cells #[.int .i64 q1.now, .slice A6 q1.done.length c6] 70)) := bthen (hD5.bel.trans (hb6.mono hD5.bel.size)) (by go_grown)
            obtain ⟨r0, r1, ho, hb9⟩ := hZ6.finI (n := q1.now) (A := A6) (c := c6) (xs := q1.done) hb7 (own_less (hown6.alloc _) hD5.bel.size) (fun e => by have h1 := (hown6.lt _ e).1; have h2 := hW5.size; omega)
            refine bodyPost_ret (v := .agg #[.int .i64 q1.now, .slice A6 q1.done.length c6]) (by simp [results, Try.results139, go_sem, r0, r1]) rfl ?_
            exact ⟨A6, c6, rfl, .inl ho, hb9⟩

theorem OS.renew {T : Nat} {W : World} {Z g : Nat} {now n2 : Int} {A A2 : Option Addr} {c c2 : Nat} {xs ys : List Int} (h : OS T W Z g now A c xs) (own : OwnI T W (.slice A2 ys.length c2) ys) (ne : (Value.slice A2 ys.length c2).ownBlock ≠ some Z) :
    ∃ g', OS T ((W.setCell ⟨Z, 0, none⟩ (.int .i64 n2)).setCell ⟨Z, 1, none⟩ (.slice A2 ys.length c2)) Z g' n2 A2 c2 ys := by
  obtain ⟨r0, r1⟩ := two_cells (a := .int .i64 n2) (b := .slice A2 ys.length c2) h.rs.c0 h.rs.c1
  have o2 : OwnI T ((W.setCell ⟨Z, 0, none⟩ (.int .i64 n2)).setCell ⟨Z, 1, none⟩ (.slice A2 ys.length c2)) (.slice A2 ys.length c2) ys := own_set (p := ⟨Z, 1, none⟩) (own_set (p := ⟨Z, 0, none⟩) own ne _) ne _
  obtain ⟨g', hr⟩ := own_IntsR o2
  exact ⟨g', h.lo, ⟨by simpa using h.rs.ex, r0, r1, hr⟩, fun i => by rw [← h.fz i]; simp, o2, ne⟩

theorem pick_at {picks : List Int} {k : Nat} {v : Int} (h : picks[k]? = some v) : pickOf picks k = max 0 v := by unfold pickOf; rw [List.getD_eq_getElem?_getD, h]; rfl
theorem pick_no {picks : List Int} {k : Nat} (h : picks.length ≤ k) : pickOf picks k = 0 := by unfold pickOf; rw [List.getD_eq_getElem?_getD, List.getElem?_eq_none h]; rfl

set_option maxHeartbeats 4000000 in
set_option maxRecDepth 100000 in
theorem runOf_c (p : Pl) (picks : List Int) (q : St) (r : Bool) (hq : runOf p picks = (q, r)) (hx : ∀ (j : Nat) (y : Int), picks[j]? = some y → -9223372036854775808 ≤ y ∧ y ≤ 9223372036854775807) (A A' : Option Addr) (b o c b' o' c' B : Nat) (w : World) (hn : p.bs.length ≤ 2000000) (hn' : picks.length ≤ 2000000) (hB : B ≤ w.heap.size) (hR : BdsR w B b o A p.bs) (hR' : IntsR w B b' o' A' picks) :
    Calls Try.prog 67 #[.agg #[.int .i64 p.n, .slice A p.bs.length c], .slice A' picks.length c'] w fun e w' =>
      ∃ A1 c1 g1, e = .returned (.tuple #[.agg #[.int .i64 q.now, .slice A1 q.done.length c1], .bool r]) ∧ IntsR w' w'.heap.size g1 0 A1 q.done ∧ OwnI w.heap.size w' (.slice A1 q.done.length c1) q.done ∧ Below w.heap.size w w' := by
  obtain ⟨n, bs⟩ := p
  dsimp only at *
  have hP := (rp_new (t := 25) (n := n) (c := c) (hR.more hB)).alloc (.cells #[.int .i64 0, .slice none 0 0] 70)
  have hZ : ZB w ((w.alloc (.cells #[.int .i64 n, .slice A bs.length c] 25)).alloc (.cells #[.int .i64 0, .slice none 0 0] 70)) (w.heap.size + 1) := by
    have h := zb_new (w0 := w) (W := w.alloc (.cells #[.int .i64 n, .slice A bs.length c] 25)) (t := 70) (by simp)
    simp only [World.size_alloc] at h
    exact h
  have hW : Below w.heap.size w ((w.alloc (.cells #[.int .i64 n, .slice A bs.length c] 25)).alloc (.cells #[.int .i64 0, .slice none 0 0] 70)) := by go_grown
  have hlb : 0 < bs.length → b < w.heap.size := fun h => Nat.lt_of_lt_of_le (hR.lt h) hB
  clear hR
  cases hf : fits ⟨n, bs⟩
  · have e : runOf ⟨n, bs⟩ picks = (⟨0, []⟩, false) := by unfold runOf; rw [hf]; rfl
    have e2 : stateNew ⟨n, bs⟩ = (⟨0, []⟩, false) := by unfold stateNew; rw [hf]; rfl
    rw [e] at hq
    injection hq with h1 h2
    subst h1 h2
    have H2 := hide e2
    clear hf e e2
    go_enter Try.func67, Try.ntmps67
    go_upto_region 1 with fail
    generalize (w.alloc (.cells #[.int .i64 n, .slice A bs.length c] 25)).alloc (.cells #[.int .i64 0, .slice none 0 0] 70) = W at hP hZ hW ⊢
    have p0 := hP.c0
    have p1 := hP.c1
    generalize w.heap.size + 1 = Y at hZ ⊢
    go_wp2_with (go_at_call 69; go_fit (implNew_c ⟨n, bs⟩ ⟨0, []⟩ false H2.out A b o c _ _ hn (Nat.le_refl _) hP.rd); rintro e w2 ⟨A1, c1, g1, rfl, _, _, hb2⟩; have hb3 := bthen hb2 (show Below w2.heap.size w2 (w2.alloc (.cells #[.int .i64 0, .slice A1 0 c1] 70)) by go_grown); replace hW := bthen hW hb3; replace hZ := hZ.below hb3; have z0 := hZ.z0; have z1 := hZ.z1; have zf0 := hZ.zf 0; have zf1 := hZ.zf 1)
    obtain ⟨r0, r1, ho, hb7⟩ := hZ.finI (n := 0) (A := none) (c := 0) (xs := []) hW (World.ownsRow_nil _ _ _ _) (by simp [Value.ownBlock])
    simp only [List.length_nil] at r0 r1 ho hb7
    refine bodyPost_ret (v := .tuple #[.agg #[.int .i64 0, .slice none 0 0], .bool false]) (by simp [results, Try.results67, go_sem, r0, r1]) rfl ?_
    exact ⟨none, 0, 0, rfl, IntsR.nil _ _ _, ho, hb7⟩
  · have hnn := nn_ok (planOk_of_fits hf)
    have e : runOf ⟨n, bs⟩ picks = (runTo ⟨n, bs⟩ picks (nn ⟨n, bs⟩), true) := by unfold runOf; rw [hf]; rfl
    rw [e] at hq
    obtain ⟨m, hm⟩ : ∃ m, nn ⟨n, bs⟩ = m := ⟨_, rfl⟩
    rw [hm] at hnn hq
    obtain ⟨hm6, hm1, hmn⟩ := hnn
    dsimp only at hmn
    obtain rfl : n = (m : Int) := hmn.symm
    injection hq with h1 h2
    subst h2
    have Hq := hide h1
    obtain ⟨s1, hs1⟩ : ∃ s1, (stateNew ⟨(m : Int), bs⟩).1 = s1 := ⟨_, rfl⟩
    have H2 : Hid (stateNew ⟨(m : Int), bs⟩ = (s1, true)) := by unfold Hid; rw [← hs1]; unfold stateNew; rw [hf]; rfl
    have Hs1 : Hid (runTo ⟨(m : Int), bs⟩ picks 0 = s1) := hs1
    have Hall := hide (fun k => runTo_ok hf picks k)
    clear h1 e hm hmn hs1 hf
    go_enter Try.func67, Try.ntmps67
    go_upto_region 1 with fail
    generalize (w.alloc (.cells #[.int .i64 (m : Int), .slice A bs.length c] 25)).alloc (.cells #[.int .i64 0, .slice none 0 0] 70) = W at hP hZ hW ⊢
    have p0 := hP.c0
    have p1 := hP.c1
    have hYw : w.heap.size < w.heap.size + 1 := Nat.lt_succ_self _
    generalize w.heap.size + 1 = Y at hZ hYw ⊢
    have hYT := hZ.ex
    go_upto_region 2 with (go_at_call 69; go_fit (implNew_c ⟨(m : Int), bs⟩ s1 true H2.out A b o c _ _ hn (Nat.le_refl _) hP.rd); rintro e w2 ⟨A1, c1, g1, rfl, hr2, hown2, hb2⟩)
    obtain ⟨hO, hbO⟩ := os_new (t := 70) (now := s1.now) hb2.size hr2 hown2
    have hb3 := bthen hb2 hbO
    replace hW := bthen hW hb3
    replace hZ := hZ.below hb3
    replace hP := hP.below hb3
    clear hr2 hown2 hb2 hbO hb3 p0 p1
    generalize w2.alloc (.cells #[.int .i64 s1.now, .slice A1 s1.done.length c1] 70) = W3 at hO hW hZ hP ⊢
    generalize w2.heap.size = Z at hO ⊢
    obtain ⟨T, hT⟩ : ∃ T, W.heap.size = T := ⟨_, rfl⟩
    rw [hT] at hO hYT
    clear hT
    have p0 := hP.c0
    go_wp2_with fail
    clear p0
    go_loopg [20] m (fun gh s20 wr => ∃ (k : Nat) (s : St) (A1 : Option Addr) (c1 g1 : Nat), k ≤ m ∧ gh = m - k ∧ s20 = .int .i64 k ∧ Hid (runTo ⟨(m : Int), bs⟩ picks k = s) ∧ OS T wr Z g1 s.now A1 c1 s.done ∧ Below w.heap.size w wr ∧ RP wr w.heap.size b o (m : Int) A c bs ∧ ZB w wr Y)
    case atStart => exact ⟨0, s1, A1, c1, _, Nat.zero_le _, rfl, rfl, Hs1, hO, hW, hP, hZ⟩
    case round =>
      clear hO hW hZ hP
      obtain ⟨k, s, A1, c1, g1, hk, rfl, rfl, Hk, hO, hW, hP, hZ⟩ := hrel
      have p0 := hP.c0
      have p1 := hP.c1
      have q0 := hO.rs.c0
      have q1 := hO.rs.c1
      by_cases hlt : k < m
      · have hz : (k : Int) < (m : Int) := by omega
        have Hs : Hid (stateOk ⟨(m : Int), bs⟩ s = true) := by unfold Hid; rw [← Hk.out]; exact Hall.out k
        by_cases hkl : k < picks.length
        · have hklz : (k : Int) < (picks.length : Int) := by omega
          have hA := hR'.addr (by omega)
          subst hA
          have d0 := (hR'.below (hW.mono hB)).cell k hkl
          have hv := List.getElem?_eq_getElem hkl
          have hpk := pick_at hv
          have hxv := hx k _ hv
          rw [ints_at hv] at d0
          generalize picks[k] = v at d0 hpk hxv
          obtain ⟨hv1, hv2⟩ := hxv
          clear hv
          by_cases hv0 : 0 < v
          · obtain ⟨q1, hq1⟩ : ∃ q1, stepR ⟨(m : Int), bs⟩ s v = q1 := ⟨_, rfl⟩
            have Hst : Hid (runTo ⟨(m : Int), bs⟩ picks (k + 1) = q1) := by
              show stepR _ (runTo _ picks k) (pickOf picks k) = q1
              rw [Hk.out, hpk, ← hq1, show max 0 v = v by omega]
            have Hq1 := hide hq1
            clear hq1 hpk
            go_wp2_with (go_at_call 139; go_fit (step_c ⟨(m : Int), bs⟩ s v q1 Hq1.out (by omega) Hs.out A A1 b o c g1 0 c1 _ _ hn (Nat.le_refl _) hP.rd hO.rs.rd); rintro e w5 ⟨A2, c2, rfl, hown, hb5⟩; have hP5 := hP.below hb5; have hZ5 := hZ.below hb5; have hO5 := hO.below hb5; have o0 := hO5.rs.c0; have o1 := hO5.rs.c1; have of0 := hO5.fz 0; have of1 := hO5.fz 1)
            have hW5 := bthen hW hb5
            have hr5 : OwnI T w5 (.slice A2 q1.done.length c2) q1.done ∧ (Value.slice A2 q1.done.length c2).ownBlock ≠ some Z := by
              rcases hown with h | ⟨h1, h2, h3⟩
              · exact ⟨own_less h (by have := hO.lo; have := hO.rs.ex; omega), fun e => by have := (h.lt _ e).1; have := hO.rs.ex; omega⟩
              · subst h1; subst h2; subst h3; exact ⟨hO5.own, hO5.ne⟩
            obtain ⟨g2, hO6⟩ := hO5.renew (n2 := q1.now) hr5.1 hr5.2
            have hP6 : RP ((w5.setCell ⟨Z, 0, none⟩ (.int .i64 q1.now)).setCell ⟨Z, 1, none⟩ (.slice A2 q1.done.length c2)) w.heap.size b o (m : Int) A c bs := (hP5.set (by have := hO.lo; omega) (fun h => by have := hlb h; have := hO.lo; omega)).set (by have := hO.lo; omega) (fun h => by have := hlb h; have := hO.lo; omega)
            have hZ6 : ZB w ((w5.setCell ⟨Z, 0, none⟩ (.int .i64 q1.now)).setCell ⟨Z, 1, none⟩ (.slice A2 q1.done.length c2)) Y := (hZ5.set (by have := hO.lo; omega)).set (by have := hO.lo; omega)
            have hW6 : Below w.heap.size w ((w5.setCell ⟨Z, 0, none⟩ (.int .i64 q1.now)).setCell ⟨Z, 1, none⟩ (.slice A2 q1.done.length c2)) := (hW5.setCell (p := ⟨Z, 0, none⟩) (by have := hO.lo; dsimp only; omega) _).setCell (p := ⟨Z, 1, none⟩) (by have := hO.lo; dsimp only; omega) _
            go_roundg (m - (k + 1))
            case measure => go_light; omega
            case rel => go_light; exact ⟨k + 1, q1, A2, c2, g2, by omega, rfl, by go_num, Hst.out, hO6, hW6, hP6, hZ6⟩
          · obtain ⟨q1, hq1⟩ : ∃ q1, stepR ⟨(m : Int), bs⟩ s 0 = q1 := ⟨_, rfl⟩
            have Hst : Hid (runTo ⟨(m : Int), bs⟩ picks (k + 1) = q1) := by
              show stepR _ (runTo _ picks k) (pickOf picks k) = q1
              rw [Hk.out, hpk, ← hq1, show max 0 v = 0 by omega]
            have Hq1 := hide hq1
            clear hq1 hpk
            go_wp2_with (go_at_call 139; go_fit (step_c ⟨(m : Int), bs⟩ s 0 q1 Hq1.out (by omega) Hs.out A A1 b o c g1 0 c1 _ _ hn (Nat.le_refl _) hP.rd hO.rs.rd); rintro e w5 ⟨A2, c2, rfl, hown, hb5⟩; have hP5 := hP.below hb5; have hZ5 := hZ.below hb5; have hO5 := hO.below hb5; have o0 := hO5.rs.c0; have o1 := hO5.rs.c1; have of0 := hO5.fz 0; have of1 := hO5.fz 1)
            have hW5 := bthen hW hb5
            have hr5 : OwnI T w5 (.slice A2 q1.done.length c2) q1.done ∧ (Value.slice A2 q1.done.length c2).ownBlock ≠ some Z := by
              rcases hown with h | ⟨h1, h2, h3⟩
              · exact ⟨own_less h (by have := hO.lo; have := hO.rs.ex; omega), fun e => by have := (h.lt _ e).1; have := hO.rs.ex; omega⟩
              · subst h1; subst h2; subst h3; exact ⟨hO5.own, hO5.ne⟩
            obtain ⟨g2, hO6⟩ := hO5.renew (n2 := q1.now) hr5.1 hr5.2
            have hP6 : RP ((w5.setCell ⟨Z, 0, none⟩ (.int .i64 q1.now)).setCell ⟨Z, 1, none⟩ (.slice A2 q1.done.length c2)) w.heap.size b o (m : Int) A c bs := (hP5.set (by have := hO.lo; omega) (fun h => by have := hlb h; have := hO.lo; omega)).set (by have := hO.lo; omega) (fun h => by have := hlb h; have := hO.lo; omega)
            have hZ6 : ZB w ((w5.setCell ⟨Z, 0, none⟩ (.int .i64 q1.now)).setCell ⟨Z, 1, none⟩ (.slice A2 q1.done.length c2)) Y := (hZ5.set (by have := hO.lo; omega)).set (by have := hO.lo; omega)
            have hW6 : Below w.heap.size w ((w5.setCell ⟨Z, 0, none⟩ (.int .i64 q1.now)).setCell ⟨Z, 1, none⟩ (.slice A2 q1.done.length c2)) := (hW5.setCell (p := ⟨Z, 0, none⟩) (by have := hO.lo; dsimp only; omega) _).setCell (p := ⟨Z, 1, none⟩) (by have := hO.lo; dsimp only; omega) _
            go_roundg (m - (k + 1))
            case measure => go_light; omega
            case rel => go_light; exact ⟨k + 1, q1, A2, c2, g2, by omega, rfl, by go_num, Hst.out, hO6, hW6, hP6, hZ6⟩
        · have hklz : ¬ (k : Int) < (picks.length : Int) := by omega
          have hpk := pick_no (picks := picks) (k := k) (by omega)
          obtain ⟨q1, hq1⟩ : ∃ q1, stepR ⟨(m : Int), bs⟩ s 0 = q1 := ⟨_, rfl⟩
          have Hst : Hid (runTo ⟨(m : Int), bs⟩ picks (k + 1) = q1) := by
            show stepR _ (runTo _ picks k) (pickOf picks k) = q1
            rw [Hk.out, hpk, ← hq1]
          have Hq1 := hide hq1
          clear hq1 hpk
          go_wp2_with (go_at_call 139; go_fit (step_c ⟨(m : Int), bs⟩ s 0 q1 Hq1.out (by omega) Hs.out A A1 b o c g1 0 c1 _ _ hn (Nat.le_refl _) hP.rd hO.rs.rd); rintro e w5 ⟨A2, c2, rfl, hown, hb5⟩; have hP5 := hP.below hb5; have hZ5 := hZ.below hb5; have hO5 := hO.below hb5; have o0 := hO5.rs.c0; have o1 := hO5.rs.c1; have of0 := hO5.fz 0; have of1 := hO5.fz 1)
          have hW5 := bthen hW hb5
          have hr5 : OwnI T w5 (.slice A2 q1.done.length c2) q1.done ∧ (Value.slice A2 q1.done.length c2).ownBlock ≠ some Z := by
            rcases hown with h | ⟨h1, h2, h3⟩
            · exact ⟨own_less h (by have := hO.lo; have := hO.rs.ex; omega), fun e => by have := (h.lt _ e).1; have := hO.rs.ex; omega⟩
            · subst h1; subst h2; subst h3; exact ⟨hO5.own, hO5.ne⟩
          obtain ⟨g2, hO6⟩ := hO5.renew (n2 := q1.now) hr5.1 hr5.2
          have hP6 : RP ((w5.setCell ⟨Z, 0, none⟩ (.int .i64 q1.now)).setCell ⟨Z, 1, none⟩ (.slice A2 q1.done.length c2)) w.heap.size b o (m : Int) A c bs := (hP5.set (by have := hO.lo; omega) (fun h => by have := hlb h; have := hO.lo; omega)).set (by have := hO.lo; omega) (fun h => by have := hlb h; have := hO.lo; omega)
          have hZ6 : ZB w ((w5.setCell ⟨Z, 0, none⟩ (.int .i64 q1.now)).setCell ⟨Z, 1, none⟩ (.slice A2 q1.done.length c2)) Y := (hZ5.set (by have := hO.lo; omega)).set (by have := hO.lo; omega)
          have hW6 : Below w.heap.size w ((w5.setCell ⟨Z, 0, none⟩ (.int .i64 q1.now)).setCell ⟨Z, 1, none⟩ (.slice A2 q1.done.length c2)) := (hW5.setCell (p := ⟨Z, 0, none⟩) (by have := hO.lo; dsimp only; omega) _).setCell (p := ⟨Z, 1, none⟩) (by have := hO.lo; dsimp only; omega) _
          go_roundg (m - (k + 1))
          case measure => go_light; omega
          case rel => go_light; exact ⟨k + 1, q1, A2, c2, g2, by omega, rfl, by go_num, Hst.out, hO6, hW6, hP6, hZ6⟩
      · obtain rfl : k = m := by omega
        have e : q = s := by rw [← Hk.out]; exact Hq.out.symm
        subst e
        have z0 := hZ.z0
        have z1 := hZ.z1
        have zf0 := hZ.zf 0
        have zf1 := hZ.zf 1
        obtain ⟨r0, r1, ho, hb9⟩ := hZ.finI (n := q.now) (A := A1) (c := c1) (xs := q.done) hW (own_less hO.own (by omega)) (fun e => by have := (hO.own.lt _ e).1; omega)
        go_wp2_with fail
        refine bodyPost_ret (v := .tuple #[.agg #[.int .i64 q.now, .slice A1 q.done.length c1], .bool true]) (by simp [results, Try.results67, go_sem, r0, r1]) rfl ?_
        obtain ⟨g9, hr9⟩ := own_IntsR ho
        exact ⟨_, _, g9, rfl, hr9, ho, hb9⟩
end Go.Proofs.Ytjlaljnffmncpaa
