/-
  impl: StateNew, step.
-/
import Derived.Test.YtjlaljnffmncpaaL16
import Derived.Test.YtjlaljnffmncpaaS3b
import Derived.Test.YtjlaljnffmncpaaP11
namespace Go.Proofs.Ytjlaljnffmncpaa
set_option linter.unusedVariables false
set_option linter.unusedSimpArgs false
open Go.RowKit Pp

theorem RP.set {W : World} {X b o g k : Nat} {n : Int} {A : Option Addr} {c : Nat} {bs : List Bd} {v : Value} (h : RP W X b o n A c bs) (hX : X ≠ g) (hb : 0 < bs.length → b ≠ g) : RP (W.setCell ⟨g, k, none⟩ v) X b o n A c bs :=
  h.grown (grown_set W ⟨g, k, none⟩ v) (fun e => by injection e with e; exact hX e) (fun h0 e => by injection e with e; exact hb h0 e)
theorem ZB.set {w0 W : World} {Y g k : Nat} {v : Value} (h : ZB w0 W Y) (hg : g ≠ Y) : ZB w0 (W.setCell ⟨g, k, none⟩ v) Y := h.grown (grown_set W ⟨g, k, none⟩ v) (fun q hq => by cases hq; exact hg)

set_option maxHeartbeats 4000000 in
set_option maxRecDepth 100000 in
theorem implNew_c (p : Pl) (q : St) (r : Bool) (hq : stateNew p = (q, r)) (A : Option Addr) (b o c B : Nat) (w : World) (hn : p.bs.length ≤ 2000000) (hB : B ≤ w.heap.size) (hR : BdsR w B b o A p.bs) :
    Calls Try.prog 69 #[.agg #[.int .i64 p.n, .slice A p.bs.length c]] w fun e w' =>
      ∃ A1 c1 g1, e = .returned (.tuple #[.agg #[.int .i64 q.now, .slice A1 q.done.length c1], .bool r]) ∧ IntsR w' w'.heap.size g1 0 A1 q.done ∧ OwnI w.heap.size w' (.slice A1 q.done.length c1) q.done ∧ Below w.heap.size w w' := by
  obtain ⟨n, bs⟩ := p
  dsimp only at *
  have hP := (rp_new (t := 25) (n := n) (c := c) (hR.more hB)).alloc (.cells #[.int .i64 0, .slice none 0 0] 70)
  have hZ : ZB w ((w.alloc (.cells #[.int .i64 n, .slice A bs.length c] 25)).alloc (.cells #[.int .i64 0, .slice none 0 0] 70)) (w.heap.size + 1) := by
    have h := zb_new (w0 := w) (W := w.alloc (.cells #[.int .i64 n, .slice A bs.length c] 25)) (t := 70) (by simp)
    simp only [World.size_alloc] at h
    exact h
  have hW : Below w.heap.size w ((w.alloc (.cells #[.int .i64 n, .slice A bs.length c] 25)).alloc (.cells #[.int .i64 0, .slice none 0 0] 70)) := by go_grown
  have hlb : 0 < bs.length → b < w.heap.size := fun h => Nat.lt_of_lt_of_le (hR.lt h) hB
  clear hR
  cases hf : fits ⟨n, bs⟩
  · have e : stateNew ⟨n, bs⟩ = (⟨0, []⟩, false) := by unfold stateNew; rw [hf]; rfl
    rw [e] at hq
    injection hq with e1 e2
    subst e1 e2
    have Hf := hide hf
    clear hf e
    go_enter Try.func69, Try.ntmps69
    go_upto_region 1 with fail
    generalize (w.alloc (.cells #[.int .i64 n, .slice A bs.length c] 25)).alloc (.cells #[.int .i64 0, .slice none 0 0] 70) = W at hP hZ hW ⊢
    have p0 := hP.c0
    have p1 := hP.c1
    generalize w.heap.size + 1 = Y at hZ ⊢
    go_wp2_with (go_at_call 39; go_fit (fitsOk_c ⟨n, bs⟩ A b o c _ _ hn (Nat.le_refl _) hP.rd); rintro e w2 ⟨rfl, hb2⟩; rw [Hf.out]; replace hW := bthen hW hb2; replace hZ := hZ.below hb2; have z0 := hZ.z0; have z1 := hZ.z1; have zf0 := hZ.zf 0; have zf1 := hZ.zf 1)
    obtain ⟨r0, r1, ho, hb7⟩ := hZ.finI (n := 0) (A := none) (c := 0) (xs := []) hW (World.ownsRow_nil _ _ _ _) (by simp [Value.ownBlock])
    simp only [List.length_nil] at r0 r1 ho hb7
    refine bodyPost_ret (v := .tuple #[.agg #[.int .i64 0, .slice none 0 0], .bool false]) (by simp [results, Try.results69, go_sem, r0, r1]) rfl ?_
    exact ⟨none, 0, 0, rfl, IntsR.nil _ _ _, ho, hb7⟩
  · have hnn := nn_ok (planOk_of_fits hf)
    have e : stateNew ⟨n, bs⟩ = (⟨0, 0 :: List.replicate (nn ⟨n, bs⟩ - 1) (-1)⟩, true) := by unfold stateNew; rw [hf]; rfl
    rw [e] at hq
    obtain ⟨m, hm⟩ : ∃ m, nn ⟨n, bs⟩ = m := ⟨_, rfl⟩
    rw [hm] at hnn hq
    obtain ⟨hm6, hm1, hmn⟩ := hnn
    dsimp only at hmn
    obtain rfl : n = (m : Int) := hmn.symm
    obtain ⟨ys, hys⟩ : ∃ ys, (0 : Int) :: List.replicate (m - 1) (-1) = ys := ⟨_, rfl⟩
    have Hlen : Hid (ys.length = m) := by rw [← hys]; unfold Hid; simp; omega
    have Hget : Hid (∀ j, j < m → ys[j]? = some (if j = 0 then 0 else -1)) := by
      intro j hj
      rw [← hys]
      cases j with
      | zero => rfl
      | succ j => rw [List.getElem?_cons_succ, List.getElem?_replicate, if_pos (by omega), if_neg (by omega)]
    rw [hys] at hq
    injection hq with e1 e2
    subst e1 e2
    have Hf := hide hf
    clear hf e hys hm hmn
    obtain ⟨i0, hi0, hz0, hz1, hz2⟩ := info_parts infoI
    have hmk := fun W => run_make (P := Try.prog) W 44 3 i0 (.int .i64 0) Try.underlying44 hi0 hz0 .i64 .i64 m m (by omega) (Int.le_refl _) (by rw [hz2]; omega) (by omega)
    simp only [Int.toNat_natCast, hz1] at hmk
    go_enter Try.func69, Try.ntmps69
    go_upto_region 1 with fail
    generalize (w.alloc (.cells #[.int .i64 (m : Int), .slice A bs.length c] 25)).alloc (.cells #[.int .i64 0, .slice none 0 0] 70) = W at hP hZ hW ⊢
    have p0 := hP.c0
    have p1 := hP.c1
    have hYw : w.heap.size < w.heap.size + 1 := Nat.lt_succ_self _
    generalize w.heap.size + 1 = Y at hZ hYw ⊢
    go_upto_region 4 with (go_at_call 39; go_fit (fitsOk_c ⟨(m : Int), bs⟩ A b o c _ _ hn (Nat.le_refl _) hP.rd); rintro e w2 ⟨rfl, hb2⟩; rw [Hf.out]; replace hW := bthen hW hb2; replace hZ := hZ.below hb2; replace hP := hP.below hb2; clear p0 p1; have p0 := hP.c0; have p1 := hP.c1; have hPx := hP.ex)
    have hrow : (w2.alloc (.cells (madeCells #[.int .i64 0] m) 3)).rowIs w2.heap.size 3 m (fun _ => .int .i64 0) := by
      have h := World.rowIs_alloc w2 (madeCells #[.int .i64 0] m) 3 (fun _ => .int .i64 0) (fun i hi => by
        rw [size_madeCells] at hi
        simp only [madeCells, Array.getElem?_map]
        rw [Array.getElem?_eq_getElem (by simpa using hi)]
        simp
        rw [Nat.mod_one]; rfl)
      rwa [size_madeCells] at h
    replace hrow := hrow.alloc (.cells #[.int .i64 0, .slice (some ⟨w2.heap.size, 0, none⟩) m m] 70)
    have hb3 : Below w2.heap.size w2 ((w2.alloc (.cells (madeCells #[.int .i64 0] m) 3)).alloc (.cells #[.int .i64 0, .slice (some ⟨w2.heap.size, 0, none⟩) m m] 70)) := by go_grown
    have k0 : ((w2.alloc (.cells (madeCells #[.int .i64 0] m) 3)).alloc (.cells #[.int .i64 0, .slice (some ⟨w2.heap.size, 0, none⟩) m m] 70)).cell? ⟨w2.heap.size + 1, 0, none⟩ = some (.int .i64 0) := by simp [go_sem]
    have k1 : ((w2.alloc (.cells (madeCells #[.int .i64 0] m) 3)).alloc (.cells #[.int .i64 0, .slice (some ⟨w2.heap.size, 0, none⟩) m m] 70)).cell? ⟨w2.heap.size + 1, 1, none⟩ = some (.slice (some ⟨w2.heap.size, 0, none⟩) m m) := by simp [go_sem]
    replace hW := bthen hW hb3
    have hYg := hZ.ex
    replace hZ := hZ.below hb3
    replace hP := hP.below hb3
    clear p0 p1 hb2 hb3 hmk
    generalize (w2.alloc (.cells (madeCells #[.int .i64 0] m) 3)).alloc (.cells #[.int .i64 0, .slice (some ⟨w2.heap.size, 0, none⟩) m m] 70) = W3 at hrow k0 k1 hW hZ hP ⊢
    have hgK : w2.heap.size < w2.heap.size + 1 := Nat.lt_succ_self _
    generalize w2.heap.size + 1 = K at k0 k1 hgK ⊢
    have hXg : w.heap.size < w2.heap.size := hPx
    clear hPx
    generalize w2.heap.size = g at hrow k0 k1 hYg hgK hXg ⊢
    go_wp2_with fail
    go_loopg [5] m (fun gh s5 wr => ∃ i : Nat, 1 ≤ i ∧ i ≤ m ∧ gh = m + 1 - i ∧ s5 = .int .i64 i ∧ Below w.heap.size w wr ∧ RP wr w.heap.size b o (m : Int) A c bs ∧ ZB w wr Y ∧ wr.cell? ⟨K, 0, none⟩ = some (.int .i64 0) ∧ wr.cell? ⟨K, 1, none⟩ = some (.slice (some ⟨g, 0, none⟩) m m) ∧ wr.rowIs g 3 m (fun j => if j < i then (if j = 0 then .int .i64 0 else .int .i64 (-1)) else .int .i64 0))
    case atStart =>
      go_light
      exact ⟨1, Nat.le_refl _, hm1, by omega, by go_num, hW, hP, hZ, k0, k1, hrow.congr (fun j _ => by
        by_cases h : j = 0
        · subst h; rfl
        · have h1 : ¬ j < 1 := by omega
          rw [if_neg h1])⟩
    case round =>
      clear hrow k0 k1 hW hZ hP
      obtain ⟨i, hi1, hi, rfl, rfl, hW, hP, hZ, k0, k1, hrow⟩ := hrel
      have p0 := hP.c0
      by_cases hlt : i < m
      · have hlt' : (i : Int) < (m : Int) := by omega
        have t0 := hrow.cell (i := i) hlt
        have tf0 := hrow.frozen i
        have hstep := hrow.set i (.int .i64 (-1))
        have k0' : (wr.setCell ⟨g, i, none⟩ (.int .i64 (-1))).cell? ⟨K, 0, none⟩ = some (.int .i64 0) := (set_other (by dsimp only; omega)).trans k0
        have k1' : (wr.setCell ⟨g, i, none⟩ (.int .i64 (-1))).cell? ⟨K, 1, none⟩ = some (.slice (some ⟨g, 0, none⟩) m m) := (set_other (by dsimp only; omega)).trans k1
        have HS := hide hstep
        have hW2 := hW.setCell (p := ⟨g, i, none⟩) (Nat.le_of_lt hXg) (.int .i64 (-1))
        have hP2 : RP (wr.setCell ⟨g, i, none⟩ (.int .i64 (-1))) w.heap.size b o (m : Int) A c bs := hP.set (by omega) (fun h => by have := hlb h; omega)
        have hZ2 : ZB w (wr.setCell ⟨g, i, none⟩ (.int .i64 (-1))) Y := hZ.set (by omega)
        have HK := hide (And.intro k0' k1')
        clear hstep k0' k1'
        go_wp2_with fail
        go_roundg (m + 1 - (i + 1))
        case measure => go_light; omega
        case rel =>
          go_light
          refine ⟨i + 1, by omega, by omega, rfl, by go_num, hW2, hP2, hZ2, HK.out.1, HK.out.2, HS.out.congr (fun j _ => ?_)⟩
          by_cases e : j = i
          · have h1 : j < i + 1 := by omega
            have h2 : ¬ j = 0 := by omega
            rw [if_pos e, if_pos h1, if_neg h2]
          · rw [if_neg e]
            by_cases h : j < i
            · have h1 : j < i + 1 := by omega
              rw [if_pos h, if_pos h1]
            · have h1 : ¬ j < i + 1 := by omega
              rw [if_neg h, if_neg h1]
      · obtain rfl : i = m := by omega
        have z0 := hZ.z0
        have z1 := hZ.z1
        have zf0 := hZ.zf 0
        have zf1 := hZ.zf 1
        have hlen := Hlen.out
        have hown : OwnI w.heap.size wr (.slice (some ⟨g, 0, none⟩) ys.length i) ys := by
          have h := row_own (n := i) (cap := i) (size := 1) (base := w.heap.size) (xs := ys.map (Value.int .i64)) (by rw [Nat.mul_one]; exact hrow) (fun j hj => by
            have hj' : j < i := by omega
            rw [List.getElem?_map, Hget.out j hj', if_pos hj']
            by_cases h0 : j = 0
            · rw [if_pos h0]; simp [h0]
            · rw [if_neg h0]; simp [h0]) (by rw [List.length_map, hlen, Nat.mul_one]) (Nat.le_of_lt hXg) (Nat.le_refl _) (by unfold maxLen; omega)
          unfold OwnI
          rw [hlen]
          exact h
        obtain ⟨r0, r1, ho, hb7⟩ := hZ.finI (n := 0) (A := some ⟨g, 0, none⟩) (c := i) (xs := ys) hW hown (by rw [hlen]; intro e; have e2 := Option.some.inj e; dsimp only at e2; omega)
        rw [hlen] at r0 r1 hb7 ho
        have Hho := hide ho
        clear ho hown hlen
        go_wp2_with fail
        refine bodyPost_ret (v := .tuple #[.agg #[.int .i64 0, .slice (some ⟨g, 0, none⟩) i i], .bool true]) (by simp [results, Try.results69, go_sem, r0, r1]) rfl ?_
        have ho := Hho.out
        rw [← Hlen.out] at ho
        obtain ⟨g9, hr9⟩ := own_IntsR ho
        rw [Hlen.out] at hr9 ho
        first
          | exact ⟨_, _, g9, by rw [Hlen.out], hr9, by rw [Hlen.out]; exact ho, hb7⟩
          | exact ⟨_, _, by rw [Hlen.out], ⟨g9, hr9⟩, by rw [Hlen.out]; exact ho, hb7⟩
end Go.Proofs.Ytjlaljnffmncpaa
