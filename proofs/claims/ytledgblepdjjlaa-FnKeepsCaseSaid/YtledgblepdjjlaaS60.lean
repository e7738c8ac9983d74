/-
  spec: EndedFrom with one time.
-/
import Derived.Test.YtledgblepdjjlaaS26
import Derived.Test.YtledgblepdjjlaaP18
namespace Go.Proofs.Ytledgblepdjjlaa
set_option linter.unusedVariables false
set_option linter.unusedSimpArgs false
open Go.RowKit Pp


set_option maxHeartbeats 2000000 in
set_option maxRecDepth 100000 in
theorem sStartOk1_c (p : Pl) (hf : fits p = true) (v : Int) (hv : 0 ≤ v ∧ v ≤ 99) (A' : Option Addr) (b' o' c' : Nat) (A : Option Addr) (b o c B : Nat) (w : World) (hn : p.bs.length ≤ 2000000) (hB : B ≤ w.heap.size) (hR : BdsR w B b o A p.bs) (hX : IntsR w B b' o' A' [v]) :
    Calls Try.prog 127 #[.agg #[.int .i64 p.n, .slice A p.bs.length c], .slice A' 1 c'] w fun e w' => e = .returned (.bool true) ∧ Below w.heap.size w w' := by
  have hD := po_new (t := 32) (n := p.n) (c := c) (Below.refl w.heap.size w) (hR.more hB)
  have hXW := (hX.below ((show Below w.heap.size w (w.alloc (.cells #[.int .i64 p.n, .slice A p.bs.length c] 32)) by go_grown).mono hB)).more (Nat.le_trans hB hD.bel.size)
  obtain rfl := hX.addr (by simp)
  clear hR hB hX
  have hp := planOk_of_fits hf
  obtain ⟨hn6, hn1, hnn⟩ := nn_ok hp
  have hz : ¬ p.n < 1 := by omega
  have Hin : Hid (inB v (-99) 99 = true) := inB_iff.2 ⟨by omega, hv.2⟩
  have hdg : Hid (clT p 0 0 = 0) := by
    have F := fit_of hf
    exact F.diag 0 (by omega)
  have Hf := hide hf
  have Hp := hide hp
  clear hf hp
  go_enter Try.func127, Try.ntmps127
  go_upto_region 1 with fail
  generalize w.alloc (.cells #[.int .i64 p.n, .slice A p.bs.length c] 32) = W at hD hXW ⊢
  have p0 := hD.c0
  have p1 := hD.c1
  go_upto_region 4 with (first
    | (go_at_call 80; go_fit (sFitsOk_c p A b o c _ _ hn (Nat.le_refl _) hD.rd); rintro e w2 ⟨rfl, hb⟩; rw [Hf.out]; replace hXW := (hXW.below hb).more hb.size; replace hD := hD.below hb; clear p0 p1; have p0 := hD.c0; have p1 := hD.c1)
    | (go_at_call 116; go_fit (sClosed_c p A b o c _ _ Hp.out (Nat.le_refl _) hD.rd); rintro e w3 ⟨ob, c4, rb, rc, rfl, hT, hb⟩; replace hXW := (hXW.below hb).more hb.size; replace hD := hD.below hb))
  clear p0 p1
  have hbel := hD.bel
  have x0 := hXW.cell 0 (by simp)
  simp only [Nat.add_zero, List.getD_cons_zero] at x0
  have t0 := hT.top 0 (by omega)
  have t1 := hT.row 0 0 (by omega) (by omega)
  rw [hdg.out] at t1
  have hnz : (0 : Int) < (nn p : Int) := by omega
  have hvv : IntKind.i64.wrap (v - v) = 0 := by rw [Int.sub_self]; rfl
  clear hXW hT hD hb
  go_wp2_with fail
  go_loopg [6] 1 (fun gh s wr => ∃ k : Nat, k ≤ 1 ∧ gh = 1 - k ∧ s = .int .i64 k ∧ Below w.heap.size w wr ∧ wr.cell? ⟨b', o', none⟩ = some (.int .i64 v) ∧ wr.cell? ⟨ob, 0, none⟩ = some (.slice (some ⟨rb 0, 0, none⟩) (nn p) (rc 0)) ∧ wr.cell? ⟨rb 0, 0, none⟩ = some (.int .i64 0))
  case atStart => exact ⟨0, by omega, rfl, rfl, hbel, x0, t0, t1⟩
  case round =>
    clear x0 t0 t1 hbel
    obtain ⟨k, hk, rfl, rfl, hW, x0, t0, t1⟩ := hrel
    rcases Nat.lt_or_ge k 1 with h1 | h1
    · obtain rfl : k = 0 := by omega
      go_upto_region 9 with (go_at_call 66; go_fit (l1In_c _ _ _ _); rintro e w4 ⟨rfl, rfl⟩; rw [Hin.out])
      generalize wr = wo at hW x0 t0 t1 ⊢
      go_wp2_with fail
      go_loopg [7] 1 (fun gh s wi => ∃ k : Nat, k ≤ 1 ∧ gh = 1 - k ∧ s = .int .i64 k ∧ Below w.heap.size w wi ∧ wi.cell? ⟨b', o', none⟩ = some (.int .i64 v) ∧ wi.cell? ⟨ob, 0, none⟩ = some (.slice (some ⟨rb 0, 0, none⟩) (nn p) (rc 0)) ∧ wi.cell? ⟨rb 0, 0, none⟩ = some (.int .i64 0))
      case atStart => exact ⟨0, by omega, rfl, rfl, hW, x0, t0, t1⟩
      case round =>
        clear hW x0 t0 t1
        obtain ⟨j, hj, rfl, rfl, hW, x0, t0, t1⟩ := hrel
        rcases Nat.lt_or_ge j 1 with h2 | h2
        · obtain rfl : j = 0 := by omega
          go_upto_region 12 with fail
          go_region
          go_wp2_with fail
          go_roundg 0
          case measure => go_light; omega
          case rel => go_light; exact ⟨1, by omega, rfl, rfl, hW.drew, x0, t0, t1⟩
        · obtain rfl : j = 1 := by omega
          go_wp2_with fail
          go_roundg 0
          case measure => go_light; omega
          case rel => go_light; exact ⟨1, by omega, rfl, rfl, hW, x0, t0, t1⟩
    · obtain rfl : k = 1 := by omega
      go_wp2_with fail
      go_ret
      exact ⟨rfl, hW⟩

set_option maxHeartbeats 4000000 in
set_option maxRecDepth 100000 in
theorem sEndedOne_q (p : Pl) (hf : fits p = true) (v0 : Int) (hv0 : 0 ≤ v0 ∧ v0 ≤ 99) (A' : Option Addr) (b' o' c' : Nat) (A : Option Addr) (b o c B : Nat) (w : World) (hn : p.bs.length ≤ 2000000) (hB : B ≤ w.heap.size) (hR : BdsR w B b o A p.bs) (hX : IntsR w B b' o' A' [v0]) :
    Calls Try.prog 102 #[.agg #[.int .i64 p.n, .slice A p.bs.length c], .slice A' 1 c'] w fun e w' => ∃ A1 c1 ys, e = .returned (.tuple #[.slice A1 ys.length c1, .bool true]) ∧ ys.length ≤ 6 ∧ OwnI w.heap.size w' (.slice A1 ys.length c1) ys ∧ Below w.heap.size w w' := by
  have hD := po_new (t := 32) (n := p.n) (c := c) (Below.refl w.heap.size w) (hR.more hB)
  have hXW := (hX.below ((show Below w.heap.size w (w.alloc (.cells #[.int .i64 p.n, .slice A p.bs.length c] 32)) by go_grown).mono hB)).more (Nat.le_trans hB hD.bel.size)
  clear hR hB hX
  have hp := planOk_of_fits hf
  obtain ⟨hn6, hn1, hnn⟩ := nn_ok hp
  have hS := small_clT hf
  obtain ⟨ys, hys⟩ : ∃ ys, endT (clT p) (nn p - 1) [v0] = ys := ⟨_, rfl⟩
  have hyl : ys.length ≤ 6 := by rw [← hys, endT_length]; simp; omega
  obtain ⟨i0, hi0, hz0, hz1, hz2⟩ := info_parts infoI
  have Hf := hide hf
  have Hp := hide hp
  have Hys := hide hys
  have Hyl := hide hyl
  have Hnn : Hid (p.n = (nn p : Int)) := by unfold Hid; omega
  clear hf hp hys hyl
  go_enter Try.func102, Try.ntmps102
  go_upto_region 1 with fail
  generalize w.alloc (.cells #[.int .i64 p.n, .slice A p.bs.length c] 32) = W at hD hXW ⊢
  have p0 := hD.c0
  have p1 := hD.c1
  go_upto_region 4 with (first
    | (go_at_call 127; go_fit (sStartOk1_c p Hf.out v0 hv0 A' b' o' c' A b o c _ _ hn (Nat.le_refl _) hD.rd hXW); rintro e w2 ⟨rfl, hb⟩; replace hXW := (hXW.below hb).more hb.size; replace hD := hD.below hb; clear p0 p1; have p0 := hD.c0; have p1 := hD.c1)
    | (go_at_call 116; go_fit (sClosed_c p A b o c _ _ Hp.out (Nat.le_refl _) hD.rd); rintro e w3 ⟨ob, c4, rb, rc, rfl, hT, hb⟩; replace hXW := (hXW.below hb).more hb.size; replace hD := hD.below hb))
  clear hb p0 p1
  have hws := hD.bel.size
  have hDl := hD.ex
  have hnews : NewsAt (w3.alloc (.cells #[] 3)) A' 1 [.int .i64 v0] := (hXW.below (show Below w3.heap.size w3 (w3.alloc (.cells #[] 3)) by go_grown)).news
  go_upto_region 6 with (at_builtin; refine app_list _ rfl (.tmp 18) (.tmp 19) _ rfl w3.heap.size 3 i0 _ 1 8 Try.underlying28 hi0 hz0 hz1 hz2 rfl (by omega) (.slice (some ⟨w3.heap.size, 0, none⟩) 0 0) 0 [] rfl (own_empty (at_new rfl) (Nat.le_refl _)) A' 1 c' [.int .i64 v0] rfl rfl hnews (by simp [Value.oneCell']) (by omega) (by omega) (by simp only [World.size_alloc]; omega) ?_; intro A4 c4b w4 hown4 hg4 hat4)
  simp only [Nat.zero_add, List.nil_append] at hown4
  have hWb : Below w3.heap.size w3 w4 := below_app (show Below w3.heap.size w3 (w3.alloc (.cells #[] 3)) by go_grown) (own_empty (size := 1) (at_new rfl) (Nat.le_refl _)) hg4 (Nat.le_refl _) (by simp only [World.size_alloc]; omega)
  clear hg4 hat4 hnews
  have hn6' : [v0].length ≤ nn p := by simp; omega
  go_loopg [7, 8] (nn p - 1) (fun gh s s2 wr => ∃ (xs : List Int) (A1 : Option Addr) (c1 : Nat), xs.length ≤ nn p ∧ gh = nn p - xs.length ∧ s = .slice A1 xs.length c1 ∧ s2 = .int .i64 xs.length ∧ Hid (endT (clT p) (nn p - xs.length) xs = ys) ∧ Hid (AbsTo xs (600 * xs.length)) ∧ Below w3.heap.size w3 wr ∧ OwnI w3.heap.size wr (.slice A1 xs.length c1) xs)
  case atStart => exact ⟨[v0], A4, c4b, hn6', rfl, rfl, rfl, Hys, fun i => by cases i <;> simp <;> omega, hWb, hown4⟩
  case round =>
    clear hWb hown4
    obtain ⟨xs, A1, c1, hk, rfl, rfl, rfl, HE, Hx, hW, hown⟩ := hrel
    have p0 := ((bcell hW).1 _ 0 hDl).trans hD.c0
    by_cases hlt : xs.length < nn p
    · have hz : (xs.length : Int) < p.n := by have := Hnn.out; omega
      obtain ⟨v, hv⟩ : ∃ v, nextT (clT p) xs = v := ⟨_, rfl⟩
      have hva := nextT_abs hS Hx.out (by omega) (by omega) hlt
      rw [hv] at hva
      have hl2 : (xs ++ [v]).length = xs.length + 1 := by simp
      have HE2 : Hid (endT (clT p) (nn p - (xs.length + 1)) (xs ++ [v]) = ys) := by
        unfold Hid
        rw [← HE.out, show nn p - xs.length = (nn p - (xs.length + 1)) + 1 by omega, endT, hv]
      have Hx2 : Hid (AbsTo (xs ++ [v]) (600 * (xs.length + 1 : Nat))) := by
        have h := absTo_next Hx.out (by omega) hva
        intro i
        have := h i
        omega
      have hab := nwTo_abs hS Hx.out (by omega) (by omega) hlt xs.length (by omega)
      obtain ⟨lo, hi, hwe⟩ : ∃ lo hi, nwTo (clT p) xs xs.length xs.length = (lo, hi) := ⟨_, _, rfl⟩
      have HvE : Hid (v = if -100000 < lo then lo else if hi < 100000 then hi else 0) := by unfold Hid; rw [← hv]; unfold nextT; rw [hwe]
      rw [hwe] at hab
      dsimp only at hab
      obtain ⟨hlo, hhi⟩ := hab
      have Hl2 := hide hl2
      have HwE := hide hwe
      clear hv hl2 hwe
      obtain ⟨g1, hrd⟩ := own_IntsR hown
      have hTr := (hT.below hW).more hW.size
      have hM : (0 : Int) ≤ 600 * (xs.length : Int) ∧ 600 * (xs.length : Int) ≤ 10000 := by omega
      have hWs := hW.size
      by_cases g1' : -100000 < lo
      · have e : v = lo := by rw [HvE.out, if_pos g1']
        subst e
        go_wp2_with (first
          | (go_at_call 128; go_fit (l4Window_c (nn p) ob (clT p) rb rc c4 xs (600 * xs.length) A1 g1 0 c1 _ _ (by omega) hlt (Nat.le_refl _) hrd hTr hS Hx.out hM.1 hM.2); rintro e wl ⟨rfl, hbl⟩; rw [HwE.out]; dsimp only; replace hW := bthen hW hbl; replace hown := own_below hown hbl; have hWs := hW.size; clear p0; have p0 := ((bcell hW).1 _ 0 hDl).trans hD.c0)
          | (at_builtin; refine app_list _ rfl (.tmp 42) (.tmp 44) _ rfl w3.heap.size 3 i0 _ 1 8 Try.underlying28 hi0 hz0 hz1 hz2 rfl (by omega) (.slice A1 xs.length c1) xs.length (xs.map (Value.int .i64)) rfl (hown.alloc _) _ 1 _ [.int .i64 v] rfl rfl (NewsAt.block (cs := #[.int .i64 v]) (at_new rfl)) (by simp [Value.oneCell']) (by omega) (by omega) (by simp only [World.size_alloc]; omega) ?_; intro A5 c5 w5 hown5 hg5 hat5))
        have hW5 : Below w3.heap.size w3 w5 := below_app (bthen hW (show Below wl.heap.size wl (wl.alloc (.cells #[.int .i64 v] 3)) by go_grown)) (hown.alloc (.cells #[.int .i64 v] 3)) hg5 (Nat.le_refl _) (by simp only [World.size_alloc]; omega)
        go_roundg (nn p - (xs.length + 1))
        case measure => go_light; omega
        case rel =>
          go_light
          have hl2 := Hl2.out
          exact ⟨xs ++ [v], A5, c5, by omega, by rw [hl2], by rw [hl2], by rw [hl2]; first | rfl | (congr 1), by rw [hl2]; exact HE2, by rw [hl2]; exact Hx2, hW5, by unfold OwnI; rw [hl2, List.map_append]; exact hown5⟩
      · by_cases g2' : hi < 100000
        · have e : v = hi := by rw [HvE.out, if_neg g1', if_pos g2']
          subst e
          go_wp2_with (first
            | (go_at_call 128; go_fit (l4Window_c (nn p) ob (clT p) rb rc c4 xs (600 * xs.length) A1 g1 0 c1 _ _ (by omega) hlt (Nat.le_refl _) hrd hTr hS Hx.out hM.1 hM.2); rintro e wl ⟨rfl, hbl⟩; rw [HwE.out]; dsimp only; replace hW := bthen hW hbl; replace hown := own_below hown hbl; have hWs := hW.size; clear p0; have p0 := ((bcell hW).1 _ 0 hDl).trans hD.c0)
            | (at_builtin; refine app_list _ rfl (.tmp 49) (.tmp 51) _ rfl w3.heap.size 3 i0 _ 1 8 Try.underlying28 hi0 hz0 hz1 hz2 rfl (by omega) (.slice A1 xs.length c1) xs.length (xs.map (Value.int .i64)) rfl (hown.alloc _) _ 1 _ [.int .i64 v] rfl rfl (NewsAt.block (cs := #[.int .i64 v]) (at_new rfl)) (by simp [Value.oneCell']) (by omega) (by omega) (by simp only [World.size_alloc]; omega) ?_; intro A5 c5 w5 hown5 hg5 hat5))
          have hW5 : Below w3.heap.size w3 w5 := below_app (bthen hW (show Below wl.heap.size wl (wl.alloc (.cells #[.int .i64 v] 3)) by go_grown)) (hown.alloc (.cells #[.int .i64 v] 3)) hg5 (Nat.le_refl _) (by simp only [World.size_alloc]; omega)
          go_roundg (nn p - (xs.length + 1))
          case measure => go_light; omega
          case rel =>
            go_light
            have hl2 := Hl2.out
            exact ⟨xs ++ [v], A5, c5, by omega, by rw [hl2], by rw [hl2], by rw [hl2]; first | rfl | (congr 1), by rw [hl2]; exact HE2, by rw [hl2]; exact Hx2, hW5, by unfold OwnI; rw [hl2, List.map_append]; exact hown5⟩
        · have e : v = 0 := by rw [HvE.out, if_neg g1', if_neg g2']
          subst e
          go_wp2_with (first
            | (go_at_call 128; go_fit (l4Window_c (nn p) ob (clT p) rb rc c4 xs (600 * xs.length) A1 g1 0 c1 _ _ (by omega) hlt (Nat.le_refl _) hrd hTr hS Hx.out hM.1 hM.2); rintro e wl ⟨rfl, hbl⟩; rw [HwE.out]; dsimp only; replace hW := bthen hW hbl; replace hown := own_below hown hbl; have hWs := hW.size; clear p0; have p0 := ((bcell hW).1 _ 0 hDl).trans hD.c0)
            | (at_builtin; refine app_list _ rfl (.tmp 36) (.tmp 37) _ rfl w3.heap.size 3 i0 _ 1 8 Try.underlying28 hi0 hz0 hz1 hz2 rfl (by omega) (.slice A1 xs.length c1) xs.length (xs.map (Value.int .i64)) rfl (hown.alloc _) _ 1 _ [.int .i64 (0 : Int)] rfl rfl (NewsAt.block (cs := #[.int .i64 (0 : Int)]) (at_new rfl)) (by simp [Value.oneCell']) (by omega) (by omega) (by simp only [World.size_alloc]; omega) ?_; intro A5 c5 w5 hown5 hg5 hat5))
          have hW5 : Below w3.heap.size w3 w5 := below_app (bthen hW (show Below wl.heap.size wl (wl.alloc (.cells #[.int .i64 (0 : Int)] 3)) by go_grown)) (hown.alloc (.cells #[.int .i64 (0 : Int)] 3)) hg5 (Nat.le_refl _) (by simp only [World.size_alloc]; omega)
          go_roundg (nn p - (xs.length + 1))
          case measure => go_light; omega
          case rel =>
            go_light
            have hl2 := Hl2.out
            exact ⟨xs ++ [(0 : Int)], A5, c5, by omega, by rw [hl2], by rw [hl2], by rw [hl2]; first | rfl | (congr 1), by rw [hl2]; exact HE2, by rw [hl2]; exact Hx2, hW5, by unfold OwnI; rw [hl2, List.map_append]; exact hown5⟩
    · have he : Hid (xs = ys) := by
        unfold Hid
        rw [← HE.out, show nn p - xs.length = 0 by omega]; rfl
      have hz : ¬ (xs.length : Int) < p.n := by have := Hnn.out; omega
      go_wp2_with fail
      go_ret2
      have e := he.out
      subst e
      exact ⟨A1, c1, xs, rfl, Hyl.out, own_less hown hws, hD.bel.trans (hW.mono hws)⟩
end Go.Proofs.Ytledgblepdjjlaa
