/-
  The draws of the reference: for RunOf.
  The law of RunOf: its walk.
-/
import Derived.Test.YtjlaljnffmncpaaD6
import Derived.Test.YtjlaljnffmncpaaE4
import Derived.Test.YtjlaljnffmncpaaW4
import Derived.Test.YtjlaljnffmncpaaS11
import Derived.Test.YtjlaljnffmncpaaL20
import Derived.Test.YtjlaljnffmncpaaL6
import Derived.Test.YtjlaljnffmncpaaP10
namespace Go.Proofs.Ytjlaljnffmncpaa
set_option linter.unusedVariables false
set_option linter.unusedSimpArgs false
open Go.RowKit Pp

theorem rp_set {W : World} {X b o g k : Nat} {n : Int} {A : Option Addr} {c : Nat} {bs : List Bd} {v : Value} (h : RP W X b o n A c bs) (hX : X ≠ g) (hb : 0 < bs.length → b ≠ g) : RP (W.setCell ⟨g, k, none⟩ v) X b o n A c bs :=
  h.grown (grown_set W ⟨g, k, none⟩ v) (fun e => by injection e with e; exact hX e) (fun h0 e => by injection e with e; exact hb h0 e)
theorem below_far {w0 W W' : World} {B g : Nat} (h : Below B w0 W) (hg : W.grownBy W' (some g)) (hB : B ≤ g) (hs : B ≤ W.heap.size) : Below B w0 W' := h.grown hg hs (fun k hk => by injection hk with e; omega)

set_option maxHeartbeats 4000000 in
set_option maxRecDepth 100000 in
theorem drawRun_c (A0 : Option Addr) (n0 c0 : Nat) (zs : List Int) (w : World) (hn0 : n0 ≤ 1048576) (hc0 : n0 ≤ c0) (hA0 : n0 = 0 ∨ A0.isSome = true) (hb0 : BytesAt w w.heap.size A0 n0 zs) :
    Calls Try.prog 66 #[.slice A0 n0 c0] w fun e w' =>
      ∃ n A c bs b At ct xs bt, e = .returned (.tuple #[.agg #[.int .i64 n, .slice A bs.length c], .slice At xs.length ct]) ∧ (0 ≤ n ∧ n ≤ 7) ∧ bs.length ≤ 16 ∧ xs.length ≤ 6 ∧ (∀ x ∈ xs, -1 ≤ x ∧ x ≤ 6) ∧ BdsR w' w'.heap.size b 0 A bs ∧ IntsR w' w'.heap.size bt 0 At xs ∧ Below w.heap.size w w' := by
  obtain ⟨i0, hi0, hz0, hz1, hz2⟩ := info_parts infoI
  have hZ : ZB w (w.alloc (.cells #[.int .i64 0, .slice none 0 0] 25)) w.heap.size := zb_new (Nat.le_refl _)
  have hW : Below w.heap.size w (w.alloc (.cells #[.int .i64 0, .slice none 0 0] 25)) := by go_grown
  go_enter Try.func66, Try.ntmps66
  go_upto_region 1 with fail
  have hYx := hZ.ex
  have hbz := hb0.below hW hW.size
  generalize w.alloc (.cells #[.int .i64 0, .slice none 0 0] 25) = W at hZ hW hYx hbz ⊢
  go_upto_region 3 with (first
    | (go_at_call 80; go_fit (open_c A0 n0 c0 zs _ hn0 hc0 hA0 hbz); rintro e w1 ⟨rfl, hR1, hb1, hs1⟩; replace hZ := hZ.below hb1; replace hW := bthen hW hb1)
    | (go_at_call 88; go_fit (joined_c _ 0 _ _ (by omega) (by omega) hR1); rintro e w2 ⟨n, A, c, bs, rfl, hn, hlen, hsm, hown, hR2, G2⟩))
  have hgY : w.heap.size < W.heap.size := hYx
  generalize W.heap.size = g at hR1 hR2 G2 hs1 hgY ⊢
  have hZ2 := hZ.grown G2 (fun q hq => by cases hq; omega)
  have hW2 := below_far hW G2 (Nat.le_of_lt hgY) hW.size
  have hT12 := G2.size
  obtain ⟨b, hrd⟩ := OwnB.readsA hown
  have hbg : 0 < bs.length → w1.heap.size ≤ b := fun h => (own_at hown hrd h).1
  have hP := rp_new (n := n) (c := c) (t := 25) hrd
  have hb3 : Below w2.heap.size w2 (w2.alloc (.cells #[.int .i64 n, .slice A bs.length c] 25)) := by go_grown
  have hR3 := hR2.below hb3
  have hZ3 := hZ2.below hb3
  have hW3 := bthen hW2 hb3
  have hX2 : g < w2.heap.size := by omega
  have hg1 : g < w1.heap.size := by omega
  have hX3 : w2.heap.size < (w2.alloc (.cells #[.int .i64 n, .slice A bs.length c] 25)).heap.size := by simp
  generalize w2.alloc (.cells #[.int .i64 n, .slice A bs.length c] 25) = W3 at hP hR3 hZ3 hW3 hX3 ⊢
  have hb2s : 0 < bs.length → b < w2.heap.size := hrd.lt
  generalize w2.heap.size = X at hP hX2 hX3 hb2s ⊢
  clear hZ hW hbz hR1 hR2 G2 hs1 hZ2 hW2 hT12 hown hrd hb3 hsm
  have hE : OwnI W3.heap.size (W3.alloc (.cells #[] 3)) (.slice (some ⟨W3.heap.size, 0, none⟩) 0 0) [] := own_empty (at_new rfl) (Nat.le_refl _)
  have hR4 := hR3.alloc (.cells #[] 3)
  have hZ4 := hZ3.below (show Below W3.heap.size W3 (W3.alloc (.cells #[] 3)) by go_grown)
  have hW4 := bthen hW3 (show Below W3.heap.size W3 (W3.alloc (.cells #[] 3)) by go_grown)
  have hP4 := hP.alloc (.cells #[] 3)
  go_upto_region 4 with fail
  have hsz4 : W3.heap.size ≤ (W3.alloc (.cells #[] 3)).heap.size := by simp
  generalize W3.alloc (.cells #[] 3) = W4 at hE hR4 hZ4 hW4 hP4 hsz4 ⊢
  generalize W3.heap.size = T at hE hsz4 hX3 ⊢
  clear hP hR3 hZ3 hW3
  go_wp2_with (go_at_call 89; go_fit (pick_c g (0 + 200) _ _ (by omega) (by omega) hR4); rintro e w5 ⟨v0, rfl, a1, a2, _, hR5, G5, hs5⟩)
  have a3 := a2 (by omega)
  obtain ⟨jn, rfl⟩ := Int.eq_ofNat_of_zero_le a1
  have hE5 : OwnI T w5 (.slice (some ⟨T, 0, none⟩) 0 0) [] := own_far hE G5 (by omega)
  have hP5 := hP4.grown G5 (fun e => by injection e with e; omega) (fun h e => by injection e with e; have := hbg h; omega)
  have hZ5 := hZ4.grown G5 (fun q hq => by cases hq; omega)
  have hW5 := below_far hW4 G5 (Nat.le_of_lt hgY) hW4.size
  have hs5' : T ≤ w5.heap.size := by omega
  clear hE hR4 hZ4 hW4 hP4 G5 hs5 a2 a1 hsz4
  go_loopg [6, 7] (jn + 1) (fun gh s6 s7 wr => ∃ (j : Nat) (xs : List Int) (At : Option Addr) (ct : Nat), gh = j + 1 ∧ s7 = .int .i64 j ∧ j ≤ 6 ∧ s6 = .slice At xs.length ct ∧ xs.length + j ≤ 6 ∧ (∀ x ∈ xs, -1 ≤ x ∧ x ≤ 6) ∧ OwnI T wr (.slice At xs.length ct) xs ∧ RdO wr g (1000 - 10 * (j : Int)) ∧ RP wr X b 0 n A c bs ∧ ZB w wr w.heap.size ∧ Below w.heap.size w wr ∧ T ≤ wr.heap.size)
  case atStart => exact ⟨jn, [], _, 0, rfl, rfl, by omega, rfl, by simp; omega, by simp, hE5, hR5.more (by omega), hP5, hZ5, hW5, hs5'⟩
  case round =>
    clear hE5 hR5 hP5 hZ5 hW5 hs5' a3
    obtain ⟨j, xs, At, ct, rfl, rfl, hj6, rfl, hxl, hxb, hown, hR, hP, hZ, hW, hTs⟩ := hrel
    by_cases hj : j = 0
    · subst hj
      have p0 := hP.c0
      have p1 := hP.c1
      have z0 := hZ.z0
      have z1 := hZ.z1
      have zf0 := hZ.zf 0
      have zf1 := hZ.zf 1
      have hXY : X ≠ w.heap.size := by omega
      obtain ⟨r0, r1⟩ := two_cells (a := .int .i64 n) (b := .slice A bs.length c) z0 z1
      have hW6 : Below w.heap.size w ((wr.setCell ⟨w.heap.size, 0, none⟩ (.int .i64 n)).setCell ⟨w.heap.size, 1, none⟩ (.slice A bs.length c)) := (hW.setCell (p := ⟨w.heap.size, 0, none⟩) (Nat.le_refl _) _).setCell (p := ⟨w.heap.size, 1, none⟩) (Nat.le_refl _) _
      have hP6 : RP ((wr.setCell ⟨w.heap.size, 0, none⟩ (.int .i64 n)).setCell ⟨w.heap.size, 1, none⟩ (.slice A bs.length c)) X b 0 n A c bs := rp_set (rp_set hP hXY (fun h => by have := hbg h; omega)) hXY (fun h => by have := hbg h; omega)
      have hown6 : OwnI T ((wr.setCell ⟨w.heap.size, 0, none⟩ (.int .i64 n)).setCell ⟨w.heap.size, 1, none⟩ (.slice A bs.length c)) (.slice At xs.length ct) xs := own_set_low (p := ⟨w.heap.size, 1, none⟩) (own_set_low (p := ⟨w.heap.size, 0, none⟩) hown (by dsimp only; omega) _) (by dsimp only; omega) _
      obtain ⟨bt, hrt⟩ := own_IntsR hown6
      have hrd6 := hP6.rd
      clear hP6 hown6
      go_wp2_with fail
      refine bodyPost_ret (v := .tuple #[.agg #[.int .i64 n, .slice A bs.length c], .slice At xs.length ct]) (by simp [results, Try.results66, go_sem, r0, r1]) rfl ?_
      exact ⟨n, A, c, bs, b, At, ct, xs, bt, rfl, hn, hlen, by omega, hxb, hrd6, hrt, hW6⟩
    · have hjz : (0 : Int) < (j : Int) := by omega
      go_wp2_with (first
        | (go_at_call 89; go_fit (pick_c g (1000 - 10 * (j : Int)) _ _ (by omega) (by omega) hR); rintro e w6 ⟨v3, rfl, b1, b2, _, hR6, G6, hs6⟩; have b3 := b2 (by omega))
        | (go_at_call 89; go_fit (pick_c g (1000 - 10 * (j : Int) + 1) _ _ (by omega) (by omega) hR6); rintro e w7 ⟨v4, rfl, d1, d2, _, hR7, G7, hs7⟩; have d3 := d2 (by omega); have hown7 := own_far (own_far hown G6 (by omega)) G7 (by omega))
        | (at_builtin; refine app_list _ rfl (.tmp 19) (.tmp 26) _ rfl T 3 i0 _ 1 8 Try.underlying44 hi0 hz0 hz1 hz2 rfl (by omega) (.slice At xs.length ct) xs.length (xs.map (Value.int .i64)) rfl (hown7.alloc _) _ 1 _ [.int .i64 (v3 - v4 / 19)] rfl rfl (NewsAt.block (cs := #[.int .i64 (v3 - v4 / 19)]) (at_new (by omega))) (by simp [Value.oneCell']) (by omega) (by omega) (by simp only [World.size_alloc]; omega) ?_; intro A8 c8 w8 hown8 hg8 hat8))
      have G := gr_pick G6 G7
      have hP7 := hP.grown G (fun e => by injection e with e; omega) (fun h e => by injection e with e; have := hbg h; omega)
      have hZ7 := hZ.grown G (fun q hq => by cases hq; omega)
      have hW7 := below_far hW G (Nat.le_of_lt hgY) hW.size
      have hq := fun k (hk : (Value.slice At xs.length ct).ownBlock = some k) => (hown7.lt k hk).1
      have hb7 : Below w7.heap.size w7 (w7.alloc (.cells #[.int .i64 (v3 - v4 / 19)] 3)) := by go_grown
      have hs8 : T ≤ (w7.alloc (.cells #[.int .i64 (v3 - v4 / 19)] 3)).heap.size := by simp only [World.size_alloc]; omega
      have hW8 : Below w.heap.size w w8 := below_app (bthen hW7 hb7) (hown7.alloc (.cells #[.int .i64 (v3 - v4 / 19)] 3)) hg8 (by omega) hs8
      have hP8 : RP w8 X b 0 n A c bs := (hP7.below hb7).grown hg8 (fun e => by have := hq _ e.symm; omega) (fun h e => by have := hq _ e.symm; have := hb2s h; omega)
      have hZ8 := (hZ7.below hb7).grown hg8 (fun q e => by have := hq q e; omega)
      have hR8 := (hR7.below hb7).other hg8 (fun k e => by have := hq k e; omega)
      obtain ⟨j', rfl⟩ : ∃ j', j = j' + 1 := ⟨j - 1, by omega⟩
      go_roundg (j' + 1)
      case measure => go_light; omega
      case rel =>
        go_light
        have hl2 : (xs ++ [v3 - v4 / 19]).length = xs.length + 1 := by simp
        refine ⟨j', xs ++ [v3 - v4 / 19], A8, c8, rfl, by go_num, by omega, by rw [hl2], by rw [hl2]; omega, ?_, by unfold OwnI; rw [hl2, List.map_append]; exact hown8, hR8.more (by omega), hP8, hZ8, hW8, Nat.le_trans hs8 hg8.size⟩
        intro x hx
        rcases List.mem_append.1 hx with hx | hx
        · exact hxb x hx
        · rw [List.mem_singleton] at hx; omega

set_option maxRecDepth 100000 in
theorem sameState_yes (n : Int) (xs : List Int) (A A' : Option Addr) (b o c b' o' c' B : Nat) (w : World) (hn : xs.length ≤ 2000000) (hB : B ≤ w.heap.size) (hR : IntsR w B b o A xs) (hR' : IntsR w B b' o' A' xs) :
    Calls Try.prog 63 #[.agg #[.int .i64 n, .slice A xs.length c], .agg #[.int .i64 n, .slice A' xs.length c']] w fun e w' => e = .returned (.bool true) ∧ Below w.heap.size w w' := by
  have hW : Below w.heap.size w ((w.alloc (.cells #[.int .i64 n, .slice A xs.length c] 70)).alloc (.cells #[.int .i64 n, .slice A' xs.length c'] 70)) := by go_grown
  go_enter Try.func63, Try.ntmps63
  go_wp2_with (go_at_call 31; go_fit (sameInts_yes xs A A' b o c b' o' c' B _ hn (Nat.le_trans hB hW.size) (hR.below (hW.mono hB)) (hR'.below (hW.mono hB))); rintro e w5 ⟨rfl, hb5⟩)
  go_ret
  exact ⟨rfl, bthen hW hb5⟩

set_option maxHeartbeats 1000000 in
set_option maxRecDepth 100000 in
theorem hasInt_no (v : Int) (xs : List Int) (A : Option Addr) (b o c B : Nat) (w : World) (hn : xs.length ≤ 2000000) (hR : IntsR w B b o A xs) (hv : ∀ x ∈ xs, x ≠ v) :
    Calls Try.prog 70 #[.slice A xs.length c, .int .i64 v] w fun e w' => e = .returned (.bool false) ∧ w = w' := by
  have Hv := hide hv
  clear hv
  go_enter Try.func70, Try.ntmps70
  go_wp2_with fail
  go_loopg [5] xs.length (fun gh s5 wr => wr = w ∧ ∃ i : Nat, i ≤ xs.length ∧ gh = xs.length - i ∧ s5 = .int .i64 i)
  case atStart => exact ⟨rfl, 0, Nat.zero_le _, rfl, rfl⟩
  case round =>
    obtain ⟨rfl, i, hi, rfl, rfl⟩ := hrel
    by_cases hlt : i < xs.length
    · have hlt' : (i : Int) < (xs.length : Int) := by omega
      obtain rfl := hR.addr (by omega)
      have d0 := hR.cell i hlt
      have hne : xs.getD i 0 ≠ v := by
        rw [List.getD_eq_getElem?_getD, List.getElem?_eq_getElem hlt]
        exact Hv.out _ (List.getElem_mem hlt)
      generalize xs.getD i 0 = x at d0 hne
      have hne' : (x == v) = false := by simp [hne]
      clear hne
      go_wp2_with fail
      go_roundg (xs.length - (i + 1))
      case measure => go_light; omega
      case rel => go_light; exact ⟨rfl, i + 1, by omega, rfl, by go_num⟩
    · obtain rfl : i = xs.length := by omega
      go_wp2_with fail
      go_ret
      exact ⟨rfl, rfl⟩

set_option maxHeartbeats 8000000 in
set_option maxRecDepth 100000 in
theorem lawRun_c (a0 : Option Addr) (len0 cap0 : Nat) (z0 : List Int) (w : World) (w0 : RowU w a0 len0 cap0 z0) :
    Calls Try.prog 12 #[.slice a0 len0 cap0] w fun e w' => e = .returned (.bool true) ∧ Below w.heap.size w w' := by
  obtain ⟨hlc, hAs, hby⟩ := w0.bytes
  clear w0
  by_cases hlen : (1048576 : Int) < (len0 : Int)
  · go_enter Try.func12, Try.ntmps12
    go_wp2_with fail
    go_ret
    exact ⟨rfl, Below.refl _ _⟩
  · go_enter Try.func12, Try.ntmps12
    go_upto_region 4 with (go_at_call 66; go_fit (drawRun_c a0 len0 cap0 z0 _ (by omega) hlc hAs hby); rintro e w1 ⟨n, A, c, bs, b, At, ct, xs, bt, rfl, ⟨hn0, hn7⟩, hbl, hxl, hxb, hrd, hI, hW⟩)
    have hP := pb_new (n := n) (c := c) (t := 25) hW hrd
    have hba : Below w1.heap.size w1 (w1.alloc (.cells #[.int .i64 n, .slice A bs.length c] 25)) := by go_grown
    replace hI := (hI.below hba).more hba.size
    generalize w1.alloc (.cells #[.int .i64 n, .slice A bs.length c] 25) = wa at hP hI ⊢
    generalize w1.heap.size = X at hP ⊢
    clear hW hrd hlen hby hAs hba
    have hbl6 : bs.length ≤ 2000000 := by omega
    have hxl6 : xs.length ≤ 2000000 := by omega
    have hx : ∀ (j : Nat) (y : Int), xs[j]? = some y → -9223372036854775808 ≤ y ∧ y ≤ 9223372036854775807 := fun j y h => by
      have := hxb y (List.mem_of_getElem? h); omega
    have Hx := hide hx
    clear hx hxb hxl
    have p0 := hP.c0
    have p1 := hP.c1
    obtain ⟨q, ok, hq⟩ : ∃ q ok, runOf ⟨n, bs⟩ xs = (q, ok) := ⟨_, _, rfl⟩
    have Hq := hide hq
    have hql : q.done.length ≤ 2000000 := by
      unfold runOf at hq
      split at hq
      · rename_i hf
        injection hq with e1 e2
        have h := (stateOk_iff.1 (runTo_ok hf xs (nn ⟨n, bs⟩))).len
        have h6 := (nn_ok (planOk_of_fits hf)).1
        rw [e1] at h
        omega
      · injection hq with e1 e2; subst e1; exact Nat.zero_le _
    clear hq
    go_upto_region 5 with (go_at_call 67; go_fit (runOf_c ⟨n, bs⟩ xs q ok Hq.out Hx.out A At b 0 c bt 0 ct _ _ hbl6 hxl6 (Nat.le_refl _) hP.rd hI); rintro e w2 ⟨A2, c2, g2, rfl, hr2, _, hb2⟩)
    have hb3 : Below w2.heap.size w2 (w2.alloc (.cells #[.int .i64 q.now, .slice A2 q.done.length c2] 70)) := by go_grown
    have h5 := rs_new (n := q.now) (c := c2) (t := 70) hr2
    replace hP := hP.below (bthen hb2 hb3)
    replace hI := (hI.below (bthen hb2 hb3)).more (bthen hb2 hb3).size
    generalize w2.alloc (.cells #[.int .i64 q.now, .slice A2 q.done.length c2] 70) = w3 at hP hI h5 ⊢
    generalize w2.heap.size = X5 at h5 ⊢
    clear hr2 hb2 hb3 p0 p1
    have p0 := hP.c0
    have p1 := hP.c1
    go_upto_region 6 with (go_at_call 68; go_fit (sRunOf_c ⟨n, bs⟩ xs q ok Hq.out Hx.out A At b 0 c bt 0 ct _ _ hbl6 hxl6 (Nat.le_refl _) hP.rd hI); rintro e w4 ⟨A4, c4, g4, rfl, hr4, _, hb4⟩)
    have hb5 : Below w4.heap.size w4 (w4.alloc (.cells #[.int .i64 q.now, .slice A4 q.done.length c4] 70)) := by go_grown
    have h7 := rs_new (n := q.now) (c := c4) (t := 70) hr4
    replace hP := hP.below (bthen hb4 hb5)
    replace h5 := h5.below (bthen hb4 hb5)
    generalize w4.alloc (.cells #[.int .i64 q.now, .slice A4 q.done.length c4] 70) = w5 at hP h5 h7 ⊢
    generalize w4.heap.size = X7 at h7 ⊢
    clear hr4 hb4 hb5 p0 p1 hI
    have i0 := h5.c0
    have i1 := h5.c1
    have j0 := h7.c0
    have j1 := h7.c1
    go_upto_region 8 with (go_at_call 63; go_fit (sameState_yes q.now q.done A2 A4 g2 0 c2 g4 0 c4 _ _ hql (Nat.le_refl _) h5.rd h7.rd); rintro e w6 ⟨rfl, hb6⟩; replace hP := hP.below hb6; replace h5 := h5.below hb6)
    clear i0 i1 j0 j1 h7 hb6
    have p0 := hP.c0
    have p1 := hP.c1
    have i0 := h5.c0
    have i1 := h5.c1
    cases hf : fits ⟨n, bs⟩
    · have e : (q, ok) = (⟨0, []⟩, false) := by rw [← Hq.out]; unfold runOf; rw [hf]; rfl
      injection e with e1 e2
      subst e1 e2
      have Hf := hide hf
      clear hf
      dsimp only at *
      go_wp2_with (first
        | (go_at_call 63; go_fit (sameState_yes 0 [] A2 none g2 0 c2 0 0 0 _ _ (by simp) (Nat.le_refl _) h5.rd (IntsR.nil _ _ _)); rintro e w7 ⟨rfl, hb7⟩; replace hP := hP.below hb7; clear p0 p1; have p0 := hP.c0; have p1 := hP.c1)
        | (go_at_call 39; go_fit (fitsOk_c ⟨n, bs⟩ A b 0 c _ _ hbl6 (Nat.le_refl _) hP.rd); rintro e w8 ⟨rfl, hb8⟩; rw [Hf.out]; replace hP := hP.below hb8)
        | (go_at_call 19; go_fit (alive_c _); rintro e w9 ⟨rfl, hb9⟩; replace hP := hP.below hb9))
      go_ret
      exact ⟨rfl, hP.bel⟩
    · have e : (q, ok) = (runTo ⟨n, bs⟩ xs (nn ⟨n, bs⟩), true) := by rw [← Hq.out]; unfold runOf; rw [hf]; rfl
      injection e with e1 e2
      subst e2
      obtain ⟨s1, hs1⟩ : ∃ s1, (stateNew ⟨n, bs⟩).1 = s1 := ⟨_, rfl⟩
      have H2 : Hid (stateNew ⟨n, bs⟩ = (s1, true)) := by unfold Hid; rw [← hs1]; unfold stateNew; rw [hf]; rfl
      have Hso : Hid (stateOk ⟨n, bs⟩ q = true) := by unfold Hid; rw [e1]; exact runTo_ok hf xs _
      have hs1l : s1.done.length ≤ 2000000 := by
        have h := (stateOk_iff.1 (stateNew_ok hf)).len
        have h6 := (nn_ok (planOk_of_fits hf)).1
        rw [hs1] at h
        omega
      have hlaw : goesOn ⟨n, bs⟩ s1 = true → (∀ x ∈ q.done, x ≠ -1) ∧ keepsOk ⟨n, bs⟩ q.done = true := fun h => by
        rw [e1]; exact run_law hf (by rw [hs1]; exact h) xs
      cases hgo : goesOn ⟨n, bs⟩ s1
      · have Hgo := hide hgo
        clear hgo hlaw e1 hs1 hf
        go_wp2_with (first
          | (go_at_call 69; go_fit (implNew_c ⟨n, bs⟩ s1 true H2.out A b 0 c _ _ hbl6 (Nat.le_refl _) hP.rd); rintro e w7 ⟨A7, c7, g7, rfl, hr7, _, hb7⟩; have hb8 := bthen hb7 (show Below w7.heap.size w7 (w7.alloc (.cells #[.int .i64 s1.now, .slice A7 s1.done.length c7] 70)) by go_grown); have h9 := rs_new (n := s1.now) (c := c7) (t := 70) hr7; replace hP := hP.below hb8; replace h5 := h5.below hb8; clear p0 p1 i0 i1; have p0 := hP.c0; have p1 := hP.c1; have i0 := h5.c0; have i1 := h5.c1; have m0 := h9.c0; have m1 := h9.c1)
          | (go_at_call 64; go_fit (stateOk_c ⟨n, bs⟩ q A A2 b 0 c g2 0 c2 _ _ hbl6 hql (Nat.le_refl _) hP.rd h5.rd); rintro e w8 ⟨rfl, hb8⟩; rw [Hso.out]; replace hP := hP.below hb8; replace h9 := h9.below hb8; clear p0 p1 m0 m1; have p0 := hP.c0; have p1 := hP.c1; have m0 := h9.c0; have m1 := h9.c1)
          | (go_at_call 65; go_fit (goesOn_c ⟨n, bs⟩ s1 A A7 b 0 c g7 0 c7 _ _ hbl6 hs1l (Nat.le_refl _) hP.rd h9.rd); rintro e w10 ⟨rfl, hb10⟩; rw [Hgo.out]; replace hP := hP.below hb10))
        go_ret
        exact ⟨rfl, hP.bel⟩
      · obtain ⟨hno, hke⟩ := hlaw hgo
        have Hgo := hide hgo
        have Hno := hide hno
        have Hke := hide hke
        clear hgo hlaw e1 hs1 hf hno hke
        go_wp2_with (first
          | (go_at_call 69; go_fit (implNew_c ⟨n, bs⟩ s1 true H2.out A b 0 c _ _ hbl6 (Nat.le_refl _) hP.rd); rintro e w7 ⟨A7, c7, g7, rfl, hr7, _, hb7⟩; have hb8 := bthen hb7 (show Below w7.heap.size w7 (w7.alloc (.cells #[.int .i64 s1.now, .slice A7 s1.done.length c7] 70)) by go_grown); have h9 := rs_new (n := s1.now) (c := c7) (t := 70) hr7; replace hP := hP.below hb8; replace h5 := h5.below hb8; clear p0 p1 i0 i1; have p0 := hP.c0; have p1 := hP.c1; have i0 := h5.c0; have i1 := h5.c1; have m0 := h9.c0; have m1 := h9.c1)
          | (go_at_call 64; go_fit (stateOk_c ⟨n, bs⟩ q A A2 b 0 c g2 0 c2 _ _ hbl6 hql (Nat.le_refl _) hP.rd h5.rd); rintro e w8 ⟨rfl, hb8⟩; rw [Hso.out]; replace hP := hP.below hb8; replace h5 := h5.below hb8; replace h9 := h9.below hb8; clear p0 p1 i0 i1 m0 m1; have p0 := hP.c0; have p1 := hP.c1; have i0 := h5.c0; have i1 := h5.c1; have m0 := h9.c0; have m1 := h9.c1)
          | (go_at_call 65; go_fit (goesOn_c ⟨n, bs⟩ s1 A A7 b 0 c g7 0 c7 _ _ hbl6 hs1l (Nat.le_refl _) hP.rd h9.rd); rintro e w10 ⟨rfl, hb10⟩; rw [Hgo.out]; replace hP := hP.below hb10; replace h5 := h5.below hb10; clear p0 p1 i0 i1 m0 m1; have p0 := hP.c0; have p1 := hP.c1; have i0 := h5.c0; have i1 := h5.c1)
          | (go_at_call 70; go_fit (hasInt_no (-1) q.done A2 g2 0 c2 _ _ hql h5.rd Hno.out); rintro e w11 ⟨rfl, rfl⟩)
          | (go_at_call 34; go_fit (keepsOk_c ⟨n, bs⟩ q.done A A2 b 0 c g2 0 c2 _ _ hbl6 hql (Nat.le_refl _) hP.rd h5.rd); rintro e w12 ⟨rfl, hb12⟩; rw [Hke.out]; replace hP := hP.below hb12))
        go_ret
        exact ⟨rfl, hP.bel⟩
end Go.Proofs.Ytjlaljnffmncpaa
