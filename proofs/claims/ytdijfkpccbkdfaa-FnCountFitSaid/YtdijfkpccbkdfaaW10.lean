/-
  The law of CountFit: its walk.
-/
import Derived.Test.YtdijfkpccbkdfaaW10a
import Derived.Test.YtdijfkpccbkdfaaL33
import Derived.Test.YtdijfkpccbkdfaaL30
import Derived.Test.YtdijfkpccbkdfaaS28
import Derived.Test.YtdijfkpccbkdfaaL21
namespace Go.Proofs.Ytdijfkpccbkdfaa
set_option linter.unusedVariables false
set_option linter.unusedSimpArgs false
open Go.RowKit Pp

theorem count_none (p : Pl) : countF p [] 0 [] = if fits p then 1 else 0 := by
  show (if fits (planFor p [] []) then (1 : Int) else 0) = _
  have e : planFor p [] [] = p := by cases p; simp [planFor, forBs]
  rw [e]
set_option maxHeartbeats 4000000 in
set_option maxRecDepth 100000 in
theorem lawCountFit_c (a0 : Option Addr) (len0 cap0 : Nat) (z0 : List Int) (w : World) (w0 : RowU w a0 len0 cap0 z0) :
    Calls Try.prog 9 #[.slice a0 len0 cap0] w fun e w' => e = .returned (.bool true) ∧ Below w.heap.size w w' := by
  obtain ⟨hlc, hAs, hby⟩ := w0.bytes
  clear w0
  obtain ⟨i0, hi0, hz0, hz1, hz2⟩ := info_parts infoPm
  by_cases hlen : (1048576 : Int) < (len0 : Int)
  · go_enter Try.func9, Try.ntmps9
    go_wp2_with fail
    go_ret
    exact ⟨rfl, Below.refl _ _⟩
  · go_enter Try.func9, Try.ntmps9
    go_upto_region 4 with (go_at_call 43; go_fit (drawCount_c a0 len0 cap0 z0 _ (by omega) hlc hAs hby); rintro e w1 ⟨n, A, c, bs, A2, c2, ps, b, b2, rfl, hn, hlb, hlp, HP, hcp, hrd, hrp, hW⟩)
    have hD := pd_law (n := n) (c := c) (c2 := c2) (t := 28) hW hrd hrp
    generalize w1.alloc (.cells #[.int .i64 n, .slice A bs.length c, .slice A2 ps.length c2] 28) = wa at hD ⊢
    generalize w1.heap.size = D at hD ⊢
    clear hW hrd hrp hlen hby hAs
    have hlb' : bs.length ≤ 2000000 := by omega
    have hlp' : ps.length ≤ 2000000 := by omega
    have d0 := hD.r.c0
    have d1 := hD.r.c1
    have d2 := hD.r.c2
    obtain ⟨N, hN⟩ : ∃ N, countR ⟨n, bs⟩ ps = N := ⟨_, rfl⟩
    have HN := hide hN
    have HN2 : Hid ((if dealOk ⟨n, bs⟩ ps then countF ⟨n, bs⟩ ps ps.length [] else -1) = N) := by rw [← hN]; exact (count_same _ _).symm
    clear hN
    go_upto_region 7 with (first
      | (go_at_call 42; go_fit (countFit_c n bs ps A A2 b 0 c b2 0 c2 _ _ hlb' hlp' (Nat.le_refl _) hD.r.rd hD.r.rp); rintro e w2 ⟨rfl, hb2⟩; rw [HN.out]; have hD2 := hD.below hb2; have e0 := hD2.r.c0; have e1 := hD2.r.c1; have e2 := hD2.r.c2)
      | (go_at_call 44; go_fit (sCountFit_q n bs ps A A2 b 0 c b2 0 c2 _ _ hlb' hlp' (Nat.le_refl _) hD2.r.rd hD2.r.rp); rintro e w3 ⟨rfl, hb3⟩; rw [HN2.out]; have hD3 := hD2.below hb3))
    clear d0 d1 d2 e0 e1 e2 hD hD2 hb2 hb3
    have d0 := hD3.r.c0
    have d1 := hD3.r.c1
    have d2 := hD3.r.c2
    cases hd : dealOk ⟨n, bs⟩ ps
    · have Hd := hide hd
      have hNm : N = -1 := by have := HN2.out; rw [hd] at this; exact this.symm
      subst hNm
      clear hd
      go_wp2_with (first
        | (go_at_call 45; go_fit (dealOk_c n bs ps A A2 b 0 c b2 0 c2 _ _ hlb' hlp' (Nat.le_refl _) hD3.r.rd hD3.r.rp); rintro e w4 ⟨rfl, hb4⟩; rw [Hd.out]; have hD4 := hD3.below hb4)
        | (go_at_call 18; go_fit (alive_c w4); rintro e w5 ⟨rfl, hb5⟩; have hD5 := hD4.below hb5))
      go_ret
      exact ⟨rfl, hD5.bel⟩
    · obtain ⟨hp2, hpn⟩ := deal_nums hd
      have hNc : countF ⟨n, bs⟩ ps ps.length [] = N := by have := HN2.out; rw [hd] at this; exact this
      have hNb := countF_bound ⟨n, bs⟩ ps (fun i x hx => hpn x (List.mem_of_getElem? hx)) ps.length []
      rw [hNc] at hNb
      have hN0 : 0 ≤ N := hNb.1
      have hN1 : ¬ N < 0 := by omega
      have hN2 : N ≤ 100000 := by
        have h1 := hNb.2
        have h3 : (13 : Int) ^ ps.length ≤ 2197 := by
          have : ps.length = 0 ∨ ps.length = 1 ∨ ps.length = 2 := by omega
          rcases this with h | h | h <;> rw [h] <;> decide
        omega
      have Hd := hide hd
      have Hpn := hide hpn
      have HNc := hide hNc
      clear hd hpn hNc hNb
      rcases Nat.eq_zero_or_pos ps.length with hl0 | hl0
      · obtain rfl : ps = [] := List.eq_nil_of_length_eq_zero hl0
        cases hf : fits ⟨n, bs⟩
        · have Hf := hide hf
          have hNf : N = 0 := by have := HNc.out; rw [List.length_nil, count_none, hf] at this; exact this.symm
          subst hNf
          clear hf hl0
          go_wp2_with (go_at_call 19; go_fit (fitsOk_c ⟨n, bs⟩ A b 0 c _ _ hlb' (Nat.le_refl _) hD3.r.rd); rintro e w6 ⟨rfl, hb6⟩; rw [Hf.out]; have hD6 := hD3.below hb6)
          go_ret
          exact ⟨rfl, hD6.bel⟩
        · have Hf := hide hf
          have hNf : N = 1 := by have := HNc.out; rw [List.length_nil, count_none, hf] at this; exact this.symm
          subst hNf
          clear hf hl0
          go_wp2_with (go_at_call 19; go_fit (fitsOk_c ⟨n, bs⟩ A b 0 c _ _ hlb' (Nat.le_refl _) hD3.r.rd); rintro e w6 ⟨rfl, hb6⟩; rw [Hf.out]; have hD6 := hD3.below hb6)
          go_ret
          exact ⟨rfl, hD6.bel⟩
      · obtain ⟨k, hk⟩ : ∃ k : Nat, ps.length = k + 1 := ⟨ps.length - 1, by omega⟩
        have hlast : (ps.length : Int) - 1 = (k : Int) := by omega
        have hkp : k < ps.length := by omega
        have hkp' : (k : Int) < (ps.length : Int) := by omega
        have hk0 : ¬ (k : Int) < 0 := by omega
        have hk00 : (0 : Int) ≤ (k : Int) := by omega
        have hkc : (k : Int) ≤ (c2 : Int) := by omega
        have Hk := hide hk
        clear hk
        have hx := List.getElem?_eq_getElem hkp
        have hxn := Hpn.out _ (List.getElem_mem hkp)
        have Hps : Hid (ps = ps.take k ++ [ps[k]]) := by
          have h1 : ps.take (k + 1) = ps.take k ++ [ps[k]] := by rw [List.take_add_one, hx]; rfl
          have h2 : ps.take (k + 1) = ps := List.take_of_length_le (by rw [Hk.out]; exact Nat.le_refl _)
          unfold Hid; rw [← h1, h2]
        generalize ps[k] = x at hx hxn Hps
        obtain rfl := hD3.r.rp.addr hl0
        obtain ⟨e0, e1, e2, e3⟩ := pr_cells hD3.r.rp hx
        rw [Nat.zero_add] at e0 e1 e2 e3
        obtain ⟨x0, x1, x2⟩ := hxn
        clear hx hl0
        go_upto_region 13 with fail
        have hV := cb_new w3 [.int .i64 x.f, .int .i64 x.t, .int .i64 x.l, .int .i64 x.h] 40
        have hal : Below w3.heap.size w3 (w3.alloc (.cells #[.int .i64 x.f, .int .i64 x.t, .int .i64 x.l, .int .i64 x.h] 40)) := by go_grown
        have hD4 := hD3.below hal
        change CB (w3.alloc (.cells #[.int .i64 x.f, .int .i64 x.t, .int .i64 x.l, .int .i64 x.h] 40)) _ _ at hV
        generalize w3.alloc (.cells #[.int .i64 x.f, .int .i64 x.t, .int .i64 x.l, .int .i64 x.h] 40) = W4 at hD4 hV ⊢
        generalize w3.heap.size = V6 at hV ⊢
        clear hD3 d0 d1 d2 e0 e1 e2 e3 hal
        have v2 := hV.c 2 _ rfl
        have v3 := hV.c 3 _ rfl
        by_cases hlh : x.l = x.h
        · have hlh' : (x.l == x.h) = true := by simp [hlh]
          clear hlh
          go_wp2_with fail
          go_ret
          exact ⟨rfl, hD4.bel⟩
        · have hlh' : (x.l == x.h) = false := by simp [hlh]
          have hlt : x.l < x.h := by omega
          have Hspl := hide (count_split ⟨n, bs⟩ (ps.take k) x hlt k [] (by simp; omega))
          have Hd1 : Hid (dealOk ⟨n, bs⟩ (ps.take k ++ [⟨x.f, x.t, x.l, x.l⟩]) = true) := dealOk_last (by rw [← Hps.out]; exact Hd.out) x0 (by omega) (by omega)
          have Hd2 : Hid (dealOk ⟨n, bs⟩ (ps.take k ++ [⟨x.f, x.t, x.l + 1, x.h⟩]) = true) := dealOk_last (by rw [← Hps.out]; exact Hd.out) (by omega) (by omega) (by omega)
          clear hlh
          go_upto_region 15 with fail
          clear v2 v3
          have hw1 : IntKind.i64.wrap (x.l + 1) = x.l + 1 := by rw [IntWalk.i64_left, IntWalk.wrap64_in _ (by omega)]
          refine wp_regionE (LS6 D V6 n A c bs (some ⟨b2, 0, none⟩) c2 ps x) 21 (by kernel_rfl) ?_
          change wpE _ _ _ _ _ _ 22 #[false, false, false, false, false, false, false, false, false, false, false, false, false, false, false, false, false, false, false, false, false, false] _ _
          have hD5 := hD4.drew
          have hV5 := hV.drew
          clear hD4 hV
          generalize W4.drew = wS at hD5 hV5 ⊢
          have hJ : LJ w wS wS D wS.heap.size b b2 n A c bs (some ⟨b2, 0, none⟩) c2 ps V6 x (.slice none 0 0) 0 [] :=
            ⟨hD5, hV5, hD5.r.ex, hV5.ex, fun h0 => hD5.r.rd.lt h0, fun h0 => hD5.r.rp.lt h0, Nat.le_refl _, hD5.bel.size, ⟨rfl, .inl ⟨rfl, rfl⟩⟩, Below.refl _ _⟩
          generalize wS.heap.size = T at hJ
          clear hD5 hV5
          have hS0 := hJ.cells
          refine wpE_take' (v := ?_) 0 [21] (of_decide_eq_true (by kernel_rfl)) (by kernel_rfl) (by kernel_rfl) (by kernel_rfl) (by kernel_rfl) (fun _ _ _ h => h) (by kernel_rfl) ?_ hS0 ?_
          rotate_left
          · intro w' hSw
            obtain ⟨hs0, hs1, hs2, hs3, hs4, hs5, hs6⟩ := hSw
            simp only [List.getElem_toArray, List.getElem_cons_succ, List.getElem_cons_zero]
            go_simp
            all_goals with_reducible rfl
          simp only [List.getElem_toArray, List.getElem_cons_succ, List.getElem_cons_zero, Act.put, List.setIfInBounds_toArray, List.set_cons_zero, List.set_cons_succ]
          refine wpE_take' (v := ?_) 1 [21] (of_decide_eq_true (by kernel_rfl)) (by kernel_rfl) (by kernel_rfl) (by kernel_rfl) (by kernel_rfl) (fun _ _ _ h => h) (by kernel_rfl) ?_ hS0 ?_
          rotate_left
          · intro w' hSw
            obtain ⟨hs0, hs1, hs2, hs3, hs4, hs5, hs6⟩ := hSw
            simp only [List.getElem_toArray, List.getElem_cons_succ, List.getElem_cons_zero]
            go_simp
            all_goals with_reducible rfl
          simp only [List.getElem_toArray, List.getElem_cons_succ, List.getElem_cons_zero, Act.put, List.setIfInBounds_toArray, List.set_cons_zero, List.set_cons_succ]
          refine wpE_take' (v := ?_) 3 [21] (of_decide_eq_true (by kernel_rfl)) (by kernel_rfl) (by kernel_rfl) (by kernel_rfl) (by kernel_rfl) (fun _ _ _ h => h) (by kernel_rfl) ?_ hS0 ?_
          rotate_left
          · intro w' hSw
            obtain ⟨hs0, hs1, hs2, hs3, hs4, hs5, hs6⟩ := hSw
            simp only [List.getElem_toArray, List.getElem_cons_succ, List.getElem_cons_zero]
            go_simp
            all_goals with_reducible rfl
          simp only [List.getElem_toArray, List.getElem_cons_succ, List.getElem_cons_zero, Act.put, List.setIfInBounds_toArray, List.set_cons_zero, List.set_cons_succ]
          refine wpE_take' (v := ?_) 4 [21] (of_decide_eq_true (by kernel_rfl)) (by kernel_rfl) (by kernel_rfl) (by kernel_rfl) (by kernel_rfl) (fun _ _ _ h => h) (by kernel_rfl) ?_ hS0 ?_
          rotate_left
          · intro w' hSw
            obtain ⟨hs0, hs1, hs2, hs3, hs4, hs5, hs6⟩ := hSw
            simp only [List.getElem_toArray, List.getElem_cons_succ, List.getElem_cons_zero]
            go_simp
            all_goals with_reducible rfl
          simp only [List.getElem_toArray, List.getElem_cons_succ, List.getElem_cons_zero, Act.put, List.setIfInBounds_toArray, List.set_cons_zero, List.set_cons_succ]
          refine wpE_take' (v := ?_) 5 [21] (of_decide_eq_true (by kernel_rfl)) (by kernel_rfl) (by kernel_rfl) (by kernel_rfl) (by kernel_rfl) (fun _ _ _ h => h) (by kernel_rfl) ?_ hS0 ?_
          rotate_left
          · intro w' hSw
            obtain ⟨hs0, hs1, hs2, hs3, hs4, hs5, hs6⟩ := hSw
            simp only [List.getElem_toArray, List.getElem_cons_succ, List.getElem_cons_zero]
            go_simp
            all_goals with_reducible rfl
          simp only [List.getElem_toArray, List.getElem_cons_succ, List.getElem_cons_zero, Act.put, List.setIfInBounds_toArray, List.set_cons_zero, List.set_cons_succ]
          refine wpE_take' (v := ?_) 6 [21] (of_decide_eq_true (by kernel_rfl)) (by kernel_rfl) (by kernel_rfl) (by kernel_rfl) (by kernel_rfl) (fun _ _ _ h => h) (by kernel_rfl) ?_ hS0 ?_
          rotate_left
          · intro w' hSw
            obtain ⟨hs0, hs1, hs2, hs3, hs4, hs5, hs6⟩ := hSw
            simp only [List.getElem_toArray, List.getElem_cons_succ, List.getElem_cons_zero]
            go_simp
            all_goals with_reducible rfl
          simp only [List.getElem_toArray, List.getElem_cons_succ, List.getElem_cons_zero, Act.put, List.setIfInBounds_toArray, List.set_cons_zero, List.set_cons_succ]
          refine wpE_take' (v := ?_) 8 [21] (of_decide_eq_true (by kernel_rfl)) (by kernel_rfl) (by kernel_rfl) (by kernel_rfl) (by kernel_rfl) (fun _ _ _ h => h) (by kernel_rfl) ?_ hS0 ?_
          rotate_left
          · intro w' hSw
            obtain ⟨hs0, hs1, hs2, hs3, hs4, hs5, hs6⟩ := hSw
            simp only [List.getElem_toArray, List.getElem_cons_succ, List.getElem_cons_zero]
            go_simp
            all_goals with_reducible rfl
          simp only [List.getElem_toArray, List.getElem_cons_succ, List.getElem_cons_zero, Act.put, List.setIfInBounds_toArray, List.set_cons_zero, List.set_cons_succ]
          refine wpE_take' (v := ?_) 9 [21] (of_decide_eq_true (by kernel_rfl)) (by kernel_rfl) (by kernel_rfl) (by kernel_rfl) (by kernel_rfl) (fun _ _ _ h => h) (by kernel_rfl) ?_ hS0 ?_
          rotate_left
          · intro w' hSw
            obtain ⟨hs0, hs1, hs2, hs3, hs4, hs5, hs6⟩ := hSw
            simp only [List.getElem_toArray, List.getElem_cons_succ, List.getElem_cons_zero]
            go_simp
            all_goals with_reducible rfl
          simp only [List.getElem_toArray, List.getElem_cons_succ, List.getElem_cons_zero, Act.put, List.setIfInBounds_toArray, List.set_cons_zero, List.set_cons_succ]
          refine wpE_take' (v := ?_) 10 [21] (of_decide_eq_true (by kernel_rfl)) (by kernel_rfl) (by kernel_rfl) (by kernel_rfl) (by kernel_rfl) (fun _ _ _ h => h) (by kernel_rfl) ?_ hS0 ?_
          rotate_left
          · intro w' hSw
            obtain ⟨hs0, hs1, hs2, hs3, hs4, hs5, hs6⟩ := hSw
            simp only [List.getElem_toArray, List.getElem_cons_succ, List.getElem_cons_zero]
            go_simp
            all_goals with_reducible rfl
          simp only [List.getElem_toArray, List.getElem_cons_succ, List.getElem_cons_zero, Act.put, List.setIfInBounds_toArray, List.set_cons_zero, List.set_cons_succ]
          refine wpE_take' (v := ?_) 11 [21] (of_decide_eq_true (by kernel_rfl)) (by kernel_rfl) (by kernel_rfl) (by kernel_rfl) (by kernel_rfl) (fun _ _ _ h => h) (by kernel_rfl) ?_ hS0 ?_
          rotate_left
          · intro w' hSw
            obtain ⟨hs0, hs1, hs2, hs3, hs4, hs5, hs6⟩ := hSw
            simp only [List.getElem_toArray, List.getElem_cons_succ, List.getElem_cons_zero]
            go_simp
            all_goals with_reducible rfl
          simp only [List.getElem_toArray, List.getElem_cons_succ, List.getElem_cons_zero, Act.put, List.setIfInBounds_toArray, List.set_cons_zero, List.set_cons_succ]
          refine wpE_take' (v := ?_) 12 [21] (of_decide_eq_true (by kernel_rfl)) (by kernel_rfl) (by kernel_rfl) (by kernel_rfl) (by kernel_rfl) (fun _ _ _ h => h) (by kernel_rfl) ?_ hS0 ?_
          rotate_left
          · intro w' hSw
            obtain ⟨hs0, hs1, hs2, hs3, hs4, hs5, hs6⟩ := hSw
            simp only [List.getElem_toArray, List.getElem_cons_succ, List.getElem_cons_zero]
            go_simp
            all_goals with_reducible rfl
          simp only [List.getElem_toArray, List.getElem_cons_succ, List.getElem_cons_zero, Act.put, List.setIfInBounds_toArray, List.set_cons_zero, List.set_cons_succ]
          refine wpE_take' (v := ?_) 13 [21] (of_decide_eq_true (by kernel_rfl)) (by kernel_rfl) (by kernel_rfl) (by kernel_rfl) (by kernel_rfl) (fun _ _ _ h => h) (by kernel_rfl) ?_ hS0 ?_
          rotate_left
          · intro w' hSw
            obtain ⟨hs0, hs1, hs2, hs3, hs4, hs5, hs6⟩ := hSw
            simp only [List.getElem_toArray, List.getElem_cons_succ, List.getElem_cons_zero]
            go_simp
            all_goals with_reducible rfl
          simp only [List.getElem_toArray, List.getElem_cons_succ, List.getElem_cons_zero, Act.put, List.setIfInBounds_toArray, List.set_cons_zero, List.set_cons_succ]
          refine wpE_take' (v := ?_) 14 [21] (of_decide_eq_true (by kernel_rfl)) (by kernel_rfl) (by kernel_rfl) (by kernel_rfl) (by kernel_rfl) (fun _ _ _ h => h) (by kernel_rfl) ?_ hS0 ?_
          rotate_left
          · intro w' hSw
            obtain ⟨hs0, hs1, hs2, hs3, hs4, hs5, hs6⟩ := hSw
            simp only [List.getElem_toArray, List.getElem_cons_succ, List.getElem_cons_zero]
            go_simp
            all_goals with_reducible rfl
          simp only [List.getElem_toArray, List.getElem_cons_succ, List.getElem_cons_zero, Act.put, List.setIfInBounds_toArray, List.set_cons_zero, List.set_cons_succ]
          refine wpE_take' (v := ?_) 15 [21] (of_decide_eq_true (by kernel_rfl)) (by kernel_rfl) (by kernel_rfl) (by kernel_rfl) (by kernel_rfl) (fun _ _ _ h => h) (by kernel_rfl) ?_ hS0 ?_
          rotate_left
          · intro w' hSw
            obtain ⟨hs0, hs1, hs2, hs3, hs4, hs5, hs6⟩ := hSw
            simp only [List.getElem_toArray, List.getElem_cons_succ, List.getElem_cons_zero]
            go_simp
            all_goals with_reducible rfl
          simp only [List.getElem_toArray, List.getElem_cons_succ, List.getElem_cons_zero, Act.put, List.setIfInBounds_toArray, List.set_cons_zero, List.set_cons_succ]
          refine wpE_take' (v := ?_) 16 [21] (of_decide_eq_true (by kernel_rfl)) (by kernel_rfl) (by kernel_rfl) (by kernel_rfl) (by kernel_rfl) (fun _ _ _ h => h) (by kernel_rfl) ?_ hS0 ?_
          rotate_left
          · intro w' hSw
            obtain ⟨hs0, hs1, hs2, hs3, hs4, hs5, hs6⟩ := hSw
            simp only [List.getElem_toArray, List.getElem_cons_succ, List.getElem_cons_zero]
            go_simp
            all_goals with_reducible rfl
          simp only [List.getElem_toArray, List.getElem_cons_succ, List.getElem_cons_zero, Act.put, List.setIfInBounds_toArray, List.set_cons_zero, List.set_cons_succ]
          refine wpG_start 17 77 20 7 (fun wx => LJ w wS wx D T b b2 n A c bs (some ⟨b2, 0, none⟩) c2 ps V6 x (.slice none 0 0) 0 []) (fun z wx => BV wx (.slice none 0 0) z (prCs [⟨x.f, x.t, x.l, x.l⟩])) (fun y wx => BX2 wx T (.slice none 0 0) y) (of_decide_eq_true (by kernel_rfl)) (of_decide_eq_true (by kernel_rfl)) rfl (by decide) hJ (fun fl gl z y hB hC => ?_)
          simp only [Act.put, List.setIfInBounds_toArray, List.set_cons_zero, List.set_cons_succ]
          apply wpG_step (f := 17) (g := 20) (fl := fl) (gl := gl) (z := z) (y := y) (J := fun wx => LJ w wS wx D T b b2 n A c bs (some ⟨b2, 0, none⟩) c2 ps V6 x (.slice none 0 0) 0 []) (B := fun z wx => BV wx (.slice none 0 0) z (prCs [⟨x.f, x.t, x.l, x.l⟩])) (C := fun y wx => BX2 wx T (.slice none 0 0) y) 2
          case hi => exact of_decide_eq_true (by kernel_rfl)
          case hgd => kernel_rfl
          case hr => kernel_rfl
          case hr0 => kernel_rfl
          case hr1 => kernel_rfl
          case hr2 => kernel_rfl
          case he0 => kernel_rfl
          case he1 => kernel_rfl
          case he2 => kernel_rfl
          case hL0 => kernel_rfl
          case hL1 => kernel_rfl
          case hL2 => kernel_rfl
          case hL3 => kernel_rfl
          case hJ => exact hJ
          case hB => exact hB
          case hC => exact hC
          case hF =>
            refine floats2_of (of_decide_eq_true (by kernel_rfl)) (of_decide_eq_true (by kernel_rfl)) (by kernel_rfl) (by kernel_rfl) (by kernel_rfl) (by kernel_rfl) (fun wx hJ => hJ.cells) ?_ ?_
            · (try clear hS0); clear hJ hB hC
              intro gl z y wx hJ hC K hK
              simp only [List.getElem_toArray, List.getElem_cons_succ, List.getElem_cons_zero]
              go_simp
              exact hK.out _ _ (hJ.alloc _) (bv_new hJ (prCs [⟨x.f, x.t, x.l, x.l⟩])) (fun h => (hC h).below (by go_grown))
            · (try clear hS0); clear hJ hB hC
              intro fl z y wx hJ hB K hK
              simp only [List.getElem_toArray, List.getElem_cons_succ, List.getElem_cons_zero]
              go_simp
              exact hK.out _ _ (hJ.alloc _) (bx2_new hJ) (fun h => (hB h).below (by go_grown))
          (try clear hS0); clear hJ hB hC
          intro fl gl z y wx hJ hB hC K hK
          simp only [List.getElem_toArray, List.getElem_cons_succ, List.getElem_cons_zero]
          go_simp
          refine hK.out _ _ (.inr (hJ.empty rfl).cells) ?_
          clear hK K
          replace hB := fun h => (hB h).fresh (v' := .slice (some ⟨wx.heap.size, 0, none⟩) 0 0) (.cells #[] 40) rfl
          replace hC := fun h => (hC h).fresh (v' := .slice (some ⟨wx.heap.size, 0, none⟩) 0 0) (.cells #[] 40) rfl
          replace hJ := hJ.empty (t := 40) rfl
          simp only [Act.put, List.setIfInBounds_toArray, List.set_cons_zero, List.set_cons_succ]
          generalize wx.alloc (.cells #[] 40) = wx' at hJ hB hC ⊢
          generalize wx.heap.size = E at hJ hB hC ⊢
          clear wx
          apply wpG_step (f := 17) (g := 20) (fl := fl) (gl := gl) (z := z) (y := y) (J := fun wx => LJ w wS wx D T b b2 n A c bs (some ⟨b2, 0, none⟩) c2 ps V6 x (.slice (some ⟨E, 0, none⟩) 0 0) 0 []) (B := fun z wx => BV wx (.slice (some ⟨E, 0, none⟩) 0 0) z (prCs [⟨x.f, x.t, x.l, x.l⟩])) (C := fun y wx => BX2 wx T (.slice (some ⟨E, 0, none⟩) 0 0) y) 7
          case hi => exact of_decide_eq_true (by kernel_rfl)
          case hgd => kernel_rfl
          case hr => kernel_rfl
          case hr0 => kernel_rfl
          case hr1 => kernel_rfl
          case hr2 => kernel_rfl
          case he0 => kernel_rfl
          case he1 => kernel_rfl
          case he2 => kernel_rfl
          case hL0 => kernel_rfl
          case hL1 => kernel_rfl
          case hL2 => kernel_rfl
          case hL3 => kernel_rfl
          case hJ => exact hJ
          case hB => exact hB
          case hC => exact hC
          case hF =>
            refine floats2_of (of_decide_eq_true (by kernel_rfl)) (of_decide_eq_true (by kernel_rfl)) (by kernel_rfl) (by kernel_rfl) (by kernel_rfl) (by kernel_rfl) (fun wx hJ => hJ.cells) ?_ ?_
            · (try clear hS0); clear hJ hB hC
              intro gl z y wx hJ hC K hK
              simp only [List.getElem_toArray, List.getElem_cons_succ, List.getElem_cons_zero]
              go_simp
              exact hK.out _ _ (hJ.alloc _) (bv_new hJ (prCs [⟨x.f, x.t, x.l, x.l⟩])) (fun h => (hC h).below (by go_grown))
            · (try clear hS0); clear hJ hB hC
              intro fl z y wx hJ hB K hK
              simp only [List.getElem_toArray, List.getElem_cons_succ, List.getElem_cons_zero]
              go_simp
              exact hK.out _ _ (hJ.alloc _) (bx2_new hJ) (fun h => (hB h).below (by go_grown))
          (try clear hS0); clear hJ hB hC
          intro fl gl z y wx hJ hB hC K hK
          simp only [List.getElem_toArray, List.getElem_cons_succ, List.getElem_cons_zero]
          refine app_wp _ (.tmp 62) (.tmp 66) _ rfl T 40 i0 _ 4 32 Try.underlying26 hi0 hz0 hz1 hz2 rfl (by omega) (.slice (some ⟨E, 0, none⟩) 0 0) 0 [] rfl hJ.own (some ⟨b2, 0, none⟩) k c2 (prCs (ps.take k)) rfl (by rw [prCs_length, List.length_take]; omega) (csr_news hJ.d.r.rp (by omega)) (prCs_one _) (by omega) (by omega) hJ.ex ?_
          intro A4 c4 w4 hown4 hg4 hat4
          simp only [Nat.zero_add, List.nil_append] at hown4 hat4 ⊢
          replace hB := fun h => (hB h).app hg4 hat4
          replace hC := fun h => (hC h).app hg4 hat4
          replace hJ := hJ.app hg4 hown4
          refine hK.out _ _ (.inr hJ.cells) ?_
          clear hK K hown4 hg4 hat4
          simp only [Act.put, List.setIfInBounds_toArray, List.set_cons_zero, List.set_cons_succ]
          apply wpG_force (f := 17) (g := 20) (fl := fl) (gl := gl) (z := z) (y := y) (J := fun wx => LJ w wS wx D T b b2 n A c bs (some ⟨b2, 0, none⟩) c2 ps V6 x (.slice A4 k c4) k (prCs (ps.take k))) (B := fun z wx => BV wx (.slice A4 k c4) z (prCs [⟨x.f, x.t, x.l, x.l⟩])) (C := fun y wx => BX2 wx T (.slice A4 k c4) y)
          case hr0 => kernel_rfl
          case hr2 => kernel_rfl
          case he2 => kernel_rfl
          case hL0 => kernel_rfl
          case hL2 => kernel_rfl
          case hL3 => kernel_rfl
          case hJ => exact hJ
          case hB => exact hB
          case hC => exact hC
          case hF =>
            refine floats2_of (of_decide_eq_true (by kernel_rfl)) (of_decide_eq_true (by kernel_rfl)) (by kernel_rfl) (by kernel_rfl) (by kernel_rfl) (by kernel_rfl) (fun wx hJ => hJ.cells) ?_ ?_
            · (try clear hS0); clear hJ hB hC
              intro gl z y wx hJ hC K hK
              simp only [List.getElem_toArray, List.getElem_cons_succ, List.getElem_cons_zero]
              go_simp
              exact hK.out _ _ (hJ.alloc _) (bv_new hJ (prCs [⟨x.f, x.t, x.l, x.l⟩])) (fun h => (hC h).below (by go_grown))
            · (try clear hS0); clear hJ hB hC
              intro fl z y wx hJ hB K hK
              simp only [List.getElem_toArray, List.getElem_cons_succ, List.getElem_cons_zero]
              go_simp
              exact hK.out _ _ (hJ.alloc _) (bx2_new hJ) (fun h => (hB h).below (by go_grown))
          (try clear hS0); clear hJ hB hC
          intro gl z y wx hJ hB hC
          obtain ⟨V, rfl, hcb, hnv⟩ := hB
          have hK6 : LK w wS wx D T b b2 n A c bs (some ⟨b2, 0, none⟩) c2 ps V6 x (.slice A4 k c4) k (prCs (ps.take k)) V (prCs [⟨x.f, x.t, x.l, x.l⟩]) := ⟨hJ, hcb, hnv⟩
          clear hJ hcb hnv
          have hJ := hK6
          clear hK6
          apply wpF_step (f := 20) (fl := gl) (z := y) (J := fun wx => LK w wS wx D T b b2 n A c bs (some ⟨b2, 0, none⟩) c2 ps V6 x (.slice A4 k c4) k (prCs (ps.take k)) V (prCs [⟨x.f, x.t, x.l, x.l⟩])) (B := fun y wx => BX2 wx T (.slice A4 k c4) y) 18
          case hi => exact of_decide_eq_true (by kernel_rfl)
          case hg => kernel_rfl
          case hr0 => kernel_rfl
          case hr1 => kernel_rfl
          case hL => kernel_rfl
          case hJ => exact hJ
          case hB => exact hC
          case hF =>
            refine floats_of (of_decide_eq_true (by kernel_rfl)) (by kernel_rfl) (by kernel_rfl) (fun wx hJ => hJ.cells) ?_
            (try clear hS0); clear hJ hC
            intro y wx hJ K hK
            simp only [List.getElem_toArray, List.getElem_cons_succ, List.getElem_cons_zero]
            go_simp
            exact hK.out _ _ (hJ.alloc _) hJ.bx
          clear hJ hC
          intro gl y wx hJ hC K hK
          simp only [List.getElem_toArray, List.getElem_cons_succ, List.getElem_cons_zero]
          refine app_wp _ (.tmp 67) (.tmp 77) _ rfl T 40 i0 _ 4 32 Try.underlying26 hi0 hz0 hz1 hz2 rfl (by omega) (.slice A4 k c4) k (prCs (ps.take k)) rfl hJ.j.own (some ⟨V, 0, none⟩) 1 _ (prCs [⟨x.f, x.t, x.l, x.l⟩]) rfl rfl hJ.cb.news (prCs_one _) (by omega) (by omega) hJ.j.ex ?_
          intro A5 c5 w5 hown5 hg5 hat5
          replace hC := fun h => (hC h).app hg5 hat5
          rw [← prCs_append] at hown5
          have hJ5 := hJ.j.app hg5 hown5
          clear hJ
          have hJ := hJ5
          clear hJ5 hown5 hg5 hat5
          refine hK.out _ _ (.inr hJ.cells) ?_
          clear hK K wx
          simp only [Act.put, List.setIfInBounds_toArray, List.set_cons_zero, List.set_cons_succ]
          have hS0 := hJ.cells
          apply wpF_take (z := y) 19 [21]
          case hi => exact of_decide_eq_true (by kernel_rfl)
          case hl0 => kernel_rfl
          case hl1 => kernel_rfl
          case hs => kernel_rfl
          case hf0 => kernel_rfl
          case hf1 => kernel_rfl
          case hr0 => kernel_rfl
          case hr1 => kernel_rfl
          case hQ => exact fun _ _ _ h => h
          case hg => kernel_rfl
          case hS => exact hS0
          case hy =>
            intro w' hSw
            simp only [List.getElem_toArray, List.getElem_cons_succ, List.getElem_cons_zero]
            go_simp
            all_goals with_reducible rfl
          simp only [List.getElem_toArray, List.getElem_cons_succ, List.getElem_cons_zero, Act.put, List.setIfInBounds_toArray, List.set_cons_zero, List.set_cons_succ]
          clear hS0
          apply wpF_end (f := 20) (fl := gl) (z := y) (J := fun wx => LJ w wS wx D T b b2 n A c bs (some ⟨b2, 0, none⟩) c2 ps V6 x (.slice A5 (k + 1) c5) (k + 1) (prCs (ps.take k ++ [⟨x.f, x.t, x.l, x.l⟩]))) (B := fun y wx => BX2 wx T (.slice A5 (k + 1) c5) y)
          case hr0 => kernel_rfl
          case hL => kernel_rfl
          case hJ => exact hJ
          case hB => exact hC
          case hF =>
            refine floats_of (of_decide_eq_true (by kernel_rfl)) (by kernel_rfl) (by kernel_rfl) (fun wx hJ => hJ.cells) ?_
            (try clear hS0); clear hJ hC
            intro y wx hJ K hK
            simp only [List.getElem_toArray, List.getElem_cons_succ, List.getElem_cons_zero]
            go_simp
            exact hK.out _ _ (hJ.alloc _) hJ.bx
          clear hJ hC
          intro y wx hJ hC
          obtain ⟨X, rfl, hTX, hX, hv⟩ := hC
          have x0' := hX.x0
          have x1' := hX.x1
          have x2' := hX.x2
          have xf0 := hX.xf 0
          have xf1 := hX.xf 1
          have xf2 := hX.xf 2
          have hput := hJ.put (by simp; omega) hTX hX hv
          clear hJ hX hv
          refine wpE_step' 21 (of_decide_eq_true (by kernel_rfl)) (by kernel_rfl) (by kernel_rfl) (fun K hK => ?_)
          simp only [List.getElem_toArray, List.getElem_cons_succ, List.getElem_cons_zero]
          go_simp
          refine hK.out _ _ (.inl rfl) ?_
          clear hK K
          simp only [Act.put, List.setIfInBounds_toArray, List.set_cons_zero, List.set_cons_succ]
          refine wpE_done (by kernel_rfl) ?_ _
          clear x0' x1' x2' xf0 xf1 xf2
          generalize ((wx.setCell ⟨X, 0, none⟩ (.int .i64 n)).setCell ⟨X, 1, none⟩ (.slice A bs.length c)).setCell ⟨X, 2, none⟩ (.slice A5 (k + 1) c5) = W7 at hput ⊢
          obtain ⟨hJ7, b5, hX7⟩ := hput
          obtain ⟨X1, rfl⟩ : ∃ X1, X1 = X := ⟨X, rfl⟩
          obtain ⟨A51, rfl⟩ : ∃ A51, A51 = A5 := ⟨A5, rfl⟩
          obtain ⟨c51, rfl⟩ : ∃ c51, c51 = c5 := ⟨c5, rfl⟩
          go_upto_region 16 with fail
          refine wp_regionE (LS6 D V6 n A c bs (some ⟨b2, 0, none⟩) c2 ps x) 22 (by kernel_rfl) ?_
          change wpE _ _ _ _ _ _ 23 #[false, false, false, false, false, false, false, false, false, false, false, false, false, false, false, false, false, false, false, false, false, false, false] _ _
          have hD5 := hJ7.d.drew
          have hV5 := hJ7.cb.drew
          have hXs := hX7.drew
          clear hJ7 hX7 wx
          generalize W7.drew = wS at hD5 hV5 hXs ⊢
          have hJ : LJ w wS wS D wS.heap.size b b2 n A c bs (some ⟨b2, 0, none⟩) c2 ps V6 x (.slice none 0 0) 0 [] :=
            ⟨hD5, hV5, hD5.r.ex, hV5.ex, fun h0 => hD5.r.rd.lt h0, fun h0 => hD5.r.rp.lt h0, Nat.le_refl _, hD5.bel.size, ⟨rfl, .inl ⟨rfl, rfl⟩⟩, Below.refl _ _⟩
          have hXs' := fun W' (hb : Below wS.heap.size wS W') => hXs.below hb
          clear hXs
          generalize wS.heap.size = T at hJ hXs'
          have HXs := hide hXs'
          clear hD5 hV5 hXs'
          have hS0 := hJ.cells
          refine wpE_take' (v := ?_) 0 [22] (of_decide_eq_true (by kernel_rfl)) (by kernel_rfl) (by kernel_rfl) (by kernel_rfl) (by kernel_rfl) (fun _ _ _ h => h) (by kernel_rfl) ?_ hS0 ?_
          rotate_left
          · intro w' hSw
            obtain ⟨hs0, hs1, hs2, hs3, hs4, hs5, hs6⟩ := hSw
            simp only [List.getElem_toArray, List.getElem_cons_succ, List.getElem_cons_zero]
            go_simp
            all_goals with_reducible rfl
          simp only [List.getElem_toArray, List.getElem_cons_succ, List.getElem_cons_zero, Act.put, List.setIfInBounds_toArray, List.set_cons_zero, List.set_cons_succ]
          refine wpE_take' (v := ?_) 1 [22] (of_decide_eq_true (by kernel_rfl)) (by kernel_rfl) (by kernel_rfl) (by kernel_rfl) (by kernel_rfl) (fun _ _ _ h => h) (by kernel_rfl) ?_ hS0 ?_
          rotate_left
          · intro w' hSw
            obtain ⟨hs0, hs1, hs2, hs3, hs4, hs5, hs6⟩ := hSw
            simp only [List.getElem_toArray, List.getElem_cons_succ, List.getElem_cons_zero]
            go_simp
            all_goals with_reducible rfl
          simp only [List.getElem_toArray, List.getElem_cons_succ, List.getElem_cons_zero, Act.put, List.setIfInBounds_toArray, List.set_cons_zero, List.set_cons_succ]
          refine wpE_take' (v := ?_) 3 [22] (of_decide_eq_true (by kernel_rfl)) (by kernel_rfl) (by kernel_rfl) (by kernel_rfl) (by kernel_rfl) (fun _ _ _ h => h) (by kernel_rfl) ?_ hS0 ?_
          rotate_left
          · intro w' hSw
            obtain ⟨hs0, hs1, hs2, hs3, hs4, hs5, hs6⟩ := hSw
            simp only [List.getElem_toArray, List.getElem_cons_succ, List.getElem_cons_zero]
            go_simp
            all_goals with_reducible rfl
          simp only [List.getElem_toArray, List.getElem_cons_succ, List.getElem_cons_zero, Act.put, List.setIfInBounds_toArray, List.set_cons_zero, List.set_cons_succ]
          refine wpE_take' (v := ?_) 4 [22] (of_decide_eq_true (by kernel_rfl)) (by kernel_rfl) (by kernel_rfl) (by kernel_rfl) (by kernel_rfl) (fun _ _ _ h => h) (by kernel_rfl) ?_ hS0 ?_
          rotate_left
          · intro w' hSw
            obtain ⟨hs0, hs1, hs2, hs3, hs4, hs5, hs6⟩ := hSw
            simp only [List.getElem_toArray, List.getElem_cons_succ, List.getElem_cons_zero]
            go_simp
            all_goals with_reducible rfl
          simp only [List.getElem_toArray, List.getElem_cons_succ, List.getElem_cons_zero, Act.put, List.setIfInBounds_toArray, List.set_cons_zero, List.set_cons_succ]
          refine wpE_take' (v := ?_) 5 [22] (of_decide_eq_true (by kernel_rfl)) (by kernel_rfl) (by kernel_rfl) (by kernel_rfl) (by kernel_rfl) (fun _ _ _ h => h) (by kernel_rfl) ?_ hS0 ?_
          rotate_left
          · intro w' hSw
            obtain ⟨hs0, hs1, hs2, hs3, hs4, hs5, hs6⟩ := hSw
            simp only [List.getElem_toArray, List.getElem_cons_succ, List.getElem_cons_zero]
            go_simp
            all_goals with_reducible rfl
          simp only [List.getElem_toArray, List.getElem_cons_succ, List.getElem_cons_zero, Act.put, List.setIfInBounds_toArray, List.set_cons_zero, List.set_cons_succ]
          refine wpE_take' (v := ?_) 6 [22] (of_decide_eq_true (by kernel_rfl)) (by kernel_rfl) (by kernel_rfl) (by kernel_rfl) (by kernel_rfl) (fun _ _ _ h => h) (by kernel_rfl) ?_ hS0 ?_
          rotate_left
          · intro w' hSw
            obtain ⟨hs0, hs1, hs2, hs3, hs4, hs5, hs6⟩ := hSw
            simp only [List.getElem_toArray, List.getElem_cons_succ, List.getElem_cons_zero]
            go_simp
            all_goals with_reducible rfl
          simp only [List.getElem_toArray, List.getElem_cons_succ, List.getElem_cons_zero, Act.put, List.setIfInBounds_toArray, List.set_cons_zero, List.set_cons_succ]
          refine wpE_take' (v := ?_) 8 [22] (of_decide_eq_true (by kernel_rfl)) (by kernel_rfl) (by kernel_rfl) (by kernel_rfl) (by kernel_rfl) (fun _ _ _ h => h) (by kernel_rfl) ?_ hS0 ?_
          rotate_left
          · intro w' hSw
            obtain ⟨hs0, hs1, hs2, hs3, hs4, hs5, hs6⟩ := hSw
            simp only [List.getElem_toArray, List.getElem_cons_succ, List.getElem_cons_zero]
            go_simp
            all_goals with_reducible rfl
          simp only [List.getElem_toArray, List.getElem_cons_succ, List.getElem_cons_zero, Act.put, List.setIfInBounds_toArray, List.set_cons_zero, List.set_cons_succ]
          refine wpE_take' (v := ?_) 9 [22] (of_decide_eq_true (by kernel_rfl)) (by kernel_rfl) (by kernel_rfl) (by kernel_rfl) (by kernel_rfl) (fun _ _ _ h => h) (by kernel_rfl) ?_ hS0 ?_
          rotate_left
          · intro w' hSw
            obtain ⟨hs0, hs1, hs2, hs3, hs4, hs5, hs6⟩ := hSw
            simp only [List.getElem_toArray, List.getElem_cons_succ, List.getElem_cons_zero]
            go_simp
            all_goals with_reducible rfl
          simp only [List.getElem_toArray, List.getElem_cons_succ, List.getElem_cons_zero, Act.put, List.setIfInBounds_toArray, List.set_cons_zero, List.set_cons_succ]
          refine wpE_take' (v := ?_) 10 [22] (of_decide_eq_true (by kernel_rfl)) (by kernel_rfl) (by kernel_rfl) (by kernel_rfl) (by kernel_rfl) (fun _ _ _ h => h) (by kernel_rfl) ?_ hS0 ?_
          rotate_left
          · intro w' hSw
            obtain ⟨hs0, hs1, hs2, hs3, hs4, hs5, hs6⟩ := hSw
            simp only [List.getElem_toArray, List.getElem_cons_succ, List.getElem_cons_zero]
            go_simp
            all_goals with_reducible rfl
          simp only [List.getElem_toArray, List.getElem_cons_succ, List.getElem_cons_zero, Act.put, List.setIfInBounds_toArray, List.set_cons_zero, List.set_cons_succ]
          refine wpE_take' (v := ?_) 11 [22] (of_decide_eq_true (by kernel_rfl)) (by kernel_rfl) (by kernel_rfl) (by kernel_rfl) (by kernel_rfl) (fun _ _ _ h => h) (by kernel_rfl) ?_ hS0 ?_
          rotate_left
          · intro w' hSw
            obtain ⟨hs0, hs1, hs2, hs3, hs4, hs5, hs6⟩ := hSw
            simp only [List.getElem_toArray, List.getElem_cons_succ, List.getElem_cons_zero]
            go_simp
            all_goals with_reducible rfl
          simp only [List.getElem_toArray, List.getElem_cons_succ, List.getElem_cons_zero, Act.put, List.setIfInBounds_toArray, List.set_cons_zero, List.set_cons_succ]
          refine wpE_take' (v := ?_) 12 [22] (of_decide_eq_true (by kernel_rfl)) (by kernel_rfl) (by kernel_rfl) (by kernel_rfl) (by kernel_rfl) (fun _ _ _ h => h) (by kernel_rfl) ?_ hS0 ?_
          rotate_left
          · intro w' hSw
            obtain ⟨hs0, hs1, hs2, hs3, hs4, hs5, hs6⟩ := hSw
            simp only [List.getElem_toArray, List.getElem_cons_succ, List.getElem_cons_zero]
            go_simp
            all_goals with_reducible rfl
          simp only [List.getElem_toArray, List.getElem_cons_succ, List.getElem_cons_zero, Act.put, List.setIfInBounds_toArray, List.set_cons_zero, List.set_cons_succ]
          refine wpE_take' (v := ?_) 13 [22] (of_decide_eq_true (by kernel_rfl)) (by kernel_rfl) (by kernel_rfl) (by kernel_rfl) (by kernel_rfl) (fun _ _ _ h => h) (by kernel_rfl) ?_ hS0 ?_
          rotate_left
          · intro w' hSw
            obtain ⟨hs0, hs1, hs2, hs3, hs4, hs5, hs6⟩ := hSw
            simp only [List.getElem_toArray, List.getElem_cons_succ, List.getElem_cons_zero]
            go_simp
            all_goals with_reducible rfl
          simp only [List.getElem_toArray, List.getElem_cons_succ, List.getElem_cons_zero, Act.put, List.setIfInBounds_toArray, List.set_cons_zero, List.set_cons_succ]
          refine wpE_take' (v := ?_) 14 [22] (of_decide_eq_true (by kernel_rfl)) (by kernel_rfl) (by kernel_rfl) (by kernel_rfl) (by kernel_rfl) (fun _ _ _ h => h) (by kernel_rfl) ?_ hS0 ?_
          rotate_left
          · intro w' hSw
            obtain ⟨hs0, hs1, hs2, hs3, hs4, hs5, hs6⟩ := hSw
            simp only [List.getElem_toArray, List.getElem_cons_succ, List.getElem_cons_zero]
            go_simp
            all_goals with_reducible rfl
          simp only [List.getElem_toArray, List.getElem_cons_succ, List.getElem_cons_zero, Act.put, List.setIfInBounds_toArray, List.set_cons_zero, List.set_cons_succ]
          refine wpE_take' (v := ?_) 15 [22] (of_decide_eq_true (by kernel_rfl)) (by kernel_rfl) (by kernel_rfl) (by kernel_rfl) (by kernel_rfl) (fun _ _ _ h => h) (by kernel_rfl) ?_ hS0 ?_
          rotate_left
          · intro w' hSw
            obtain ⟨hs0, hs1, hs2, hs3, hs4, hs5, hs6⟩ := hSw
            simp only [List.getElem_toArray, List.getElem_cons_succ, List.getElem_cons_zero]
            go_simp
            all_goals with_reducible rfl
          simp only [List.getElem_toArray, List.getElem_cons_succ, List.getElem_cons_zero, Act.put, List.setIfInBounds_toArray, List.set_cons_zero, List.set_cons_succ]
          refine wpE_take' (v := ?_) 16 [22] (of_decide_eq_true (by kernel_rfl)) (by kernel_rfl) (by kernel_rfl) (by kernel_rfl) (by kernel_rfl) (fun _ _ _ h => h) (by kernel_rfl) ?_ hS0 ?_
          rotate_left
          · intro w' hSw
            obtain ⟨hs0, hs1, hs2, hs3, hs4, hs5, hs6⟩ := hSw
            simp only [List.getElem_toArray, List.getElem_cons_succ, List.getElem_cons_zero]
            go_simp
            all_goals with_reducible rfl
          simp only [List.getElem_toArray, List.getElem_cons_succ, List.getElem_cons_zero, Act.put, List.setIfInBounds_toArray, List.set_cons_zero, List.set_cons_succ]
          refine wpE_take' (v := ?_) 17 [22] (of_decide_eq_true (by kernel_rfl)) (by kernel_rfl) (by kernel_rfl) (by kernel_rfl) (by kernel_rfl) (fun _ _ _ h => h) (by kernel_rfl) ?_ hS0 ?_
          rotate_left
          · intro w' hSw
            obtain ⟨hs0, hs1, hs2, hs3, hs4, hs5, hs6⟩ := hSw
            simp only [List.getElem_toArray, List.getElem_cons_succ, List.getElem_cons_zero]
            go_simp
            all_goals with_reducible rfl
          simp only [List.getElem_toArray, List.getElem_cons_succ, List.getElem_cons_zero, Act.put, List.setIfInBounds_toArray, List.set_cons_zero, List.set_cons_succ]
          refine wpG_start 18 98 21 8 (fun wx => LJ w wS wx D T b b2 n A c bs (some ⟨b2, 0, none⟩) c2 ps V6 x (.slice none 0 0) 0 []) (fun z wx => BV wx (.slice none 0 0) z (prCs [⟨x.f, x.t, x.l + 1, x.h⟩])) (fun y wx => BX2 wx T (.slice none 0 0) y) (of_decide_eq_true (by kernel_rfl)) (of_decide_eq_true (by kernel_rfl)) rfl (by decide) hJ (fun fl gl z y hB hC => ?_)
          simp only [Act.put, List.setIfInBounds_toArray, List.set_cons_zero, List.set_cons_succ]
          apply wpG_step (f := 18) (g := 21) (fl := fl) (gl := gl) (z := z) (y := y) (J := fun wx => LJ w wS wx D T b b2 n A c bs (some ⟨b2, 0, none⟩) c2 ps V6 x (.slice none 0 0) 0 []) (B := fun z wx => BV wx (.slice none 0 0) z (prCs [⟨x.f, x.t, x.l + 1, x.h⟩])) (C := fun y wx => BX2 wx T (.slice none 0 0) y) 2
          case hi => exact of_decide_eq_true (by kernel_rfl)
          case hgd => kernel_rfl
          case hr => kernel_rfl
          case hr0 => kernel_rfl
          case hr1 => kernel_rfl
          case hr2 => kernel_rfl
          case he0 => kernel_rfl
          case he1 => kernel_rfl
          case he2 => kernel_rfl
          case hL0 => kernel_rfl
          case hL1 => kernel_rfl
          case hL2 => kernel_rfl
          case hL3 => kernel_rfl
          case hJ => exact hJ
          case hB => exact hB
          case hC => exact hC
          case hF =>
            refine floats2_of (of_decide_eq_true (by kernel_rfl)) (of_decide_eq_true (by kernel_rfl)) (by kernel_rfl) (by kernel_rfl) (by kernel_rfl) (by kernel_rfl) (fun wx hJ => hJ.cells) ?_ ?_
            · (try clear hS0); clear hJ hB hC
              intro gl z y wx hJ hC K hK
              simp only [List.getElem_toArray, List.getElem_cons_succ, List.getElem_cons_zero]
              go_simp
              exact hK.out _ _ (hJ.alloc _) (bv_new hJ (prCs [⟨x.f, x.t, x.l + 1, x.h⟩])) (fun h => (hC h).below (by go_grown))
            · (try clear hS0); clear hJ hB hC
              intro fl z y wx hJ hB K hK
              simp only [List.getElem_toArray, List.getElem_cons_succ, List.getElem_cons_zero]
              go_simp
              exact hK.out _ _ (hJ.alloc _) (bx2_new hJ) (fun h => (hB h).below (by go_grown))
          (try clear hS0); clear hJ hB hC
          intro fl gl z y wx hJ hB hC K hK
          simp only [List.getElem_toArray, List.getElem_cons_succ, List.getElem_cons_zero]
          go_simp
          refine hK.out _ _ (.inr (hJ.empty rfl).cells) ?_
          clear hK K
          replace hB := fun h => (hB h).fresh (v' := .slice (some ⟨wx.heap.size, 0, none⟩) 0 0) (.cells #[] 40) rfl
          replace hC := fun h => (hC h).fresh (v' := .slice (some ⟨wx.heap.size, 0, none⟩) 0 0) (.cells #[] 40) rfl
          replace hJ := hJ.empty (t := 40) rfl
          simp only [Act.put, List.setIfInBounds_toArray, List.set_cons_zero, List.set_cons_succ]
          generalize wx.alloc (.cells #[] 40) = wx' at hJ hB hC ⊢
          generalize wx.heap.size = E at hJ hB hC ⊢
          clear wx
          apply wpG_step (f := 18) (g := 21) (fl := fl) (gl := gl) (z := z) (y := y) (J := fun wx => LJ w wS wx D T b b2 n A c bs (some ⟨b2, 0, none⟩) c2 ps V6 x (.slice (some ⟨E, 0, none⟩) 0 0) 0 []) (B := fun z wx => BV wx (.slice (some ⟨E, 0, none⟩) 0 0) z (prCs [⟨x.f, x.t, x.l + 1, x.h⟩])) (C := fun y wx => BX2 wx T (.slice (some ⟨E, 0, none⟩) 0 0) y) 7
          case hi => exact of_decide_eq_true (by kernel_rfl)
          case hgd => kernel_rfl
          case hr => kernel_rfl
          case hr0 => kernel_rfl
          case hr1 => kernel_rfl
          case hr2 => kernel_rfl
          case he0 => kernel_rfl
          case he1 => kernel_rfl
          case he2 => kernel_rfl
          case hL0 => kernel_rfl
          case hL1 => kernel_rfl
          case hL2 => kernel_rfl
          case hL3 => kernel_rfl
          case hJ => exact hJ
          case hB => exact hB
          case hC => exact hC
          case hF =>
            refine floats2_of (of_decide_eq_true (by kernel_rfl)) (of_decide_eq_true (by kernel_rfl)) (by kernel_rfl) (by kernel_rfl) (by kernel_rfl) (by kernel_rfl) (fun wx hJ => hJ.cells) ?_ ?_
            · (try clear hS0); clear hJ hB hC
              intro gl z y wx hJ hC K hK
              simp only [List.getElem_toArray, List.getElem_cons_succ, List.getElem_cons_zero]
              go_simp
              exact hK.out _ _ (hJ.alloc _) (bv_new hJ (prCs [⟨x.f, x.t, x.l + 1, x.h⟩])) (fun h => (hC h).below (by go_grown))
            · (try clear hS0); clear hJ hB hC
              intro fl z y wx hJ hB K hK
              simp only [List.getElem_toArray, List.getElem_cons_succ, List.getElem_cons_zero]
              go_simp
              exact hK.out _ _ (hJ.alloc _) (bx2_new hJ) (fun h => (hB h).below (by go_grown))
          (try clear hS0); clear hJ hB hC
          intro fl gl z y wx hJ hB hC K hK
          simp only [List.getElem_toArray, List.getElem_cons_succ, List.getElem_cons_zero]
          refine app_wp _ (.tmp 82) (.tmp 86) _ rfl T 40 i0 _ 4 32 Try.underlying26 hi0 hz0 hz1 hz2 rfl (by omega) (.slice (some ⟨E, 0, none⟩) 0 0) 0 [] rfl hJ.own (some ⟨b2, 0, none⟩) k c2 (prCs (ps.take k)) rfl (by rw [prCs_length, List.length_take]; omega) (csr_news hJ.d.r.rp (by omega)) (prCs_one _) (by omega) (by omega) hJ.ex ?_
          intro A4 c4 w4 hown4 hg4 hat4
          simp only [Nat.zero_add, List.nil_append] at hown4 hat4 ⊢
          replace hB := fun h => (hB h).app hg4 hat4
          replace hC := fun h => (hC h).app hg4 hat4
          replace hJ := hJ.app hg4 hown4
          refine hK.out _ _ (.inr hJ.cells) ?_
          clear hK K hown4 hg4 hat4
          simp only [Act.put, List.setIfInBounds_toArray, List.set_cons_zero, List.set_cons_succ]
          apply wpG_force (f := 18) (g := 21) (fl := fl) (gl := gl) (z := z) (y := y) (J := fun wx => LJ w wS wx D T b b2 n A c bs (some ⟨b2, 0, none⟩) c2 ps V6 x (.slice A4 k c4) k (prCs (ps.take k))) (B := fun z wx => BV wx (.slice A4 k c4) z (prCs [⟨x.f, x.t, x.l + 1, x.h⟩])) (C := fun y wx => BX2 wx T (.slice A4 k c4) y)
          case hr0 => kernel_rfl
          case hr2 => kernel_rfl
          case he2 => kernel_rfl
          case hL0 => kernel_rfl
          case hL2 => kernel_rfl
          case hL3 => kernel_rfl
          case hJ => exact hJ
          case hB => exact hB
          case hC => exact hC
          case hF =>
            refine floats2_of (of_decide_eq_true (by kernel_rfl)) (of_decide_eq_true (by kernel_rfl)) (by kernel_rfl) (by kernel_rfl) (by kernel_rfl) (by kernel_rfl) (fun wx hJ => hJ.cells) ?_ ?_
            · (try clear hS0); clear hJ hB hC
              intro gl z y wx hJ hC K hK
              simp only [List.getElem_toArray, List.getElem_cons_succ, List.getElem_cons_zero]
              go_simp
              exact hK.out _ _ (hJ.alloc _) (bv_new hJ (prCs [⟨x.f, x.t, x.l + 1, x.h⟩])) (fun h => (hC h).below (by go_grown))
            · (try clear hS0); clear hJ hB hC
              intro fl z y wx hJ hB K hK
              simp only [List.getElem_toArray, List.getElem_cons_succ, List.getElem_cons_zero]
              go_simp
              exact hK.out _ _ (hJ.alloc _) (bx2_new hJ) (fun h => (hB h).below (by go_grown))
          (try clear hS0); clear hJ hB hC
          intro gl z y wx hJ hB hC
          obtain ⟨V, rfl, hcb, hnv⟩ := hB
          have hK6 : LK w wS wx D T b b2 n A c bs (some ⟨b2, 0, none⟩) c2 ps V6 x (.slice A4 k c4) k (prCs (ps.take k)) V (prCs [⟨x.f, x.t, x.l + 1, x.h⟩]) := ⟨hJ, hcb, hnv⟩
          clear hJ hcb hnv
          have hJ := hK6
          clear hK6
          apply wpF_step (f := 21) (fl := gl) (z := y) (J := fun wx => LK w wS wx D T b b2 n A c bs (some ⟨b2, 0, none⟩) c2 ps V6 x (.slice A4 k c4) k (prCs (ps.take k)) V (prCs [⟨x.f, x.t, x.l + 1, x.h⟩])) (B := fun y wx => BX2 wx T (.slice A4 k c4) y) 19
          case hi => exact of_decide_eq_true (by kernel_rfl)
          case hg => kernel_rfl
          case hr0 => kernel_rfl
          case hr1 => kernel_rfl
          case hL => kernel_rfl
          case hJ => exact hJ
          case hB => exact hC
          case hF =>
            refine floats_of (of_decide_eq_true (by kernel_rfl)) (by kernel_rfl) (by kernel_rfl) (fun wx hJ => hJ.cells) ?_
            (try clear hS0); clear hJ hC
            intro y wx hJ K hK
            simp only [List.getElem_toArray, List.getElem_cons_succ, List.getElem_cons_zero]
            go_simp
            exact hK.out _ _ (hJ.alloc _) hJ.bx
          clear hJ hC
          intro gl y wx hJ hC K hK
          simp only [List.getElem_toArray, List.getElem_cons_succ, List.getElem_cons_zero]
          refine app_wp _ (.tmp 87) (.tmp 98) _ rfl T 40 i0 _ 4 32 Try.underlying26 hi0 hz0 hz1 hz2 rfl (by omega) (.slice A4 k c4) k (prCs (ps.take k)) rfl hJ.j.own (some ⟨V, 0, none⟩) 1 _ (prCs [⟨x.f, x.t, x.l + 1, x.h⟩]) rfl rfl hJ.cb.news (prCs_one _) (by omega) (by omega) hJ.j.ex ?_
          intro A5 c5 w5 hown5 hg5 hat5
          replace hC := fun h => (hC h).app hg5 hat5
          rw [← prCs_append] at hown5
          have hJ5 := hJ.j.app hg5 hown5
          clear hJ
          have hJ := hJ5
          clear hJ5 hown5 hg5 hat5
          refine hK.out _ _ (.inr hJ.cells) ?_
          clear hK K wx
          simp only [Act.put, List.setIfInBounds_toArray, List.set_cons_zero, List.set_cons_succ]
          have hS0 := hJ.cells
          apply wpF_take (z := y) 20 [22]
          case hi => exact of_decide_eq_true (by kernel_rfl)
          case hl0 => kernel_rfl
          case hl1 => kernel_rfl
          case hs => kernel_rfl
          case hf0 => kernel_rfl
          case hf1 => kernel_rfl
          case hr0 => kernel_rfl
          case hr1 => kernel_rfl
          case hQ => exact fun _ _ _ h => h
          case hg => kernel_rfl
          case hS => exact hS0
          case hy =>
            intro w' hSw
            simp only [List.getElem_toArray, List.getElem_cons_succ, List.getElem_cons_zero]
            go_simp
            all_goals with_reducible rfl
          simp only [List.getElem_toArray, List.getElem_cons_succ, List.getElem_cons_zero, Act.put, List.setIfInBounds_toArray, List.set_cons_zero, List.set_cons_succ]
          clear hS0
          apply wpF_end (f := 21) (fl := gl) (z := y) (J := fun wx => LJ w wS wx D T b b2 n A c bs (some ⟨b2, 0, none⟩) c2 ps V6 x (.slice A5 (k + 1) c5) (k + 1) (prCs (ps.take k ++ [⟨x.f, x.t, x.l + 1, x.h⟩]))) (B := fun y wx => BX2 wx T (.slice A5 (k + 1) c5) y)
          case hr0 => kernel_rfl
          case hL => kernel_rfl
          case hJ => exact hJ
          case hB => exact hC
          case hF =>
            refine floats_of (of_decide_eq_true (by kernel_rfl)) (by kernel_rfl) (by kernel_rfl) (fun wx hJ => hJ.cells) ?_
            (try clear hS0); clear hJ hC
            intro y wx hJ K hK
            simp only [List.getElem_toArray, List.getElem_cons_succ, List.getElem_cons_zero]
            go_simp
            exact hK.out _ _ (hJ.alloc _) hJ.bx
          clear hJ hC
          intro y wx hJ hC
          obtain ⟨X, rfl, hTX, hX, hv⟩ := hC
          have x0' := hX.x0
          have x1' := hX.x1
          have x2' := hX.x2
          have xf0 := hX.xf 0
          have xf1 := hX.xf 1
          have xf2 := hX.xf 2
          have hput := hJ.put (by simp; omega) hTX hX hv
          clear hJ hX hv
          refine wpE_step' 22 (of_decide_eq_true (by kernel_rfl)) (by kernel_rfl) (by kernel_rfl) (fun K hK => ?_)
          simp only [List.getElem_toArray, List.getElem_cons_succ, List.getElem_cons_zero]
          go_simp
          refine hK.out _ _ (.inl rfl) ?_
          clear hK K
          simp only [Act.put, List.setIfInBounds_toArray, List.set_cons_zero, List.set_cons_succ]
          refine wpE_done (by kernel_rfl) ?_ _
          clear x0' x1' x2' xf0 xf1 xf2
          generalize ((wx.setCell ⟨X, 0, none⟩ (.int .i64 n)).setCell ⟨X, 1, none⟩ (.slice A bs.length c)).setCell ⟨X, 2, none⟩ (.slice A5 (k + 1) c5) = W7 at hput ⊢
          obtain ⟨hJ7, b6, hY⟩ := hput
          have hX := HXs.out W7 hJ7.bl
          clear hJ7 HXs wx
          obtain ⟨q1, hq1⟩ : ∃ q1, ps.take k ++ [(⟨x.f, x.t, x.l, x.l⟩ : Pr)] = q1 := ⟨_, rfl⟩
          obtain ⟨q2, hq2⟩ : ∃ q2, ps.take k ++ [(⟨x.f, x.t, x.l + 1, x.h⟩ : Pr)] = q2 := ⟨_, rfl⟩
          have hl1 : q1.length = k + 1 := by rw [← hq1]; simp; omega
          have hl2 : q2.length = k + 1 := by rw [← hq2]; simp; omega
          have hsum : countR ⟨n, bs⟩ q1 + countR ⟨n, bs⟩ q2 = N := by
            have h := Hspl.out
            have hd1 := Hd1.out
            have hd2 := Hd2.out
            rw [hq1, hq2] at h
            rw [hq1] at hd1
            rw [hq2] at hd2
            rw [count_same, count_same, hd1, hd2, hl1, hl2, if_pos rfl, if_pos rfl, h, ← Hps.out, ← Hk.out]
            exact HNc.out
          have hr1 : 0 ≤ countR ⟨n, bs⟩ q1 := by
            have hd1 := Hd1.out
            rw [hq1] at hd1
            unfold countR; rw [hd1, if_pos rfl]; exact (fitN_bound _ _ _).1
          have hr2 : 0 ≤ countR ⟨n, bs⟩ q2 := by
            have hd2 := Hd2.out
            rw [hq2] at hd2
            unfold countR; rw [hd2, if_pos rfl]; exact (fitN_bound _ _ _).1
          rw [hq1] at hX
          rw [hq2] at hY
          have hll1 : q1.length ≤ 2000000 := by omega
          have hll2 : q2.length ≤ 2000000 := by omega
          clear hq1 hq2 hl1 hl2 Hspl Hd1 Hd2
          obtain ⟨N1, hN1'⟩ : ∃ N1, countR ⟨n, bs⟩ q1 = N1 := ⟨_, rfl⟩
          obtain ⟨N2, hN2'⟩ : ∃ N2, countR ⟨n, bs⟩ q2 = N2 := ⟨_, rfl⟩
          rw [hN1', hN2'] at hsum
          rw [hN1'] at hr1
          rw [hN2'] at hr2
          have HN1 := hide hN1'
          have HN2' := hide hN2'
          clear hN1' hN2'
          have hw2 : IntKind.i64.wrap (N1 + N2) = N := by rw [IntWalk.i64_left, IntWalk.wrap64_in _ (by omega), hsum]
          clear hsum
          go_upto_region 17 with fail
          refine wp_regionE (fun w' => (w'.cell? ⟨X1, 0, none⟩ = some (.int .i64 n) ∧ w'.cell? ⟨X1, 1, none⟩ = some (.slice A bs.length c) ∧ w'.cell? ⟨X1, 2, none⟩ = some (.slice A51 q1.length c51)) ∧ w'.cell? ⟨X, 0, none⟩ = some (.int .i64 n) ∧ w'.cell? ⟨X, 1, none⟩ = some (.slice A bs.length c) ∧ w'.cell? ⟨X, 2, none⟩ = some (.slice A5 q2.length c5)) 7 (by kernel_rfl) ?_
          change wpE _ _ _ _ _ _ 8 #[false, false, false, false, false, false, false, false] _ _
          have hS0 : (W7.drew.cell? ⟨X1, 0, none⟩ = some (.int .i64 n) ∧ W7.drew.cell? ⟨X1, 1, none⟩ = some (.slice A bs.length c) ∧ W7.drew.cell? ⟨X1, 2, none⟩ = some (.slice A51 q1.length c51)) ∧ W7.drew.cell? ⟨X, 0, none⟩ = some (.int .i64 n) ∧ W7.drew.cell? ⟨X, 1, none⟩ = some (.slice A bs.length c) ∧ W7.drew.cell? ⟨X, 2, none⟩ = some (.slice A5 q2.length c5) := ⟨⟨hX.r.c0, hX.r.c1, hX.r.c2⟩, hY.r.c0, hY.r.c1, hY.r.c2⟩
          refine wpE_take' (v := ?_) 0 [7] (of_decide_eq_true (by kernel_rfl)) (by kernel_rfl) (by kernel_rfl) (by kernel_rfl) (by kernel_rfl) (fun _ _ _ h => h) (by kernel_rfl) ?_ hS0 ?_
          rotate_left
          · intro w' hSw
            simp only [List.getElem_toArray, List.getElem_cons_succ, List.getElem_cons_zero]
            go_simp
            all_goals with_reducible rfl
          simp only [List.getElem_toArray, List.getElem_cons_succ, List.getElem_cons_zero, Act.put, List.setIfInBounds_toArray, List.set_cons_zero, List.set_cons_succ]
          refine wpE_take' (v := ?_) 2 [7] (of_decide_eq_true (by kernel_rfl)) (by kernel_rfl) (by kernel_rfl) (by kernel_rfl) (by kernel_rfl) (fun _ _ _ h => h) (by kernel_rfl) ?_ hS0 ?_
          rotate_left
          · intro w' hSw
            simp only [List.getElem_toArray, List.getElem_cons_succ, List.getElem_cons_zero]
            go_simp
            all_goals with_reducible rfl
          simp only [List.getElem_toArray, List.getElem_cons_succ, List.getElem_cons_zero, Act.put, List.setIfInBounds_toArray, List.set_cons_zero, List.set_cons_succ]
          refine wpE_take' (v := ?_) 5 [7] (of_decide_eq_true (by kernel_rfl)) (by kernel_rfl) (by kernel_rfl) (by kernel_rfl) (by kernel_rfl) (fun _ _ _ h => h) (by kernel_rfl) ?_ hS0 ?_
          rotate_left
          · intro w' hSw
            simp only [List.getElem_toArray, List.getElem_cons_succ, List.getElem_cons_zero]
            go_simp
            all_goals with_reducible rfl
          simp only [List.getElem_toArray, List.getElem_cons_succ, List.getElem_cons_zero, Act.put, List.setIfInBounds_toArray, List.set_cons_zero, List.set_cons_succ]
          refine wpE_step' 1 (of_decide_eq_true (by kernel_rfl)) (by kernel_rfl) (by kernel_rfl) (fun K hK => ?_)
          simp only [List.getElem_toArray, List.getElem_cons_succ, List.getElem_cons_zero]
          go_simp
          go_at_call 42
          refine (countFit_c n bs q1 A A51 b 0 c b5 0 c51 _ _ hlb' hll1 (Nat.le_refl _) hX.drew.r.rd hX.drew.r.rp).mono ?_
          rintro e w8 ⟨rfl, hb8⟩
          rw [HN1.out]
          replace hX := hX.drew.below hb8
          replace hY := hY.drew.below hb8
          refine hK.out _ _ (.inr ⟨⟨hX.r.c0, hX.r.c1, hX.r.c2⟩, hY.r.c0, hY.r.c1, hY.r.c2⟩) ?_
          clear hK K hS0 hb8
          simp only [Act.put, List.setIfInBounds_toArray, List.set_cons_zero, List.set_cons_succ]
          refine wpE_step' 3 (of_decide_eq_true (by kernel_rfl)) (by kernel_rfl) (by kernel_rfl) (fun K hK => ?_)
          simp only [List.getElem_toArray, List.getElem_cons_succ, List.getElem_cons_zero]
          go_simp
          go_at_call 42
          refine (countFit_c n bs q2 A A5 b 0 c b6 0 c5 _ _ hlb' hll2 (Nat.le_refl _) hY.r.rd hY.r.rp).mono ?_
          rintro e w9 ⟨rfl, hb9⟩
          rw [HN2'.out]
          replace hX := hX.below hb9
          replace hY := hY.below hb9
          have hS0 : (w9.cell? ⟨X1, 0, none⟩ = some (.int .i64 n) ∧ w9.cell? ⟨X1, 1, none⟩ = some (.slice A bs.length c) ∧ w9.cell? ⟨X1, 2, none⟩ = some (.slice A51 q1.length c51)) ∧ w9.cell? ⟨X, 0, none⟩ = some (.int .i64 n) ∧ w9.cell? ⟨X, 1, none⟩ = some (.slice A bs.length c) ∧ w9.cell? ⟨X, 2, none⟩ = some (.slice A5 q2.length c5) := ⟨⟨hX.r.c0, hX.r.c1, hX.r.c2⟩, hY.r.c0, hY.r.c1, hY.r.c2⟩
          refine hK.out _ _ (.inr hS0) ?_
          clear hK K hb9
          simp only [Act.put, List.setIfInBounds_toArray, List.set_cons_zero, List.set_cons_succ]
          refine wpE_take' (v := ?_) 4 [7] (of_decide_eq_true (by kernel_rfl)) (by kernel_rfl) (by kernel_rfl) (by kernel_rfl) (by kernel_rfl) (fun _ _ _ h => h) (by kernel_rfl) ?_ hS0 ?_
          rotate_left
          · intro w' hSw
            simp only [List.getElem_toArray, List.getElem_cons_succ, List.getElem_cons_zero]
            go_simp
            all_goals with_reducible rfl
          simp only [List.getElem_toArray, List.getElem_cons_succ, List.getElem_cons_zero, Act.put, List.setIfInBounds_toArray, List.set_cons_zero, List.set_cons_succ]
          refine wpE_take' (v := ?_) 6 [7] (of_decide_eq_true (by kernel_rfl)) (by kernel_rfl) (by kernel_rfl) (by kernel_rfl) (by kernel_rfl) (fun _ _ _ h => h) (by kernel_rfl) ?_ hS0 ?_
          rotate_left
          · intro w' hSw
            simp only [List.getElem_toArray, List.getElem_cons_succ, List.getElem_cons_zero]
            go_simp
            all_goals with_reducible rfl
          simp only [List.getElem_toArray, List.getElem_cons_succ, List.getElem_cons_zero, Act.put, List.setIfInBounds_toArray, List.set_cons_zero, List.set_cons_succ]
          refine wpE_step' 7 (of_decide_eq_true (by kernel_rfl)) (by kernel_rfl) (by kernel_rfl) (fun K hK => ?_)
          simp only [List.getElem_toArray, List.getElem_cons_succ, List.getElem_cons_zero]
          go_simp
          refine hK.out _ _ (.inl rfl) ?_
          clear hK K hS0
          simp only [Act.put, List.setIfInBounds_toArray, List.set_cons_zero, List.set_cons_succ]
          refine wpE_done (by kernel_rfl) ?_ _
          go_wp2_with fail
          go_ret
          exact ⟨rfl, hX.bel⟩
end Go.Proofs.Ytdijfkpccbkdfaa
