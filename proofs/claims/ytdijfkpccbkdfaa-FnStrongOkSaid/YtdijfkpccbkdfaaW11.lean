/-
  The law of StrongOk: its walk.
-/
import Derived.Test.YtdijfkpccbkdfaaW10a
import Derived.Test.YtdijfkpccbkdfaaP17
import Derived.Test.YtdijfkpccbkdfaaL23
import Derived.Test.YtdijfkpccbkdfaaS23
import Derived.Test.YtdijfkpccbkdfaaS21
import Derived.Test.YtdijfkpccbkdfaaL31
namespace Go.Proofs.Ytdijfkpccbkdfaa
set_option linter.unusedVariables false
set_option linter.unusedSimpArgs false
open Go.RowKit Pp

/-- Whether the first promises have one length each. -/
def sameTo (ps : List Pr) (k : Nat) : Bool := (ps.take k).all fun x => x.l == x.h
theorem sameTo_step {ps : List Pr} {k : Nat} {x : Pr} (hx : ps[k]? = some x) : sameTo ps (k + 1) = (sameTo ps k && (x.l == x.h)) := by
  unfold sameTo
  rw [List.take_add_one, hx]
  simp
theorem sameTo_all {ps : List Pr} (h : sameTo ps ps.length = true) : ∀ x ∈ ps, x.l = x.h := by
  unfold sameTo at h
  rw [List.take_length] at h
  intro x hx
  simpa using List.all_eq_true.1 h x hx

set_option maxHeartbeats 4000000 in
set_option maxRecDepth 100000 in
theorem lawStrongOk_c (a0 : Option Addr) (len0 cap0 : Nat) (z0 : List Int) (w : World) (w0 : RowU w a0 len0 cap0 z0) :
    Calls Try.prog 11 #[.slice a0 len0 cap0] w fun e w' => e = .returned (.bool true) ∧ Below w.heap.size w w' := by
  obtain ⟨hlc, hAs, hby⟩ := w0.bytes
  clear w0
  obtain ⟨i0, hi0, hz0, hz1, hz2⟩ := info_parts infoPm
  by_cases hlen : (1048576 : Int) < (len0 : Int)
  · go_enter Try.func11, Try.ntmps11
    go_wp2_with fail
    go_ret
    exact ⟨rfl, Below.refl _ _⟩
  · go_enter Try.func11, Try.ntmps11
    go_upto_region 4 with (go_at_call 46; go_fit (drawStrong_c a0 len0 cap0 z0 _ (by omega) hlc hAs hby); rintro e w1 ⟨n, A, c, bs, A2, c2, ps, b, b2, rfl, hn, hlb, hlp, HP, hcp, hrd, hrp, hW⟩)
    have hD := pd_law (n := n) (c := c) (c2 := c2) (t := 28) hW hrd hrp
    generalize w1.alloc (.cells #[.int .i64 n, .slice A bs.length c, .slice A2 ps.length c2] 28) = wa at hD ⊢
    generalize w1.heap.size = D at hD ⊢
    clear hW hrd hrp hlen hby hAs
    have hlb' : bs.length ≤ 2000000 := by omega
    have hlp' : ps.length ≤ 2000000 := by omega
    have d0 := hD.r.c0
    have d1 := hD.r.c1
    have d2 := hD.r.c2
    obtain ⟨ok, hok⟩ : ∃ ok, strongOk ⟨n, bs⟩ ps = ok := ⟨_, rfl⟩
    have Hok := hide hok
    go_upto_region 7 with (first
      | (go_at_call 37; go_fit (strongOk_c n bs ps A A2 b 0 c b2 0 c2 _ _ hlb' hlp' (Nat.le_refl _) hD.r.rd hD.r.rp); rintro e w2 ⟨rfl, hb2⟩; rw [Hok.out]; have hD2 := hD.below hb2; have e0 := hD2.r.c0; have e1 := hD2.r.c1; have e2 := hD2.r.c2)
      | (go_at_call 36; go_fit (sStrongOk_c n bs ps A A2 b 0 c b2 0 c2 _ _ hlb' hlp' (Nat.le_refl _) hD2.r.rd hD2.r.rp); rintro e w3 ⟨rfl, hb3⟩; rw [Hok.out]; have hD3 := hD2.below hb3))
    clear d0 d1 d2 e0 e1 e2 hD hD2 hb2 hb3
    have d0 := hD3.r.c0
    have d1 := hD3.r.c1
    have d2 := hD3.r.c2
    cases hd : dealOk ⟨n, bs⟩ ps
    · have Hd := hide hd
      have hokf : ok = false := by rw [← hok]; unfold strongOk; rw [hd]; rfl
      subst hokf
      clear hd hok
      go_wp2_with (first
        | (go_at_call 41; go_fit (sDealOk_c n bs ps A A2 b 0 c b2 0 c2 _ _ hlb' hlp' (Nat.le_refl _) hD3.r.rd hD3.r.rp); rintro e w4 ⟨rfl, hb4⟩; rw [Hd.out]; have hD4 := hD3.below hb4)
        | (go_at_call 18; go_fit (alive_c w4); rintro e w5 ⟨rfl, hb5⟩; have hD5 := hD4.below hb5))
      go_ret
      exact ⟨rfl, hD5.bel⟩
    · have Hd := hide hd
      obtain ⟨hp2, hpn⟩ := deal_nums hd
      have Hpn := hide hpn
      have Hsw : Hid (ok = true → weakR ⟨n, bs⟩ ps = true) := by rw [← hok]; exact strong_weak
      have Hsm : Hid (sameTo ps ps.length = true → weakR ⟨n, bs⟩ ps = ok) := fun h => by rw [← hok]; exact (strong_same (sameTo_all h)).symm
      clear hd hok hpn
      go_upto_block 0 with (go_at_call 41; go_fit (sDealOk_c n bs ps A A2 b 0 c b2 0 c2 _ _ hlb' hlp' (Nat.le_refl _) hD3.r.rd hD3.r.rp); rintro e w4 ⟨rfl, hb4⟩; rw [Hd.out])
      have hD4 := hD3.below hb4
      clear hD3 d0 d1 d2 hb4
      go_cut [5] (fun s wx => s = .bool (sameTo ps ps.length) ∧ PD w wx D b 0 n A c bs b2 0 A2 c2 ps)
      case first =>
        go_wp2_with fail
        go_loopg [5, 6] ps.length (fun gh s i wr => ∃ k : Nat, k ≤ ps.length ∧ gh = ps.length - k ∧ i = .int .i64 k ∧ s = .bool (sameTo ps k) ∧ PD w wr D b 0 n A c bs b2 0 A2 c2 ps)
        case atStart => exact ⟨0, Nat.zero_le _, rfl, rfl, by simp [sameTo], hD4⟩
        case round =>
          clear hD4
          obtain ⟨k, hk, rfl, rfl, rfl, hD⟩ := hrel
          have d2 := hD.r.c2
          by_cases hlt : k < ps.length
          · have hlt' : (k : Int) < (ps.length : Int) := by omega
            have hk0 : (0 : Int) ≤ (k : Int) := by omega
            obtain rfl := hD.r.rp.addr (by omega)
            have hx := List.getElem?_eq_getElem hlt
            generalize ps[k] = x at hx
            obtain ⟨_, _, e2, e3⟩ := pr_cells hD.r.rp hx
            rw [Nat.zero_add] at e2 e3
            have Hst := hide (sameTo_step hx)
            clear hx
            cases hs : sameTo ps k
            · have Hs := hide hs
              clear hs
              go_upto_region 13 with fail
              go_quiet (fail)
              go_wp2_with fail
              go_roundg (ps.length - (k + 1))
              case measure => go_light; omega
              case rel => go_light; exact ⟨k + 1, by omega, rfl, by go_num, by rw [Hst.out, Hs.out]; rfl, hD.below ⟨rfl, rfl, rfl, Nat.le_refl _, fun _ _ => rfl⟩⟩
            · have Hs := hide hs
              clear hs
              go_upto_region 13 with fail
              go_quiet (fail)
              go_wp2_with fail
              go_roundg (ps.length - (k + 1))
              case measure => go_light; omega
              case rel => go_light; exact ⟨k + 1, by omega, rfl, by go_num, by rw [Hst.out, Hs.out]; simp, hD.below ⟨rfl, rfl, rfl, Nat.le_refl _, fun _ _ => rfl⟩⟩
          · obtain rfl : k = ps.length := by omega
            go_wp2_with fail
            go_meet
            case rel => exact ⟨rfl, hD⟩
      case rest =>
        clear hD4
        obtain ⟨rfl, hD⟩ := hcut
        obtain ⟨same, hsame⟩ : ∃ s, sameTo ps ps.length = s := ⟨_, rfl⟩
        rw [hsame]
        have Hsm2 : Hid (same = true → weakR ⟨n, bs⟩ ps = ok) := by rw [← hsame]; exact Hsm.out
        clear hsame Hsm
        have d2 := hD.r.c2
        obtain ⟨la, hla⟩ : ∃ la : Int, (ps.length : Int) - 1 = la := ⟨_, rfl⟩
        go_upto_region 15 with fail
        have Hla := hide hla
        clear hla
        go_cut [72] (fun s wx => ∃ t : Bool, s = .bool t ∧ (t = true → ∃ (k : Nat) (x : Pr), ps[k]? = some x ∧ ps.length = k + 1 ∧ x.l < x.h) ∧ PD w wx D b 0 n A c bs b2 0 A2 c2 ps)
        case first =>
          rcases Nat.eq_zero_or_pos ps.length with hl0 | hl0
          · obtain rfl : ps = [] := List.eq_nil_of_length_eq_zero hl0
            obtain rfl : la = -1 := Hla.out.symm
            clear hl0
            go_quiet (fail)
            go_wp2_with fail
            go_meet
            case rel => exact ⟨false, rfl, (fun h => by cases h), hD.below ⟨rfl, rfl, rfl, Nat.le_refl _, fun _ _ => rfl⟩⟩
          · obtain ⟨k, hk⟩ : ∃ k : Nat, ps.length = k + 1 := ⟨ps.length - 1, by omega⟩
            obtain rfl : la = (k : Int) := by have := Hla.out; omega
            have hkp : k < ps.length := by omega
            have hkp' : (k : Int) < (ps.length : Int) := by omega
            have hk0 : (0 : Int) ≤ (k : Int) := by omega
            have Hk := hide hk
            clear hk
            obtain rfl := hD.r.rp.addr (by omega)
            have hx := List.getElem?_eq_getElem hkp
            generalize ps[k] = x at hx
            obtain ⟨_, _, e2, e3⟩ := pr_cells hD.r.rp hx
            rw [Nat.zero_add] at e2 e3
            have Hx := hide hx
            clear hx hl0
            by_cases hlt : x.l < x.h
            · go_quiet (fail)
              go_wp2_with fail
              go_meet
              case rel => exact ⟨true, rfl, fun _ => ⟨k, x, Hx.out, Hk.out, hlt⟩, hD.below ⟨rfl, rfl, rfl, Nat.le_refl _, fun _ _ => rfl⟩⟩
            · go_quiet (fail)
              go_wp2_with fail
              go_meet
              case rel => exact ⟨false, rfl, (fun h => by cases h), hD.below ⟨rfl, rfl, rfl, Nat.le_refl _, fun _ _ => rfl⟩⟩
        case rest =>
          clear hD d2
          obtain ⟨t, rfl, ht, hD⟩ := hcut
          have Ht := hide ht
          clear ht
          go_upto_if 72 with fail
          go_cut [] (fun wx => PD w wx D b 0 n A c bs b2 0 A2 c2 ps)
          case first =>
            cases t
            · go_wp2_with fail
              go_meet
              case rel => exact hD
            · obtain ⟨k, x, hx, hk, hlt⟩ := Ht.out rfl
              have hxn := Hpn.out x (List.mem_of_getElem? hx)
              obtain rfl : la = (k : Int) := by have := Hla.out; omega
              have hkp : k < ps.length := by omega
              have hkp' : (k : Int) < (ps.length : Int) := by omega
              have hk0 : (0 : Int) ≤ (k : Int) := by omega
              have hkc : (k : Int) ≤ (c2 : Int) := by omega
              have Hk := hide hk
              clear hk
              obtain rfl := hD.r.rp.addr (by omega)
              have Hps : Hid (ps = ps.take k ++ [x]) := by
                have h1 : ps.take (k + 1) = ps.take k ++ [x] := by rw [List.take_add_one, hx]; rfl
                have h2 : ps.take (k + 1) = ps := List.take_of_length_le (by rw [Hk.out]; exact Nat.le_refl _)
                unfold Hid; rw [← h1, h2]
              have Hdl : Hid (dealOk ⟨n, bs⟩ (ps.take k ++ [⟨x.f, x.t, x.l, x.h - 1⟩]) = true) := dealOk_last (by rw [← Hps.out]; exact Hd.out) hxn.1 (by omega) (by omega)
              obtain ⟨e0, e1, e2, e3⟩ := pr_cells hD.r.rp hx
              rw [Nat.zero_add] at e0 e1 e2 e3
              obtain ⟨x0, x1, x2⟩ := hxn
              have d2 := hD.r.c2
              clear hx
              go_upto_region 17 with fail
              have hV := cb_new wc [.int .i64 x.f, .int .i64 x.t, .int .i64 x.l, .int .i64 x.h] 40
              have hal : Below wc.heap.size wc (wc.alloc (.cells #[.int .i64 x.f, .int .i64 x.t, .int .i64 x.l, .int .i64 x.h] 40)) := by go_grown
              have hD4 := hD.below hal
              change CB (wc.alloc (.cells #[.int .i64 x.f, .int .i64 x.t, .int .i64 x.l, .int .i64 x.h] 40)) _ _ at hV
              generalize wc.alloc (.cells #[.int .i64 x.f, .int .i64 x.t, .int .i64 x.l, .int .i64 x.h] 40) = W4 at hD4 hV ⊢
              generalize wc.heap.size = V6 at hV ⊢
              clear hD d2 e0 e1 e2 e3 hal
              have hw1 : IntKind.i64.wrap (x.h - 1) = x.h - 1 := by rw [IntWalk.i64_left, IntWalk.wrap64_in _ (by omega)]
              refine wp_regionE (LS6 D V6 n A c bs (some ⟨b2, 0, none⟩) c2 ps x) 22 (by kernel_rfl) ?_
              change wpE _ _ _ _ _ _ 23 #[false, false, false, false, false, false, false, false, false, false, false, false, false, false, false, false, false, false, false, false, false, false, false] _ _
              have hD5 := hD4.drew
              have hV5 := hV.drew
              clear hD4 hV
              generalize W4.drew = wS at hD5 hV5 ⊢
              have hJ : LJ w wS wS D wS.heap.size b b2 n A c bs (some ⟨b2, 0, none⟩) c2 ps V6 x (.slice none 0 0) 0 [] :=
                ⟨hD5, hV5, hD5.r.ex, hV5.ex, fun h0 => hD5.r.rd.lt h0, fun h0 => hD5.r.rp.lt h0, Nat.le_refl _, hD5.bel.size, ⟨rfl, .inl ⟨rfl, rfl⟩⟩, Below.refl _ _⟩
              generalize wS.heap.size = T at hJ
              clear hD5 hV5
              have hS0 := hJ.cells
              refine wpE_take' (v := ?_) 0 [22] (of_decide_eq_true (by kernel_rfl)) (by kernel_rfl) (by kernel_rfl) (by kernel_rfl) (by kernel_rfl) (fun _ _ _ h => h) (by kernel_rfl) ?_ hS0 ?_
              rotate_left
              · intro w' hSw
                obtain ⟨hs0, hs1, hs2, hs3, hs4, hs5, hs6⟩ := hSw
                simp only [List.getElem_toArray, List.getElem_cons_succ, List.getElem_cons_zero]
                go_simp
                all_goals with_reducible rfl
              simp only [List.getElem_toArray, List.getElem_cons_succ, List.getElem_cons_zero, Act.put, List.setIfInBounds_toArray, List.set_cons_zero, List.set_cons_succ]
              refine wpE_take' (v := ?_) 1 [22] (of_decide_eq_true (by kernel_rfl)) (by kernel_rfl) (by kernel_rfl) (by kernel_rfl) (by kernel_rfl) (fun _ _ _ h => h) (by kernel_rfl) ?_ hS0 ?_
              rotate_left
              · intro w' hSw
                obtain ⟨hs0, hs1, hs2, hs3, hs4, hs5, hs6⟩ := hSw
                simp only [List.getElem_toArray, List.getElem_cons_succ, List.getElem_cons_zero]
                go_simp
                all_goals with_reducible rfl
              simp only [List.getElem_toArray, List.getElem_cons_succ, List.getElem_cons_zero, Act.put, List.setIfInBounds_toArray, List.set_cons_zero, List.set_cons_succ]
              refine wpE_take' (v := ?_) 3 [22] (of_decide_eq_true (by kernel_rfl)) (by kernel_rfl) (by kernel_rfl) (by kernel_rfl) (by kernel_rfl) (fun _ _ _ h => h) (by kernel_rfl) ?_ hS0 ?_
              rotate_left
              · intro w' hSw
                obtain ⟨hs0, hs1, hs2, hs3, hs4, hs5, hs6⟩ := hSw
                simp only [List.getElem_toArray, List.getElem_cons_succ, List.getElem_cons_zero]
                go_simp
                all_goals with_reducible rfl
              simp only [List.getElem_toArray, List.getElem_cons_succ, List.getElem_cons_zero, Act.put, List.setIfInBounds_toArray, List.set_cons_zero, List.set_cons_succ]
              refine wpE_take' (v := ?_) 4 [22] (of_decide_eq_true (by kernel_rfl)) (by kernel_rfl) (by kernel_rfl) (by kernel_rfl) (by kernel_rfl) (fun _ _ _ h => h) (by kernel_rfl) ?_ hS0 ?_
              rotate_left
              · intro w' hSw
                obtain ⟨hs0, hs1, hs2, hs3, hs4, hs5, hs6⟩ := hSw
                simp only [List.getElem_toArray, List.getElem_cons_succ, List.getElem_cons_zero]
                go_simp
                all_goals with_reducible rfl
              simp only [List.getElem_toArray, List.getElem_cons_succ, List.getElem_cons_zero, Act.put, List.setIfInBounds_toArray, List.set_cons_zero, List.set_cons_succ]
              refine wpE_take' (v := ?_) 5 [22] (of_decide_eq_true (by kernel_rfl)) (by kernel_rfl) (by kernel_rfl) (by kernel_rfl) (by kernel_rfl) (fun _ _ _ h => h) (by kernel_rfl) ?_ hS0 ?_
              rotate_left
              · intro w' hSw
                obtain ⟨hs0, hs1, hs2, hs3, hs4, hs5, hs6⟩ := hSw
                simp only [List.getElem_toArray, List.getElem_cons_succ, List.getElem_cons_zero]
                go_simp
                all_goals with_reducible rfl
              simp only [List.getElem_toArray, List.getElem_cons_succ, List.getElem_cons_zero, Act.put, List.setIfInBounds_toArray, List.set_cons_zero, List.set_cons_succ]
              refine wpE_take' (v := ?_) 6 [22] (of_decide_eq_true (by kernel_rfl)) (by kernel_rfl) (by kernel_rfl) (by kernel_rfl) (by kernel_rfl) (fun _ _ _ h => h) (by kernel_rfl) ?_ hS0 ?_
              rotate_left
              · intro w' hSw
                obtain ⟨hs0, hs1, hs2, hs3, hs4, hs5, hs6⟩ := hSw
                simp only [List.getElem_toArray, List.getElem_cons_succ, List.getElem_cons_zero]
                go_simp
                all_goals with_reducible rfl
              simp only [List.getElem_toArray, List.getElem_cons_succ, List.getElem_cons_zero, Act.put, List.setIfInBounds_toArray, List.set_cons_zero, List.set_cons_succ]
              refine wpE_take' (v := ?_) 8 [22] (of_decide_eq_true (by kernel_rfl)) (by kernel_rfl) (by kernel_rfl) (by kernel_rfl) (by kernel_rfl) (fun _ _ _ h => h) (by kernel_rfl) ?_ hS0 ?_
              rotate_left
              · intro w' hSw
                obtain ⟨hs0, hs1, hs2, hs3, hs4, hs5, hs6⟩ := hSw
                simp only [List.getElem_toArray, List.getElem_cons_succ, List.getElem_cons_zero]
                go_simp
                all_goals with_reducible rfl
              simp only [List.getElem_toArray, List.getElem_cons_succ, List.getElem_cons_zero, Act.put, List.setIfInBounds_toArray, List.set_cons_zero, List.set_cons_succ]
              refine wpE_take' (v := ?_) 9 [22] (of_decide_eq_true (by kernel_rfl)) (by kernel_rfl) (by kernel_rfl) (by kernel_rfl) (by kernel_rfl) (fun _ _ _ h => h) (by kernel_rfl) ?_ hS0 ?_
              rotate_left
              · intro w' hSw
                obtain ⟨hs0, hs1, hs2, hs3, hs4, hs5, hs6⟩ := hSw
                simp only [List.getElem_toArray, List.getElem_cons_succ, List.getElem_cons_zero]
                go_simp
                all_goals with_reducible rfl
              simp only [List.getElem_toArray, List.getElem_cons_succ, List.getElem_cons_zero, Act.put, List.setIfInBounds_toArray, List.set_cons_zero, List.set_cons_succ]
              refine wpE_take' (v := ?_) 10 [22] (of_decide_eq_true (by kernel_rfl)) (by kernel_rfl) (by kernel_rfl) (by kernel_rfl) (by kernel_rfl) (fun _ _ _ h => h) (by kernel_rfl) ?_ hS0 ?_
              rotate_left
              · intro w' hSw
                obtain ⟨hs0, hs1, hs2, hs3, hs4, hs5, hs6⟩ := hSw
                simp only [List.getElem_toArray, List.getElem_cons_succ, List.getElem_cons_zero]
                go_simp
                all_goals with_reducible rfl
              simp only [List.getElem_toArray, List.getElem_cons_succ, List.getElem_cons_zero, Act.put, List.setIfInBounds_toArray, List.set_cons_zero, List.set_cons_succ]
              refine wpE_take' (v := ?_) 11 [22] (of_decide_eq_true (by kernel_rfl)) (by kernel_rfl) (by kernel_rfl) (by kernel_rfl) (by kernel_rfl) (fun _ _ _ h => h) (by kernel_rfl) ?_ hS0 ?_
              rotate_left
              · intro w' hSw
                obtain ⟨hs0, hs1, hs2, hs3, hs4, hs5, hs6⟩ := hSw
                simp only [List.getElem_toArray, List.getElem_cons_succ, List.getElem_cons_zero]
                go_simp
                all_goals with_reducible rfl
              simp only [List.getElem_toArray, List.getElem_cons_succ, List.getElem_cons_zero, Act.put, List.setIfInBounds_toArray, List.set_cons_zero, List.set_cons_succ]
              refine wpE_take' (v := ?_) 12 [22] (of_decide_eq_true (by kernel_rfl)) (by kernel_rfl) (by kernel_rfl) (by kernel_rfl) (by kernel_rfl) (fun _ _ _ h => h) (by kernel_rfl) ?_ hS0 ?_
              rotate_left
              · intro w' hSw
                obtain ⟨hs0, hs1, hs2, hs3, hs4, hs5, hs6⟩ := hSw
                simp only [List.getElem_toArray, List.getElem_cons_succ, List.getElem_cons_zero]
                go_simp
                all_goals with_reducible rfl
              simp only [List.getElem_toArray, List.getElem_cons_succ, List.getElem_cons_zero, Act.put, List.setIfInBounds_toArray, List.set_cons_zero, List.set_cons_succ]
              refine wpE_take' (v := ?_) 13 [22] (of_decide_eq_true (by kernel_rfl)) (by kernel_rfl) (by kernel_rfl) (by kernel_rfl) (by kernel_rfl) (fun _ _ _ h => h) (by kernel_rfl) ?_ hS0 ?_
              rotate_left
              · intro w' hSw
                obtain ⟨hs0, hs1, hs2, hs3, hs4, hs5, hs6⟩ := hSw
                simp only [List.getElem_toArray, List.getElem_cons_succ, List.getElem_cons_zero]
                go_simp
                all_goals with_reducible rfl
              simp only [List.getElem_toArray, List.getElem_cons_succ, List.getElem_cons_zero, Act.put, List.setIfInBounds_toArray, List.set_cons_zero, List.set_cons_succ]
              refine wpE_take' (v := ?_) 14 [22] (of_decide_eq_true (by kernel_rfl)) (by kernel_rfl) (by kernel_rfl) (by kernel_rfl) (by kernel_rfl) (fun _ _ _ h => h) (by kernel_rfl) ?_ hS0 ?_
              rotate_left
              · intro w' hSw
                obtain ⟨hs0, hs1, hs2, hs3, hs4, hs5, hs6⟩ := hSw
                simp only [List.getElem_toArray, List.getElem_cons_succ, List.getElem_cons_zero]
                go_simp
                all_goals with_reducible rfl
              simp only [List.getElem_toArray, List.getElem_cons_succ, List.getElem_cons_zero, Act.put, List.setIfInBounds_toArray, List.set_cons_zero, List.set_cons_succ]
              refine wpE_take' (v := ?_) 15 [22] (of_decide_eq_true (by kernel_rfl)) (by kernel_rfl) (by kernel_rfl) (by kernel_rfl) (by kernel_rfl) (fun _ _ _ h => h) (by kernel_rfl) ?_ hS0 ?_
              rotate_left
              · intro w' hSw
                obtain ⟨hs0, hs1, hs2, hs3, hs4, hs5, hs6⟩ := hSw
                simp only [List.getElem_toArray, List.getElem_cons_succ, List.getElem_cons_zero]
                go_simp
                all_goals with_reducible rfl
              simp only [List.getElem_toArray, List.getElem_cons_succ, List.getElem_cons_zero, Act.put, List.setIfInBounds_toArray, List.set_cons_zero, List.set_cons_succ]
              refine wpE_take' (v := ?_) 16 [22] (of_decide_eq_true (by kernel_rfl)) (by kernel_rfl) (by kernel_rfl) (by kernel_rfl) (by kernel_rfl) (fun _ _ _ h => h) (by kernel_rfl) ?_ hS0 ?_
              rotate_left
              · intro w' hSw
                obtain ⟨hs0, hs1, hs2, hs3, hs4, hs5, hs6⟩ := hSw
                simp only [List.getElem_toArray, List.getElem_cons_succ, List.getElem_cons_zero]
                go_simp
                all_goals with_reducible rfl
              simp only [List.getElem_toArray, List.getElem_cons_succ, List.getElem_cons_zero, Act.put, List.setIfInBounds_toArray, List.set_cons_zero, List.set_cons_succ]
              refine wpE_take' (v := ?_) 17 [22] (of_decide_eq_true (by kernel_rfl)) (by kernel_rfl) (by kernel_rfl) (by kernel_rfl) (by kernel_rfl) (fun _ _ _ h => h) (by kernel_rfl) ?_ hS0 ?_
              rotate_left
              · intro w' hSw
                obtain ⟨hs0, hs1, hs2, hs3, hs4, hs5, hs6⟩ := hSw
                simp only [List.getElem_toArray, List.getElem_cons_succ, List.getElem_cons_zero]
                go_simp
                all_goals with_reducible rfl
              simp only [List.getElem_toArray, List.getElem_cons_succ, List.getElem_cons_zero, Act.put, List.setIfInBounds_toArray, List.set_cons_zero, List.set_cons_succ]
              refine wpG_start 18 96 21 9 (fun wx => LJ w wS wx D T b b2 n A c bs (some ⟨b2, 0, none⟩) c2 ps V6 x (.slice none 0 0) 0 []) (fun z wx => BV wx (.slice none 0 0) z (prCs [⟨x.f, x.t, x.l, x.h - 1⟩])) (fun y wx => BX2 wx T (.slice none 0 0) y) (of_decide_eq_true (by kernel_rfl)) (of_decide_eq_true (by kernel_rfl)) rfl (by decide) hJ (fun fl gl z y hB hC => ?_)
              simp only [Act.put, List.setIfInBounds_toArray, List.set_cons_zero, List.set_cons_succ]
              apply wpG_step (f := 18) (g := 21) (fl := fl) (gl := gl) (z := z) (y := y) (J := fun wx => LJ w wS wx D T b b2 n A c bs (some ⟨b2, 0, none⟩) c2 ps V6 x (.slice none 0 0) 0 []) (B := fun z wx => BV wx (.slice none 0 0) z (prCs [⟨x.f, x.t, x.l, x.h - 1⟩])) (C := fun y wx => BX2 wx T (.slice none 0 0) y) 2
              case hi => exact of_decide_eq_true (by kernel_rfl)
              case hgd => kernel_rfl
              case hr => kernel_rfl
              case hr0 => kernel_rfl
              case hr1 => kernel_rfl
              case hr2 => kernel_rfl
              case he0 => kernel_rfl
              case he1 => kernel_rfl
              case he2 => kernel_rfl
              case hL0 => kernel_rfl
              case hL1 => kernel_rfl
              case hL2 => kernel_rfl
              case hL3 => kernel_rfl
              case hJ => exact hJ
              case hB => exact hB
              case hC => exact hC
              case hF =>
                refine floats2_of (of_decide_eq_true (by kernel_rfl)) (of_decide_eq_true (by kernel_rfl)) (by kernel_rfl) (by kernel_rfl) (by kernel_rfl) (by kernel_rfl) (fun wx hJ => hJ.cells) ?_ ?_
                · (try clear hS0); clear hJ hB hC
                  intro gl z y wx hJ hC K hK
                  simp only [List.getElem_toArray, List.getElem_cons_succ, List.getElem_cons_zero]
                  go_simp
                  exact hK.out _ _ (hJ.alloc _) (bv_new hJ (prCs [⟨x.f, x.t, x.l, x.h - 1⟩])) (fun h => (hC h).below (by go_grown))
                · (try clear hS0); clear hJ hB hC
                  intro fl z y wx hJ hB K hK
                  simp only [List.getElem_toArray, List.getElem_cons_succ, List.getElem_cons_zero]
                  go_simp
                  exact hK.out _ _ (hJ.alloc _) (bx2_new hJ) (fun h => (hB h).below (by go_grown))
              (try clear hS0); clear hJ hB hC
              intro fl gl z y wx hJ hB hC K hK
              simp only [List.getElem_toArray, List.getElem_cons_succ, List.getElem_cons_zero]
              go_simp
              refine hK.out _ _ (.inr (hJ.empty rfl).cells) ?_
              clear hK K
              replace hB := fun h => (hB h).fresh (v' := .slice (some ⟨wx.heap.size, 0, none⟩) 0 0) (.cells #[] 40) rfl
              replace hC := fun h => (hC h).fresh (v' := .slice (some ⟨wx.heap.size, 0, none⟩) 0 0) (.cells #[] 40) rfl
              replace hJ := hJ.empty (t := 40) rfl
              simp only [Act.put, List.setIfInBounds_toArray, List.set_cons_zero, List.set_cons_succ]
              generalize wx.alloc (.cells #[] 40) = wx' at hJ hB hC ⊢
              generalize wx.heap.size = E at hJ hB hC ⊢
              clear wx
              apply wpG_step (f := 18) (g := 21) (fl := fl) (gl := gl) (z := z) (y := y) (J := fun wx => LJ w wS wx D T b b2 n A c bs (some ⟨b2, 0, none⟩) c2 ps V6 x (.slice (some ⟨E, 0, none⟩) 0 0) 0 []) (B := fun z wx => BV wx (.slice (some ⟨E, 0, none⟩) 0 0) z (prCs [⟨x.f, x.t, x.l, x.h - 1⟩])) (C := fun y wx => BX2 wx T (.slice (some ⟨E, 0, none⟩) 0 0) y) 7
              case hi => exact of_decide_eq_true (by kernel_rfl)
              case hgd => kernel_rfl
              case hr => kernel_rfl
              case hr0 => kernel_rfl
              case hr1 => kernel_rfl
              case hr2 => kernel_rfl
              case he0 => kernel_rfl
              case he1 => kernel_rfl
              case he2 => kernel_rfl
              case hL0 => kernel_rfl
              case hL1 => kernel_rfl
              case hL2 => kernel_rfl
              case hL3 => kernel_rfl
              case hJ => exact hJ
              case hB => exact hB
              case hC => exact hC
              case hF =>
                refine floats2_of (of_decide_eq_true (by kernel_rfl)) (of_decide_eq_true (by kernel_rfl)) (by kernel_rfl) (by kernel_rfl) (by kernel_rfl) (by kernel_rfl) (fun wx hJ => hJ.cells) ?_ ?_
                · (try clear hS0); clear hJ hB hC
                  intro gl z y wx hJ hC K hK
                  simp only [List.getElem_toArray, List.getElem_cons_succ, List.getElem_cons_zero]
                  go_simp
                  exact hK.out _ _ (hJ.alloc _) (bv_new hJ (prCs [⟨x.f, x.t, x.l, x.h - 1⟩])) (fun h => (hC h).below (by go_grown))
                · (try clear hS0); clear hJ hB hC
                  intro fl z y wx hJ hB K hK
                  simp only [List.getElem_toArray, List.getElem_cons_succ, List.getElem_cons_zero]
                  go_simp
                  exact hK.out _ _ (hJ.alloc _) (bx2_new hJ) (fun h => (hB h).below (by go_grown))
              (try clear hS0); clear hJ hB hC
              intro fl gl z y wx hJ hB hC K hK
              simp only [List.getElem_toArray, List.getElem_cons_succ, List.getElem_cons_zero]
              refine app_wp _ (.tmp 80) (.tmp 84) _ rfl T 40 i0 _ 4 32 Try.underlying26 hi0 hz0 hz1 hz2 rfl (by omega) (.slice (some ⟨E, 0, none⟩) 0 0) 0 [] rfl hJ.own (some ⟨b2, 0, none⟩) k c2 (prCs (ps.take k)) rfl (by rw [prCs_length, List.length_take]; omega) (csr_news hJ.d.r.rp (by omega)) (prCs_one _) (by omega) (by omega) hJ.ex ?_
              intro A4 c4 w4 hown4 hg4 hat4
              simp only [Nat.zero_add, List.nil_append] at hown4 hat4 ⊢
              replace hB := fun h => (hB h).app hg4 hat4
              replace hC := fun h => (hC h).app hg4 hat4
              replace hJ := hJ.app hg4 hown4
              refine hK.out _ _ (.inr hJ.cells) ?_
              clear hK K hown4 hg4 hat4
              simp only [Act.put, List.setIfInBounds_toArray, List.set_cons_zero, List.set_cons_succ]
              apply wpG_force (f := 18) (g := 21) (fl := fl) (gl := gl) (z := z) (y := y) (J := fun wx => LJ w wS wx D T b b2 n A c bs (some ⟨b2, 0, none⟩) c2 ps V6 x (.slice A4 k c4) k (prCs (ps.take k))) (B := fun z wx => BV wx (.slice A4 k c4) z (prCs [⟨x.f, x.t, x.l, x.h - 1⟩])) (C := fun y wx => BX2 wx T (.slice A4 k c4) y)
              case hr0 => kernel_rfl
              case hr2 => kernel_rfl
              case he2 => kernel_rfl
              case hL0 => kernel_rfl
              case hL2 => kernel_rfl
              case hL3 => kernel_rfl
              case hJ => exact hJ
              case hB => exact hB
              case hC => exact hC
              case hF =>
                refine floats2_of (of_decide_eq_true (by kernel_rfl)) (of_decide_eq_true (by kernel_rfl)) (by kernel_rfl) (by kernel_rfl) (by kernel_rfl) (by kernel_rfl) (fun wx hJ => hJ.cells) ?_ ?_
                · (try clear hS0); clear hJ hB hC
                  intro gl z y wx hJ hC K hK
                  simp only [List.getElem_toArray, List.getElem_cons_succ, List.getElem_cons_zero]
                  go_simp
                  exact hK.out _ _ (hJ.alloc _) (bv_new hJ (prCs [⟨x.f, x.t, x.l, x.h - 1⟩])) (fun h => (hC h).below (by go_grown))
                · (try clear hS0); clear hJ hB hC
                  intro fl z y wx hJ hB K hK
                  simp only [List.getElem_toArray, List.getElem_cons_succ, List.getElem_cons_zero]
                  go_simp
                  exact hK.out _ _ (hJ.alloc _) (bx2_new hJ) (fun h => (hB h).below (by go_grown))
              (try clear hS0); clear hJ hB hC
              intro gl z y wx hJ hB hC
              obtain ⟨V, rfl, hcb, hnv⟩ := hB
              have hK6 : LK w wS wx D T b b2 n A c bs (some ⟨b2, 0, none⟩) c2 ps V6 x (.slice A4 k c4) k (prCs (ps.take k)) V (prCs [⟨x.f, x.t, x.l, x.h - 1⟩]) := ⟨hJ, hcb, hnv⟩
              clear hJ hcb hnv
              have hJ := hK6
              clear hK6
              apply wpF_step (f := 21) (fl := gl) (z := y) (J := fun wx => LK w wS wx D T b b2 n A c bs (some ⟨b2, 0, none⟩) c2 ps V6 x (.slice A4 k c4) k (prCs (ps.take k)) V (prCs [⟨x.f, x.t, x.l, x.h - 1⟩])) (B := fun y wx => BX2 wx T (.slice A4 k c4) y) 19
              case hi => exact of_decide_eq_true (by kernel_rfl)
              case hg => kernel_rfl
              case hr0 => kernel_rfl
              case hr1 => kernel_rfl
              case hL => kernel_rfl
              case hJ => exact hJ
              case hB => exact hC
              case hF =>
                refine floats_of (of_decide_eq_true (by kernel_rfl)) (by kernel_rfl) (by kernel_rfl) (fun wx hJ => hJ.cells) ?_
                (try clear hS0); clear hJ hC
                intro y wx hJ K hK
                simp only [List.getElem_toArray, List.getElem_cons_succ, List.getElem_cons_zero]
                go_simp
                exact hK.out _ _ (hJ.alloc _) hJ.bx
              clear hJ hC
              intro gl y wx hJ hC K hK
              simp only [List.getElem_toArray, List.getElem_cons_succ, List.getElem_cons_zero]
              refine app_wp _ (.tmp 85) (.tmp 96) _ rfl T 40 i0 _ 4 32 Try.underlying26 hi0 hz0 hz1 hz2 rfl (by omega) (.slice A4 k c4) k (prCs (ps.take k)) rfl hJ.j.own (some ⟨V, 0, none⟩) 1 _ (prCs [⟨x.f, x.t, x.l, x.h - 1⟩]) rfl rfl hJ.cb.news (prCs_one _) (by omega) (by omega) hJ.j.ex ?_
              intro A5 c5 w5 hown5 hg5 hat5
              replace hC := fun h => (hC h).app hg5 hat5
              rw [← prCs_append] at hown5
              have hJ5 := hJ.j.app hg5 hown5
              clear hJ
              have hJ := hJ5
              clear hJ5 hown5 hg5 hat5
              refine hK.out _ _ (.inr hJ.cells) ?_
              clear hK K wx
              simp only [Act.put, List.setIfInBounds_toArray, List.set_cons_zero, List.set_cons_succ]
              have hS0 := hJ.cells
              apply wpF_take (z := y) 20 [22]
              case hi => exact of_decide_eq_true (by kernel_rfl)
              case hl0 => kernel_rfl
              case hl1 => kernel_rfl
              case hs => kernel_rfl
              case hf0 => kernel_rfl
              case hf1 => kernel_rfl
              case hr0 => kernel_rfl
              case hr1 => kernel_rfl
              case hQ => exact fun _ _ _ h => h
              case hg => kernel_rfl
              case hS => exact hS0
              case hy =>
                intro w' hSw
                simp only [List.getElem_toArray, List.getElem_cons_succ, List.getElem_cons_zero]
                go_simp
                all_goals with_reducible rfl
              simp only [List.getElem_toArray, List.getElem_cons_succ, List.getElem_cons_zero, Act.put, List.setIfInBounds_toArray, List.set_cons_zero, List.set_cons_succ]
              clear hS0
              apply wpF_end (f := 21) (fl := gl) (z := y) (J := fun wx => LJ w wS wx D T b b2 n A c bs (some ⟨b2, 0, none⟩) c2 ps V6 x (.slice A5 (k + 1) c5) (k + 1) (prCs (ps.take k ++ [⟨x.f, x.t, x.l, x.h - 1⟩]))) (B := fun y wx => BX2 wx T (.slice A5 (k + 1) c5) y)
              case hr0 => kernel_rfl
              case hL => kernel_rfl
              case hJ => exact hJ
              case hB => exact hC
              case hF =>
                refine floats_of (of_decide_eq_true (by kernel_rfl)) (by kernel_rfl) (by kernel_rfl) (fun wx hJ => hJ.cells) ?_
                (try clear hS0); clear hJ hC
                intro y wx hJ K hK
                simp only [List.getElem_toArray, List.getElem_cons_succ, List.getElem_cons_zero]
                go_simp
                exact hK.out _ _ (hJ.alloc _) hJ.bx
              clear hJ hC
              intro y wx hJ hC
              obtain ⟨X, rfl, hTX, hX, hv⟩ := hC
              have x0' := hX.x0
              have x1' := hX.x1
              have x2' := hX.x2
              have xf0 := hX.xf 0
              have xf1 := hX.xf 1
              have xf2 := hX.xf 2
              have hput := hJ.put (by simp; omega) hTX hX hv
              clear hJ hX hv
              refine wpE_step' 22 (of_decide_eq_true (by kernel_rfl)) (by kernel_rfl) (by kernel_rfl) (fun K hK => ?_)
              simp only [List.getElem_toArray, List.getElem_cons_succ, List.getElem_cons_zero]
              go_simp
              refine hK.out _ _ (.inl rfl) ?_
              clear hK K
              simp only [Act.put, List.setIfInBounds_toArray, List.set_cons_zero, List.set_cons_succ]
              refine wpE_done (by kernel_rfl) ?_ _
              clear x0' x1' x2' xf0 xf1 xf2
              generalize ((wx.setCell ⟨X, 0, none⟩ (.int .i64 n)).setCell ⟨X, 1, none⟩ (.slice A bs.length c)).setCell ⟨X, 2, none⟩ (.slice A5 (k + 1) c5) = W7 at hput ⊢
              obtain ⟨hJ7, b6, hY⟩ := hput
              have hD7 := hJ7.d
              clear hJ7 wx
              obtain ⟨q2, hq2⟩ : ∃ q2, ps.take k ++ [(⟨x.f, x.t, x.l, x.h - 1⟩ : Pr)] = q2 := ⟨_, rfl⟩
              have hll2 : q2.length ≤ 2000000 := by rw [← hq2]; simp; omega
              have Hso : Hid (ok = true → strongOk ⟨n, bs⟩ q2 = true) := fun h => by
                have h1 := Hok.out
                have h2 := Hdl.out
                rw [h, Hps.out] at h1
                rw [← hq2]
                exact strongOk_less hlt h2 h1
              rw [hq2] at hY
              clear hq2 Hdl hw1
              have y0 := hY.r.c0
              have y1 := hY.r.c1
              have y2 := hY.r.c2
              cases ok
              · go_wp2_with fail
                go_meet
                case rel => exact hD7
              · have Hs2 := hide (Hso.out rfl)
                go_wp2_with (go_at_call 37; go_fit (strongOk_c n bs q2 A A5 b 0 c b6 0 c5 _ _ hlb' hll2 (Nat.le_refl _) hY.r.rd hY.r.rp); rintro e w8 ⟨rfl, hb8⟩; rw [Hs2.out]; have hD8 := hD7.below hb8)
                go_meet
                case rel => exact hD8
          case rest =>
            clear hD
            have hD := hcut
            have d0 := hD.r.c0
            have d1 := hD.r.c1
            have d2 := hD.r.c2
            cases ok
            · cases same
              · go_wp2_with fail
                go_ret
                exact ⟨rfl, hD.bel⟩
              · have Hw := hide (Hsm2.out rfl)
                go_wp2_with (go_at_call 39; go_fit (weakOk_c n bs ps A A2 b 0 c b2 0 c2 _ _ hlb' hlp' (Nat.le_refl _) hD.r.rd hD.r.rp); rintro e w8 ⟨rfl, hb8⟩; rw [Hw.out]; have hD8 := hD.below hb8)
                go_ret
                exact ⟨rfl, hD8.bel⟩
            · have Hw := hide (Hsw.out rfl)
              cases same
              · go_wp2_with (go_at_call 39; go_fit (weakOk_c n bs ps A A2 b 0 c b2 0 c2 _ _ hlb' hlp' (Nat.le_refl _) hD.r.rd hD.r.rp); rintro e w8 ⟨rfl, hb8⟩; rw [Hw.out]; have hD8 := hD.below hb8)
                go_ret
                exact ⟨rfl, hD8.bel⟩
              · go_wp2_with (first
                  | (go_at_call 39; go_fit (weakOk_c n bs ps A A2 b 0 c b2 0 c2 _ _ hlb' hlp' (Nat.le_refl _) hD.r.rd hD.r.rp); rintro e w8 ⟨rfl, hb8⟩; rw [Hw.out]; have hD8 := hD.below hb8; have d80 := hD8.r.c0; have d81 := hD8.r.c1; have d82 := hD8.r.c2)
                  | (go_at_call 39; go_fit (weakOk_c n bs ps A A2 b 0 c b2 0 c2 _ _ hlb' hlp' (Nat.le_refl _) hD8.r.rd hD8.r.rp); rintro e w9 ⟨rfl, hb9⟩; rw [Hw.out]; have hD9 := hD8.below hb9))
                go_ret
                exact ⟨rfl, hD9.bel⟩
end Go.Proofs.Ytdijfkpccbkdfaa
