/-
  The law of WeakOk: its walk.
-/
import Derived.Test.YtdijfkpccbkdfaaD19
import Derived.Test.YtdijfkpccbkdfaaW8
import Derived.Test.YtdijfkpccbkdfaaL33
import Derived.Test.YtdijfkpccbkdfaaL31
import Derived.Test.YtdijfkpccbkdfaaS30
import Derived.Test.YtdijfkpccbkdfaaS21
namespace Go.Proofs.Ytdijfkpccbkdfaa
set_option linter.unusedVariables false
set_option linter.unusedSimpArgs false
open Go.RowKit Pp

set_option maxHeartbeats 4000000 in
set_option maxRecDepth 100000 in
theorem lawWeakOk_c (a0 : Option Addr) (len0 cap0 : Nat) (z0 : List Int) (w : World) (w0 : RowU w a0 len0 cap0 z0) :
    Calls Try.prog 7 #[.slice a0 len0 cap0] w fun e w' => e = .returned (.bool true) ∧ Below w.heap.size w w' := by
  obtain ⟨hlc, hAs, hby⟩ := w0.bytes
  clear w0
  by_cases hlen : (1048576 : Int) < (len0 : Int)
  · go_enter Try.func7, Try.ntmps7
    go_wp2_with fail
    go_ret
    exact ⟨rfl, Below.refl _ _⟩
  · go_enter Try.func7, Try.ntmps7
    go_upto_region 4 with (go_at_call 38; go_fit (drawWeak_c a0 len0 cap0 z0 _ (by omega) hlc hAs hby); rintro e w1 ⟨n, A, c, bs, A2, c2, ps, b, b2, rfl, hn, hlb, hlp, HP, _, hrd, hrp, hW⟩)
    have hD := pd_law (n := n) (c := c) (c2 := c2) (t := 28) hW hrd hrp
    generalize w1.alloc (.cells #[.int .i64 n, .slice A bs.length c, .slice A2 ps.length c2] 28) = wa at hD ⊢
    generalize w1.heap.size = D at hD ⊢
    clear hW hrd hrp hlen hby hAs
    have hlb' : bs.length ≤ 2000000 := by omega
    have hlp' : ps.length ≤ 2000000 := by omega
    have d0 := hD.r.c0
    have d1 := hD.r.c1
    have d2 := hD.r.c2
    obtain ⟨ok, hok⟩ : ∃ ok, weakR ⟨n, bs⟩ ps = ok := ⟨_, rfl⟩
    have Hok := hide hok
    have Hok2 : Hid (weakS ⟨n, bs⟩ ps = ok) := by rw [← weak_same]; exact hok
    go_upto_region 7 with (first
      | (go_at_call 39; go_fit (weakOk_c n bs ps A A2 b 0 c b2 0 c2 _ _ hlb' hlp' (Nat.le_refl _) hD.r.rd hD.r.rp); rintro e w2 ⟨rfl, hb2⟩; rw [Hok.out]; have hD2 := hD.below hb2; have e0 := hD2.r.c0; have e1 := hD2.r.c1; have e2 := hD2.r.c2)
      | (go_at_call 40; go_fit (sWeakOk_q n bs ps A A2 b 0 c b2 0 c2 _ _ hlb' hlp' (Nat.le_refl _) hD2.r.rd hD2.r.rp); rintro e w3 ⟨rfl, hb3⟩; rw [Hok2.out]; have hD3 := hD2.below hb3))
    clear d0 d1 d2 e0 e1 e2 hD hD2 hb2 hb3
    have d0 := hD3.r.c0
    have d1 := hD3.r.c1
    have d2 := hD3.r.c2
    cases hd : dealOk ⟨n, bs⟩ ps
    · have Hd := hide hd
      have hokf : ok = false := by rw [← hok]; unfold weakR; rw [hd]; rfl
      subst hokf
      clear hd hok
      go_wp2_with (first
        | (go_at_call 41; go_fit (sDealOk_c n bs ps A A2 b 0 c b2 0 c2 _ _ hlb' hlp' (Nat.le_refl _) hD3.r.rd hD3.r.rp); rintro e w4 ⟨rfl, hb4⟩; rw [Hd.out]; have hD4 := hD3.below hb4)
        | (go_at_call 18; go_fit (alive_c w4); rintro e w5 ⟨rfl, hb5⟩; have hD5 := hD4.below hb5))
      go_ret
      exact ⟨rfl, hD5.bel⟩
    · have Hd := hide hd
      obtain ⟨hp2, hpn⟩ := deal_nums hd
      have hcount := weak_count hd
      have hfit := weak_fits (p := ⟨n, bs⟩) (ps := ps)
      rw [hok] at hcount hfit
      have Hcount := hide hcount
      have Hfit := hide hfit
      have Hpn := hide hpn
      clear hd hok hcount hfit hpn
      go_upto_block 0 with (go_at_call 41; go_fit (sDealOk_c n bs ps A A2 b 0 c b2 0 c2 _ _ hlb' hlp' (Nat.le_refl _) hD3.r.rd hD3.r.rp); rintro e w4 ⟨rfl, hb4⟩; rw [Hd.out])
      have hD4 := hD3.below hb4
      clear hD3 d0 d1 d2 hb4
      go_cut [5] (fun s wx => s = .int .i64 (prodN ps : Int) ∧ PD w wx D b 0 n A c bs b2 0 A2 c2 ps)
      case first =>
        go_wp2_with fail
        go_loopg [5, 6] ps.length (fun gh s i wr => ∃ k : Nat, k ≤ ps.length ∧ gh = ps.length - k ∧ i = .int .i64 k ∧ s = .int .i64 (prodN (ps.take k) : Int) ∧ PD w wr D b 0 n A c bs b2 0 A2 c2 ps)
        case atStart => exact ⟨0, Nat.zero_le _, rfl, rfl, by simp [prodN], hD4⟩
        case round =>
          clear hD4
          obtain ⟨k, hk, rfl, rfl, rfl, hD⟩ := hrel
          have d2 := hD.r.c2
          by_cases hlt : k < ps.length
          · have hlt' : (k : Int) < (ps.length : Int) := by omega
            have hk0 : (0 : Int) ≤ (k : Int) := by omega
            obtain rfl := hD.r.rp.addr (by omega)
            have hx := List.getElem?_eq_getElem hlt
            have hxn := Hpn.out _ (List.getElem_mem hlt)
            have hsm := prodN_small hp2 Hpn.out k
            generalize ps[k] = x at hx hxn
            obtain ⟨_, _, e2, e3⟩ := pr_cells hD.r.rp hx
            rw [Nat.zero_add] at e2 e3
            have hstep := prodN_take hx hxn.2.1
            obtain ⟨x0, x1, x2⟩ := hxn
            obtain ⟨M, hM⟩ : ∃ M : Int, (prodN (ps.take k) : Int) = M := ⟨_, rfl⟩
            have hM0 : 0 ≤ M ∧ M ≤ 169 := by omega
            rw [hM] at hstep ⊢
            obtain ⟨y, hy⟩ : ∃ y, x.h - x.l + 1 = y := ⟨_, rfl⟩
            have hy0 : 0 ≤ y ∧ y ≤ 13 := by omega
            have hMy : 0 ≤ M * y ∧ M * y ≤ 2197 := ⟨Int.mul_nonneg hM0.1 hy0.1, by have := Int.mul_le_mul hM0.2 hy0.2 hy0.1 (by omega); omega⟩
            have hw1 : IntKind.i64.wrap (x.h - x.l) = x.h - x.l := by rw [IntWalk.i64_left, IntWalk.wrap64_in _ (by omega)]
            have hw2 : IntKind.i64.wrap (x.h - x.l + 1) = y := by rw [IntWalk.i64_left, IntWalk.wrap64_in _ (by omega), hy]
            have hw3 : IntKind.i64.wrap (M * y) = M * y := by rw [IntWalk.i64_left, IntWalk.wrap64_in _ (by omega)]
            rw [hy] at hstep
            have Hstep := hide hstep
            clear hx hM hy hstep hsm
            go_upto_region 13 with fail
            go_quiet (fail)
            go_wp2_with fail
            go_roundg (ps.length - (k + 1))
            case measure => go_light; omega
            case rel => go_light; exact ⟨k + 1, by omega, rfl, by go_num, by rw [Hstep.out], hD.below ⟨rfl, rfl, rfl, Nat.le_refl _, fun _ _ => rfl⟩⟩
          · obtain rfl : k = ps.length := by omega
            go_wp2_with fail
            go_meet
            case rel => exact ⟨by rw [List.take_length], hD⟩
      case rest =>
        clear hD4
        obtain ⟨rfl, hD⟩ := hcut
        have d0 := hD.r.c0
        have d1 := hD.r.c1
        have d2 := hD.r.c2
        obtain ⟨M, hM⟩ : ∃ M : Int, (prodN ps : Int) = M := ⟨_, rfl⟩
        obtain ⟨N, hN⟩ : ∃ N : Int, countR ⟨n, bs⟩ ps = N := ⟨_, rfl⟩
        have hc := Hcount.out
        rw [hM] at hc ⊢
        rw [hN] at hc
        have HN := hide hN
        clear hM hN
        cases ok
        · have hne : (N == M) = false := by
            have : ¬ N = M := fun e => by have := hc.2 e; cases this
            simp [this]
          clear hc
          go_wp2_with (go_at_call 42; go_fit (countFit_c n bs ps A A2 b 0 c b2 0 c2 _ _ hlb' hlp' (Nat.le_refl _) hD.r.rd hD.r.rp); rintro e w5 ⟨rfl, hb5⟩; rw [HN.out]; have hD5 := hD.below hb5)
          go_ret
          exact ⟨rfl, hD5.bel⟩
        · obtain rfl := hc.1 rfl
          have Hf : Hid (fits ⟨n, bs⟩ = true) := Hfit.out rfl
          clear hc
          go_wp2_with (first
            | (go_at_call 42; go_fit (countFit_c n bs ps A A2 b 0 c b2 0 c2 _ _ hlb' hlp' (Nat.le_refl _) hD.r.rd hD.r.rp); rintro e w5 ⟨rfl, hb5⟩; rw [HN.out]; have hD5 := hD.below hb5; have e0 := hD5.r.c0; have e1 := hD5.r.c1)
            | (go_at_call 19; go_fit (fitsOk_c ⟨n, bs⟩ A b 0 c _ _ hlb' (Nat.le_refl _) hD5.r.rd); rintro e w6 ⟨rfl, hb6⟩; rw [Hf.out]; have hD6 := hD5.below hb6))
          go_ret
          exact ⟨rfl, hD6.bel⟩
end Go.Proofs.Ytdijfkpccbkdfaa
