/-
  The law of CountWays: its walk.
-/
import Derived.Test.YtledgblepdjjlaaD51
import Derived.Test.YtledgblepdjjlaaP27
import Derived.Test.YtledgblepdjjlaaL54
import Derived.Test.YtledgblepdjjlaaS55
import Derived.Test.YtledgblepdjjlaaL1c
import Derived.Test.YtledgblepdjjlaaW0
namespace Go.Proofs.Ytledgblepdjjlaa
set_option linter.unusedVariables false
set_option linter.unusedSimpArgs false
open Go.RowKit Pp

set_option maxHeartbeats 4000000 in
set_option maxRecDepth 100000 in
theorem lawCountWays_c (a0 : Option Addr) (len0 cap0 : Nat) (z0 : List Int) (w : World) (w0 : RowU w a0 len0 cap0 z0) :
    Calls Try.prog 6 #[.slice a0 len0 cap0] w fun e w' => e = .returned (.bool true) ∧ Below w.heap.size w w' := by
  obtain ⟨hlc, hAs, hby⟩ := w0.bytes
  clear w0
  by_cases hlen : (1048576 : Int) < (len0 : Int)
  · go_enter Try.func6, Try.ntmps6
    go_wp2_with fail
    go_ret
    exact ⟨rfl, Below.refl _ _⟩
  · go_enter Try.func6, Try.ntmps6
    go_upto_region 4 with (go_at_call 41; go_fit (drawWays_c a0 len0 cap0 z0 _ (by omega) hlc hAs hby); rintro e w1 ⟨n, A, c, bs, A2, c2, cs, b, b2, rfl, hn, hlb, hlcs, HL, hcap, hrd, hrc, hW⟩)
    have hD := cc_law (n := n) (c := c) (c2 := c2) (t := 37) hW hrd hrc
    generalize w1.alloc (.cells #[.int .i64 n, .slice A bs.length c, .slice A2 cs.length c2] 37) = wa at hD ⊢
    generalize w1.heap.size = D at hD ⊢
    clear hW hrd hrc hlen hby hAs
    have hlb' : bs.length ≤ 2000000 := by omega
    have hlc' : cs.length ≤ 2000000 := by omega
    have H3 : Hid (∀ l ∈ cs, l.length ≤ 2000000) := fun l hl => by have := HL.out l hl; omega
    have d0 := hD.r.c0
    have d1 := hD.r.c1
    have d2 := hD.r.c2
    obtain ⟨cw, hcw⟩ : ∃ cw, countW ⟨n, bs⟩ cs = cw := ⟨_, rfl⟩
    have hcb := countW_bound ⟨n, bs⟩ cs
    rw [hcw] at hcb
    have Hcw := hide hcw
    clear hcw
    go_upto_region 7 with (first
      | (go_at_call 42; go_fit (countWays_c n bs cs A A2 b 0 c b2 0 c2 _ _ hlb' hlc' H3.out (Nat.le_refl _) hD.r.rd hD.r.rc); rintro e w2 ⟨rfl, hb2⟩; rw [Hcw.out]; have hD2 := hD.below hb2; have e0 := hD2.r.c0; have e1 := hD2.r.c1; have e2 := hD2.r.c2)
      | (go_at_call 43; go_fit (sCountWays_c n bs cs A A2 b 0 c b2 0 c2 _ _ hlb' hlc' H3.out (Nat.le_refl _) hD2.r.rd hD2.r.rc); rintro e w3 ⟨rfl, hb3⟩; rw [Hcw.out]; have hD3 := hD2.below hb3))
    clear d0 d1 d2 e0 e1 e2 hD hD2 hb2 hb3
    have d0 := hD3.r.c0
    have d1 := hD3.r.c1
    have d2 := hD3.r.c2
    have dx := hD3.r.ex
    cases hc : caseOk ⟨n, bs⟩ cs
    · have hc1 : cw = -1 := by rw [← Hcw.out]; unfold countW; rw [hc]; rfl
      subst hc1
      have Hc := hide hc
      clear hc
      go_wp2_with (first
        | (go_at_call 44; go_fit (caseOk_c n bs cs A A2 b 0 c b2 0 c2 _ _ hlb' hlc' H3.out (Nat.le_refl _) hD3.r.rd hD3.r.rc); rintro e w5 ⟨rfl, hb5⟩; rw [Hc.out]; have hD5 := hD3.below hb5)
        | (go_at_call 31; go_fit (alive_c _); rintro e w6 ⟨rfl, hb6⟩; have hD6 := hD5.below hb6))
      go_ret
      exact ⟨rfl, hD6.bel⟩
    have hc0 : 0 ≤ cw := by rw [← Hcw.out, countW_yes hc]; omega
    rcases Nat.eq_zero_or_pos cs.length with hcl | hcl
    · have hcs := List.eq_nil_of_length_eq_zero hcl
      subst hcs
      have hcn := count_none hc
      rw [Hcw.out] at hcn
      have Hc := hide hc
      clear hc hcl
      cases hf : fits ⟨n, bs⟩
      · rw [hf] at hcn
        simp only [Bool.false_eq_true, if_false] at hcn
        subst hcn
        have Hf := hide hf
        clear hf
        simp only [List.length_nil] at d2
        go_wp2_with (go_at_call 30; go_fit (fitsOk_c ⟨n, bs⟩ A b 0 c _ _ hlb' (Nat.le_refl _) hD3.r.rd); rintro e w5 ⟨rfl, hb5⟩; rw [Hf.out]; have hD5 := hD3.below hb5)
        go_ret
        exact ⟨rfl, hD5.bel⟩
      · rw [hf] at hcn
        simp only [if_true] at hcn
        subst hcn
        have Hf := hide hf
        clear hf
        simp only [List.length_nil] at d2
        go_wp2_with (go_at_call 30; go_fit (fitsOk_c ⟨n, bs⟩ A b 0 c _ _ hlb' (Nat.le_refl _) hD3.r.rd); rintro e w5 ⟨rfl, hb5⟩; rw [Hf.out]; have hD5 := hD3.below hb5)
        go_ret
        exact ⟨rfl, hD5.bel⟩
    · obtain ⟨m, hm⟩ : ∃ m, cs.length = m + 1 := ⟨cs.length - 1, by omega⟩
      have hx := List.getElem?_eq_getElem (show m < cs.length by omega)
      obtain ⟨l, hl⟩ : ∃ l, cs[m] = l := ⟨_, rfl⟩
      rw [hl] at hx
      have hlm := List.mem_of_getElem? hx
      have hl3 := HL.out l hlm
      have hcnt := count_last hc (by omega) hm hx
      rw [Hcw.out] at hcnt
      obtain ⟨F, hF⟩ : ∃ F : Nat → Nat, (fun k : Nat => (Pp.ways ⟨n, bs ++ [pickAt l (k : Int)]⟩ (cs.take m)).length) = F := ⟨_, rfl⟩
      rw [hF] at hcnt
      have hFb : ∀ i, F i ≤ 81 := fun i => by rw [← hF]; exact ways_len _ _
      have hmore : Hid (∀ k : Nat, k < l.length → planOk ⟨n, bs ++ [pickAt l (k : Int)]⟩ = true ∧ caseOk ⟨n, bs ++ [pickAt l (k : Int)]⟩ (cs.take m) = true ∧ l[k]? = some (pickAt l (k : Int)) ∧ countW ⟨n, bs ++ [pickAt l (k : Int)]⟩ (cs.take m) = (F k : Int)) := fun k hk => by
        have hg := pickAt_get (l := l) (k := (k : Int)) ⟨by omega, by omega⟩
        rw [Int.toNat_natCast] at hg
        obtain ⟨q1, q2⟩ := case_more m hc (by omega) hlm (List.mem_of_getElem? hg)
        exact ⟨q1, q2, hg, by rw [countW_yes q2, ← hF]⟩
      have HF := hide hFb
      have Hcnt := hide hcnt
      have hmc : ((cs.take m).length : Int) = m := by rw [List.length_take]; omega
      have htk : Hid ((cs.take m).length = m) := by unfold Hid; rw [List.length_take]; omega
      have hmc2 : m < cs.length := by omega
      have hmz : (m : Int) < (cs.length : Int) := by omega
      have hm0 : (0 : Int) ≤ (m : Int) := by omega
      have hwr : IntKind.i64.wrap ((cs.length : Int) - 1) = (m : Int) := by rw [show (cs.length : Int) - 1 = (m : Int) by omega]; exact IntWalk.i64_in _ (by omega)
      have hbl : ¬ (12 : Int) ≤ (bs.length : Int) := by omega
      have hbl1 : bs.length ≤ 10000 := by omega
      have hmcap : (m : Int) ≤ (c2 : Int) := by omega
      have Hx := hide hx
      clear hx hl hF hFb hcnt hmc hc hm hlm hcl
      go_upto_region 15 with fail
      go_wp2_with fail
      go_loopg [6, 7] l.length (fun gh s6 s7 wr => ∃ k : Nat, k ≤ l.length ∧ gh = l.length - k ∧ s6 = .int .i64 (sumN F k : Nat) ∧ s7 = .int .i64 k ∧ CC w wr D b 0 n A c bs b2 0 A2 c2 cs)
      case atStart => exact ⟨0, Nat.zero_le _, rfl, rfl, rfl, hD3⟩
      case round =>
        clear hD3 d0 d1 d2 dx
        obtain ⟨k, hk, rfl, rfl, rfl, hD⟩ := hrel
        have d0 := hD.r.c0
        have d1 := hD.r.c1
        have d2 := hD.r.c2
        have dx := hD.r.ex
        have hs := sumN_le HF.out k
        obtain ⟨sm, hsm⟩ : ∃ sm, sumN F k = sm := ⟨_, rfl⟩
        rw [hsm] at hs ⊢
        obtain ⟨A3, b3, o3, c3, hcell, hrl⟩ := hD.r.rc.row m l Hx.out
        rw [Nat.zero_add] at hcell
        obtain rfl := hD.r.rc.addr (by omega)
        by_cases hlt : k < l.length
        · have hlt' : (k : Int) < (l.length : Int) := by omega
          obtain ⟨g1, g2, g3, g4⟩ := hmore.out k hlt
          obtain rfl := hrl.addr (by omega)
          have hfk := HF.out k
          obtain ⟨fk, hfk2⟩ : ∃ fk, F k = fk := ⟨_, rfl⟩
          rw [hfk2] at hfk g4
          obtain ⟨x, hx⟩ : ∃ x, pickAt l (k : Int) = x := ⟨_, rfl⟩
          rw [hx] at g1 g2 g3 g4
          have x0 := hrl.c0 k x g3
          have x1 := hrl.c1 k x g3
          have x2 := hrl.c2 k x g3
          have hq : toldP ⟨n, bs ++ [x]⟩ = ⟨n, bs ++ [x]⟩ := by unfold toldP; rw [if_pos g1]
          have Hq := hide hq
          have Hr := hide g1
          have Hc2 := hide g2
          have Hcw2 := hide g4
          have Hsm := hide hsm
          have Hfk := hide hfk2
          have hql : (bs ++ [x]).length ≤ 2000000 := by simp; omega
          obtain ⟨qs, hqs⟩ : ∃ qs, bs ++ [x] = qs := ⟨_, rfl⟩
          rw [hqs] at hql Hq Hr Hcw2
          clear hq g1 g2 g3 g4 hx hsm hfk2
          have hDd := hD.drew
          have hb3x := hrl.lt (by omega)
          have hb2x := hD.r.rc.lt (by omega)
          have HS : Hid (∀ w' : World, Below wr.heap.size wr w' → w'.cell? ⟨D, 0, none⟩ = some (.int .i64 n) ∧ w'.cell? ⟨D, 1, none⟩ = some (.slice A bs.length c) ∧ w'.cell? ⟨D, 2, none⟩ = some (.slice (some ⟨b2, 0, none⟩) cs.length c2) ∧ w'.cell? ⟨b2, m, none⟩ = some (.slice (some ⟨b3, o3, none⟩) l.length c3) ∧ w'.cell? ⟨b3, o3 + k * 3, none⟩ = some (.int .i64 x.f) ∧ w'.cell? ⟨b3, o3 + k * 3 + 1, none⟩ = some (.int .i64 x.t) ∧ w'.cell? ⟨b3, o3 + k * 3 + 2, none⟩ = some (.int .i64 x.m)) := fun w' hb => by
            have hc := (bcell hb).1
            exact ⟨(hc _ _ dx).trans d0, (hc _ _ dx).trans d1, (hc _ _ dx).trans d2, (hc _ _ hb2x).trans hcell, (hc _ _ hb3x).trans x0, (hc _ _ hb3x).trans x1, (hc _ _ hb3x).trans x2⟩
          go_upto_region 18 with fail
          go_region_held3 (fun w' => w'.cell? ⟨D, 0, none⟩ = some (.int .i64 n) ∧ w'.cell? ⟨D, 1, none⟩ = some (.slice A bs.length c) ∧ w'.cell? ⟨D, 2, none⟩ = some (.slice (some ⟨b2, 0, none⟩) cs.length c2) ∧ w'.cell? ⟨b2, m, none⟩ = some (.slice (some ⟨b3, o3, none⟩) l.length c3) ∧ w'.cell? ⟨b3, o3 + k * 3, none⟩ = some (.int .i64 x.f) ∧ w'.cell? ⟨b3, o3 + k * 3 + 1, none⟩ = some (.int .i64 x.t) ∧ w'.cell? ⟨b3, o3 + k * 3 + 2, none⟩ = some (.int .i64 x.m))
            (first
              | exact hS5
              | exact hS6
              | (go_split_ands; (repeat' apply And.intro) <;> assumption)
              | (refine HS.out _ ?_; go_grown; done)
              | (go_keep; done))
            (first
              | (go_at_call 45; go_fit (withBound_q ⟨n, bs⟩ x ⟨n, qs⟩ true (by rw [hqs]; exact Hq.out) (by rw [hqs]; exact Hr.out) A b 0 c _ _ hbl1 (Nat.le_refl _) hDd.r.rd); rintro e w5 ⟨A5, c5, g5, rfl, hr5, own5, hb5⟩; have hD5 := hDd.below hb5; have hz5 : wr.heap.size ≤ w5.heap.size := hb5.size; have hS5 := HS.out _ (bthen (show Below wr.heap.size wr _ by go_grown) hb5))
              | (go_at_call 45; go_fit (withBound_q ⟨n, bs⟩ x ⟨n, qs⟩ true (by rw [hqs]; exact Hq.out) (by rw [hqs]; exact Hr.out) A b 0 c _ _ hbl1 (Nat.le_refl _) (hDd.alloc _).r.rd); rintro e w5 ⟨A5, c5, g5, rfl, hr5, own5, hb5⟩; have hD5 := (hDd.alloc _).below hb5; have hz5 : wr.heap.size + 1 ≤ w5.heap.size := (by have := hb5.size; simpa using this); have hX0 : w5.cell? ⟨wr.heap.size, 0, none⟩ = some (.int .i64 0) := ((bcell hb5).1 _ _ (by simp)).trans (by simp [go_sem]); have hX1 : w5.cell? ⟨wr.heap.size, 1, none⟩ = some (.slice none 0 0) := ((bcell hb5).1 _ _ (by simp)).trans (by simp [go_sem]); have hf0 : w5.frozen? ⟨wr.heap.size, 0, none⟩ = false := ((bcell hb5).2 _ _ (by simp)).trans (by simp [go_sem]); have hf1 : w5.frozen? ⟨wr.heap.size, 1, none⟩ = false := ((bcell hb5).2 _ _ (by simp)).trans (by simp [go_sem]); have hS6 := HS.out _ (((bthen (show Below wr.heap.size wr _ by go_grown) hb5).setCell (p := ⟨wr.heap.size, 0, none⟩) (Nat.le_refl _) (.int .i64 n)).setCell (p := ⟨wr.heap.size, 1, none⟩) (Nat.le_refl _) (.slice A5 qs.length c5)); have hS5 := HS.out _ (bthen (show Below wr.heap.size wr _ by go_grown) hb5)))
          all_goals
            first
              | (have hb7 : Below wr.heap.size wr ((w5.setCell ⟨wr.heap.size, 0, none⟩ (.int .i64 n)).setCell ⟨wr.heap.size, 1, none⟩ (.slice A5 qs.length c5)) := ((bthen (show Below wr.heap.size wr _ by go_grown) hb5).setCell (by dsimp only; omega) _).setCell (by dsimp only; omega) _
                 obtain ⟨u0, u1⟩ := two_cells (a := .int .i64 n) (b := .slice A5 qs.length c5) hX0 hX1
                 obtain ⟨g7, hr7⟩ := OwnB.readsA (own_set_low (own_set_low own5 (p := ⟨wr.heap.size, 0, none⟩) (by simp) (.int .i64 n)) (p := ⟨wr.heap.size, 1, none⟩) (by simp) (.slice A5 qs.length c5))
                 have hXl : wr.heap.size < ((w5.setCell ⟨wr.heap.size, 0, none⟩ (.int .i64 n)).setCell ⟨wr.heap.size, 1, none⟩ (.slice A5 qs.length c5)).heap.size := by simp; omega
                 generalize (w5.setCell ⟨wr.heap.size, 0, none⟩ (.int .i64 n)).setCell ⟨wr.heap.size, 1, none⟩ (.slice A5 qs.length c5) = W7 at hb7 u0 u1 hr7 hXl ⊢
                 have hD7 := hD.below hb7
                 clear hX0 hX1 hf0 hf1
                 generalize wr.heap.size = X7 at u0 u1 hXl ⊢)
              | (have hb7 : Below wr.heap.size wr (w5.alloc (.cells #[.int .i64 n, .slice A5 qs.length c5] 32)) := bthen (bthen (show Below wr.heap.size wr _ by go_grown) hb5) (by go_grown)
                 have u0 : (w5.alloc (.cells #[.int .i64 n, .slice A5 qs.length c5] 32)).cell? ⟨w5.heap.size, 0, none⟩ = some (.int .i64 n) := by simp [go_sem]
                 have u1 : (w5.alloc (.cells #[.int .i64 n, .slice A5 qs.length c5] 32)).cell? ⟨w5.heap.size, 1, none⟩ = some (.slice A5 qs.length c5) := by simp [go_sem]
                 obtain ⟨g7, hr7⟩ : ∃ g7, BdsR (w5.alloc (.cells #[.int .i64 n, .slice A5 qs.length c5] 32)) (w5.alloc (.cells #[.int .i64 n, .slice A5 qs.length c5] 32)).heap.size g7 0 A5 qs := ⟨g5, (hr5.below (show Below w5.heap.size w5 (w5.alloc (.cells #[.int .i64 n, .slice A5 qs.length c5] 32)) by go_grown)).more (show w5.heap.size ≤ (w5.alloc (.cells #[.int .i64 n, .slice A5 qs.length c5] 32)).heap.size by simp)⟩
                 have hXl : w5.heap.size < (w5.alloc (.cells #[.int .i64 n, .slice A5 qs.length c5] 32)).heap.size := by simp
                 generalize w5.alloc (.cells #[.int .i64 n, .slice A5 qs.length c5] 32) = W7 at hb7 u0 u1 hr7 hXl ⊢
                 have hD7 := hD.below hb7
                 generalize w5.heap.size = X7 at u0 u1 hXl ⊢)
            clear hS5 hb7 hr5 own5 hb5 hD5 hz5 HS hDd hb3x hb2x d0 d1 d2 dx hcell x0 x1 x2 hrl
            have d2 := hD7.r.c2
            have dx := hD7.r.ex
            have hDd := hD7.drew
            have hrd7 : BdsR W7.drew W7.drew.heap.size g7 0 A5 qs := hr7.below (show Below W7.heap.size W7 W7.drew by go_grown)
            have hwsum : IntKind.i64.wrap ((sm : Int) + (fk : Int)) = ((sm + fk : Nat) : Int) := by rw [← Int.natCast_add]; exact IntWalk.i64_in _ (by omega)
            have hnext : Hid (sumN F (k + 1) = sm + fk) := by unfold Hid; simp only [sumN]; rw [Hsm.out, Hfk.out]
            go_upto_region 21 with fail
            go_region_held3 (fun w' => w'.cell? ⟨X7, 0, none⟩ = some (.int .i64 n) ∧ w'.cell? ⟨X7, 1, none⟩ = some (.slice A5 qs.length c5) ∧ w'.cell? ⟨D, 2, none⟩ = some (.slice (some ⟨b2, 0, none⟩) cs.length c2))
              (first
                | exact hS8
                | (go_split_ands; (repeat' apply And.intro) <;> assumption)
                | (go_keep; done))
              ((go_at_call 42; have hcall := countWays_c n qs (cs.take m) A5 _ g7 0 c5 b2 0 c2 _ W7.drew hql (by rw [htk.out]; omega) (fun l hl => H3.out l (List.mem_of_mem_take hl)) (Nat.le_refl _) hrd7 (hDd.r.rc.take m); rw [htk.out, Hcw2.out] at hcall; refine hcall.mono ?_; clear hcall; rintro e w8 ⟨rfl, hb8⟩; have hD8 := hDd.below hb8; have hS8 : w8.cell? ⟨X7, 0, none⟩ = some (.int .i64 n) ∧ w8.cell? ⟨X7, 1, none⟩ = some (.slice A5 qs.length c5) ∧ w8.cell? ⟨D, 2, none⟩ = some (.slice (some ⟨b2, 0, none⟩) cs.length c2) := ⟨((bcell hb8).1 _ _ hXl).trans u0, ((bcell hb8).1 _ _ hXl).trans u1, hD8.r.c2⟩))
            all_goals
              go_wp2_with fail
              go_roundg (l.length - (k + 1))
              case measure => go_light; omega
              case rel => go_light; exact ⟨k + 1, by omega, rfl, by rw [hnext.out, Int.natCast_add], by go_num, hD8⟩
        · obtain rfl : k = l.length := by omega
          have hfin : cw = (sm : Int) := by rw [Hcnt.out, hsm]
          subst hfin
          go_wp2_with fail
          go_ret
          exact ⟨rfl, hD.bel⟩
end Go.Proofs.Ytledgblepdjjlaa
