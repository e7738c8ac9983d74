/-
  The law of IdleOf: its walk.
-/
import Derived.Test.YtmgikoaeomieeaaD64
import Derived.Test.YtmgikoaeomieeaaL69
import Derived.Test.YtmgikoaeomieeaaL73
import Derived.Test.YtmgikoaeomieeaaS78
import Derived.Test.YtmgikoaeomieeaaW0
namespace Go.Proofs.Ytmgikoaeomieeaa
set_option linter.unusedVariables false
set_option linter.unusedSimpArgs false
open Go.RowKit Pp

def upTo (k : Nat) : List Int := (List.range k).map (fun (i : Nat) => (i : Int))
theorem upTo_len (k : Nat) : (upTo k).length = k := by simp [upTo]
theorem upTo_succ (k : Nat) : upTo (k + 1) = upTo k ++ [(k : Int)] := by simp [upTo, List.range_succ]
theorem idle_facts {L F xs : List Int} {h : Int} (hb : beginsOk L F h xs = true) (hx : xs.length ≤ 10) :
    ∃ b, beginsBy L F 1 (upTo L.length) = b ∧ orderFits L F 1 (upTo L.length) = true ∧ b.length = L.length ∧ 0 ≤ idleV L F h xs ∧ idleV L F 1 b = 0 := by
  obtain ⟨hp, hlen, hbv, hh, hbi⟩ := beginsOk_iff.1 hb
  have ho : IsOrder L.length (upTo L.length) := range_order L.length
  have hb1 := by_ok (h := 1) hp (by omega) ho
  refine ⟨_, rfl, orderFits_iff.2 ⟨hp, by omega, ho⟩, (beginsOk_iff.1 hb1).2.1, ?_, ?_⟩
  · unfold idleV; rw [if_pos hb]; have := work_le hb; omega
  · unfold idleV; rw [if_pos hb1, by_one hp ho]; omega

set_option maxHeartbeats 4000000 in
set_option maxRecDepth 100000 in
theorem lawIdle_c (a0 : Option Addr) (len0 cap0 : Nat) (z0 : List Int) (w : World) (w0 : RowU w a0 len0 cap0 z0) :
    Calls Try.prog 9 #[.slice a0 len0 cap0] w fun e w' => e = .returned (.bool true) ∧ Below w.heap.size w w' := by
  obtain ⟨hlc, hAs, hby⟩ := w0.bytes
  obtain ⟨i0, hi0, hz0, hz1, hz2⟩ := info_parts infoI
  clear w0
  by_cases hlen : (1048576 : Int) < (len0 : Int)
  · go_enter Try.func9, Try.ntmps9
    go_wp2_with fail
    go_ret
    exact ⟨rfl, Below.refl _ _⟩
  · go_enter Try.func9, Try.ntmps9
    go_upto_region 4 with (go_at_call 39; go_fit (drawIdle_c a0 len0 cap0 z0 _ (by omega) hlc hAs hby); rintro e w1 ⟨A1, c1, L, A2, c2, F, h, A3, c3, xs, rfl, hL7, hF7, hh, hx10, ⟨b1, i1⟩, ⟨b2, i2⟩, ⟨b3, i3⟩, hW⟩)
    have hD := pj_law (cl := c1) (cf := c2) (t := 25) hW i1 i2
    have hX := (i3.below (show Below w1.heap.size w1 (w1.alloc (.cells #[.slice A1 L.length c1, .slice A2 F.length c2] 25)) by go_grown)).more (show w1.heap.size ≤ (w1.alloc (.cells #[.slice A1 L.length c1, .slice A2 F.length c2] 25)).heap.size by simp)
    generalize w1.alloc (.cells #[.slice A1 L.length c1, .slice A2 F.length c2] 25) = wa at hD hX ⊢
    generalize w1.heap.size = D at hD ⊢
    clear hW i1 i2 i3 hlen hby hAs
    have hll : L.length ≤ 2000000 := by omega
    have hlf : F.length ≤ 2000000 := by omega
    have hlx : xs.length ≤ 2000000 := by omega
    have p0 := hD.c0
    have p1 := hD.c1
    obtain ⟨R, hR⟩ : ∃ R, idleV L F h xs = R := ⟨_, rfl⟩
    have HR := hide hR
    go_upto_region 7 with (first
      | (go_at_call 40; go_fit (idleOf_c L F xs h A1 A2 A3 b1 0 c1 b2 0 c2 b3 0 c3 _ _ hll hlf hlx (Nat.le_refl _) hD.rl hD.rf hX); rintro e w2 ⟨rfl, hb2⟩; rw [HR.out]; have hD2 := hD.below hb2; have hX2 := (hX.below hb2).more hb2.size; have q0 := hD2.c0; have q1 := hD2.c1)
      | (go_at_call 41; go_fit (sIdleOf_c L F xs h A1 A2 A3 b1 0 c1 b2 0 c2 b3 0 c3 _ _ hll hlf hlx (Nat.le_refl _) hD2.rl hD2.rf hX2); rintro e w3 ⟨rfl, hb3⟩; rw [HR.out]; have hD3 := hD2.below hb3; have hX3 := (hX2.below hb3).more hb3.size))
    clear p0 p1 q0 q1 hb2 hb3 hD hD2 hX hX2 HR
    have p0 := hD3.c0
    have p1 := hD3.c1
    cases hbo : beginsOk L F h xs
    · have hn : idleV L F h xs = -1 := by unfold idleV; rw [hbo]; rfl
      rw [hR] at hn
      subst hn
      have Hbo := hide hbo
      clear hbo hR
      go_wp2_with (first
        | (go_at_call 33; go_fit (beginsOk_c L F xs h A1 A2 A3 b1 0 c1 b2 0 c2 b3 0 c3 _ _ hll hlf hlx (Nat.le_refl _) hD3.rl hD3.rf hX3); rintro e w4 ⟨rfl, hb4⟩; rw [Hbo.out]; have hD4 := hD3.below hb4)
        | (go_at_call 14; go_fit (alive_c _); rintro e w6 ⟨rfl, hb6⟩; have hD6 := hD4.below hb6))
      go_ret
      exact ⟨rfl, hD6.bel⟩
    · obtain ⟨bg, hbg, hof, hbl, hR0, hI⟩ := idle_facts hbo hx10
      rw [hR] at hR0
      have Hbg := hide hbg
      have Hof := hide hof
      have Hbl := hide hbl
      have HI := hide hI
      have hbl2 : bg.length ≤ 2000000 := by omega
      have hRm : (R == -1) = false := by rw [beq_eq_false_iff_ne]; omega
      clear hbg hof hbl hI hbo hR hX3
      go_upto_block 0 with fail
      go_cut [7] (fun s wx => ∃ A7 c7 b7, s = .slice A7 L.length c7 ∧ L.length ≤ c7 ∧ IntsR wx wx.heap.size b7 0 A7 (upTo L.length) ∧ PJ w wx D b1 0 A1 c1 L b2 0 A2 c2 F)
      case first =>
        go_wp2_with fail
        go_loopg [7, 8] L.length (fun gh s i wr => ∃ (k : Nat) (A7 : Option Addr) (c7 : Nat), k ≤ L.length ∧ gh = L.length - k ∧ i = .int .i64 k ∧ s = .slice A7 k c7 ∧ OwnI w3.heap.size wr (.slice A7 k c7) (upTo k) ∧ Below w3.heap.size w3 wr)
        case atStart => exact ⟨0, _, _, Nat.zero_le _, rfl, rfl, rfl, own_empty (at_new rfl) (Nat.le_refl _), by go_grown⟩
        case round =>
          clear p0 p1
          obtain ⟨k, A7, c7, hk, rfl, rfl, rfl, hO, hW⟩ := hrel
          have hD := hD3.below hW
          have p0 := hD.c0
          by_cases hlt : k < L.length
          · have hlt' : (k : Int) < (L.length : Int) := by omega
            have hOa : (wr.alloc (.cells #[.int .i64 (k : Int)] 3)).ownsRow w3.heap.size 3 1 (.slice A7 k c7) k ((upTo k).map (Value.int .i64)) := by have := hO.alloc (.cells #[.int .i64 (k : Int)] 3); unfold OwnI at this; rw [upTo_len] at this; exact this
            have hWa := hW.trans ((show Below wr.heap.size wr (wr.alloc (.cells #[.int .i64 (k : Int)] 3)) by go_grown).mono hW.size)
            have hsa := hWa.size
            go_upto_region 12 with (at_builtin; refine app_list _ rfl (.tmp 48) (.tmp 50) _ rfl w3.heap.size 3 i0 _ 1 8 Try.underlying23 hi0 hz0 hz1 hz2 rfl (by omega) (.slice A7 k c7) k ((upTo k).map (Value.int .i64)) rfl hOa _ 1 _ [.int .i64 (k : Int)] rfl rfl (NewsAt.block (cs := #[.int .i64 (k : Int)]) (at_new rfl)) (by simp [Value.oneCell']) (by omega) (by omega) hsa ?_; intro A9 c9 w9 hown9 hg9 hat9)
            have hO9 : OwnI w3.heap.size w9 (.slice A9 (k + 1) c9) (upTo (k + 1)) := by unfold OwnI; rw [upTo_len, upTo_succ, List.map_append]; exact hown9
            have hW9 : Below w3.heap.size w3 w9 := below_app hWa hOa hg9 (Nat.le_refl _) hsa
            clear hown9 hg9 hat9 hOa hWa hsa hO hW hD p0
            go_wp2_with fail
            go_roundg (L.length - (k + 1))
            case measure => go_light; omega
            case rel => go_light; exact ⟨k + 1, A9, c9, by omega, rfl, by go_num, rfl, hO9, hW9⟩
          · obtain rfl : k = L.length := by omega
            have hO' : OwnI w3.heap.size wr (.slice A7 (upTo L.length).length c7) (upTo L.length) := by rw [upTo_len]; exact hO
            obtain ⟨b7, i7⟩ := own_IntsR hO'
            have hcap : L.length ≤ c7 := by
              by_cases h0 : 0 < (upTo L.length).length
              · have := (own_takeI hO' h0 (Nat.le_refl _)).2
                rw [upTo_len] at this
                exact this
              · rw [upTo_len] at h0; omega
            go_wp2_with fail
            go_meet
            case rel => exact ⟨A7, c7, b7, rfl, hcap, i7, hD⟩
      case rest =>
        clear hD3 p0 p1
        obtain ⟨A7, c7, b7, rfl, hc7, i7, hD3⟩ := hcut
        have p0 := hD3.c0
        have p1 := hD3.c1
        go_upto_region 15 with (go_at_call 29; have hcall := beginsBy_yes L F (upTo L.length) 1 Hof.out A1 A2 A7 b1 0 c1 b2 0 c2 b7 0 c7 _ wc (by rw [upTo_len]; exact hc7) (Nat.le_refl _) hD3.rl hD3.rf i7; rw [upTo_len, Hbg.out] at hcall; refine hcall.mono ?_; clear hcall; rintro e w4 ⟨g, rfl, hg, hrow, hb4⟩; have hr4 := row_ints hrow Hbl.out; have hD4 := hD3.below hb4)
        clear p0 p1 hD3 hb4 i7 hrow
        have p0 := hD4.c0
        have p1 := hD4.c1
        go_wp2_with (go_at_call 40; have hcall := idleOf_c L F bg 1 A1 A2 (some ⟨g, 0, none⟩) b1 0 c1 b2 0 c2 g 0 L.length _ w4 hll hlf hbl2 (Nat.le_refl _) hD4.rl hD4.rf hr4; rw [Hbl.out, HI.out] at hcall; refine hcall.mono ?_; clear hcall; rintro e w5 ⟨rfl, hb5⟩; have hD5 := hD4.below hb5)
        go_ret
        exact ⟨rfl, hD5.bel⟩
end Go.Proofs.Ytmgikoaeomieeaa
