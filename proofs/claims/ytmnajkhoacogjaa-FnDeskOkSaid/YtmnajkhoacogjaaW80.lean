/-
  The law of DeskOk: its draw and its walk.
-/
import Derived.Test.YtmnajkhoacogjaaD81
import Derived.Test.YtmnajkhoacogjaaL90
import Derived.Test.YtmnajkhoacogjaaW0
namespace Go.Proofs.Ytmnajkhoacogjaa
set_option linter.unusedVariables false
set_option linter.unusedSimpArgs false
open Go Go.RowKit Pp

namespace Pp
/-- A drawn desk. -/
def DeskV (w w' : World) (v : Value) : Prop := ∃ A c A2 c2, ∃ d : Dk, v = .agg #[.int .i64 d.now.n, .slice A d.now.bs.length c, .slice A2 d.past.length c2] ∧ DkS d ∧ d.past.length ≤ 8 ∧ OwnB w.heap.size w' (.slice A d.now.bs.length c) d.now.bs ∧ OwnPs w.heap.size w' (.slice A2 d.past.length c2) d.past
end Pp
set_option maxHeartbeats 4000000 in
set_option maxRecDepth 100000 in
theorem drawDeskOk_c (A0 : Option Addr) (n0 c0 : Nat) (zs : List Int) (w : World) (hn0 : n0 ≤ 1048576) (hc0 : n0 ≤ c0) (hA0 : n0 = 0 ∨ A0.isSome = true) (hb0 : BytesAt w w.heap.size A0 n0 zs) :
    Calls Try.prog 4 #[.slice A0 n0 c0] w fun e w' => ∃ v, e = .returned v ∧ DeskV w w' v ∧ Below w.heap.size w w' := by
  have hZ : ZD w (w.alloc (.cells #[.int .i64 0, .slice none 0 0, .slice none 0 0] 28)) w.heap.size := zd_at rfl (Nat.le_refl _)
  have hal : Below w.heap.size w (w.alloc (.cells #[.int .i64 0, .slice none 0 0, .slice none 0 0] 28)) := by go_grown
  have hs : (w.alloc (.cells #[.int .i64 0, .slice none 0 0, .slice none 0 0] 28)).heap.size = w.heap.size + 1 := by simp
  have hb : BytesAt _ (w.alloc (.cells #[.int .i64 0, .slice none 0 0, .slice none 0 0] 28)).heap.size A0 n0 zs := hb0.below hal (by rw [hs]; omega)
  clear hb0
  go_enter Try.func4, Try.ntmps4
  go_upto_region 1 with fail
  generalize w.alloc (.cells #[.int .i64 0, .slice none 0 0, .slice none 0 0] 28) = W at hZ hal hs hb ⊢
  have Hs := hide hs
  clear hs
  have hYl := hZ.ex
  go_wp2_with (first
    | (go_at_call 9; go_fit (open_c A0 n0 c0 zs _ hn0 hc0 hA0 hb); rintro e w1 ⟨rfl, hR1, hb1, hs1⟩; have Hs1 := hide hs1; clear hs1)
    | (go_at_call 8; refine (desk_c W.heap.size 0 2 _ (by omega) (by omega) hR1).mono ?_; rintro e w2 ⟨v, rfl, ⟨A, c, A2, c2, d, rfl, hDS, h8, own2, ops2, hR2, hG2⟩⟩; have hY2 := (hZ.below hb1).grown hG2 (fun k e => by injection e with e; omega); have z0 := hY2.z0; have z1 := hY2.z1; have z2 := hY2.z2; have zf0 := hY2.zf 0; have zf1 := hY2.zf 1; have zf2 := hY2.zf 2))
  obtain ⟨⟨n, bs⟩, ps⟩ := d
  dsimp only at own2 ops2 z0 ⊢
  have hsz := hb1.size
  have hlow : w.heap.size < w1.heap.size := by omega
  obtain ⟨r0, r1, r2⟩ := three_cellsD (a := .int .i64 n) (b := .slice A bs.length c) (d := .slice A2 ps.length c2) z0 z1 z2
  have own9 := ((own2.setLow hlow 0 (.int .i64 n)).setLow hlow 1 (.slice A bs.length c)).setLow hlow 2 (.slice A2 ps.length c2)
  have ops9 := ((ops2.setLow hlow 0 (.int .i64 n)).setLow hlow 1 (.slice A bs.length c)).setLow hlow 2 (.slice A2 ps.length c2)
  have hbb := (bthen hal hb1).grown hG2 (bthen hal hb1).size (fun k hk => by injection hk with hk; have := hal.size; omega)
  have hb9 := ((hbb.setCell (p := ⟨w.heap.size, 0, none⟩) (Nat.le_refl _) (.int .i64 n)).setCell (p := ⟨w.heap.size, 1, none⟩) (Nat.le_refl _) (.slice A bs.length c)).setCell (p := ⟨w.heap.size, 2, none⟩) (Nat.le_refl _) (.slice A2 ps.length c2)
  refine bodyPost_ret (v := .agg #[.int .i64 n, .slice A bs.length c, .slice A2 ps.length c2]) (by simp [results, Try.results4, go_sem, r0, r1, r2]) rfl ?_
  exact ⟨_, rfl, ⟨A, c, A2, c2, ⟨⟨n, bs⟩, ps⟩, rfl, hDS, h8, own_less own9 (by omega), ops9.less (by omega)⟩, hb9⟩
set_option maxHeartbeats 4000000 in
set_option maxRecDepth 100000 in
theorem lawDeskOk_c (a0 : Option Addr) (len0 cap0 : Nat) (z0 : List Int) (w : World) (w0 : RowU w a0 len0 cap0 z0) :
    Calls Try.prog 3 #[.slice a0 len0 cap0] w fun e w' => e = .returned (.bool true) ∧ Below w.heap.size w w' := by
  obtain ⟨hlc, hAs, hby⟩ := w0.bytes
  clear w0
  by_cases hlen : (1048576 : Int) < (len0 : Int)
  · go_enter Try.func3, Try.ntmps3
    go_wp2_with fail
    go_ret
    exact ⟨rfl, Below.refl _ _⟩
  · go_enter Try.func3, Try.ntmps3
    go_upto_region 4 with (go_at_call 4; refine (drawDeskOk_c a0 len0 cap0 z0 _ (by omega) hlc hAs hby).mono ?_; rintro e w1 ⟨v, rfl, ⟨A, c, A2, c2, d, rfl, hDS, h8, own1, ops1⟩, hW⟩)
    clear hlen hby hAs hlc
    obtain ⟨⟨n, bs⟩, ps⟩ := d
    dsimp only at own1 ops1 h8 hDS ⊢
    obtain ⟨-, d2, d3⟩ := hDS
    dsimp only at d2 d3
    have Hpl : Hid (∀ p ∈ ps, p.bs.length ≤ 2000000) := fun p hp => by have := d3 p hp; omega
    clear d3
    obtain ⟨g1, hr1⟩ := OwnB.readsA own1
    obtain ⟨g2, hr2⟩ := ops1.reads
    have hD := dkb_new (t := 28) (n := n) (c := c) (c2 := c2) hW hr1 hr2
    clear own1 ops1 hr1 hr2 hW
    generalize w1.alloc (.cells #[.int .i64 n, .slice A bs.length c, .slice A2 ps.length c2] 28) = W at hD ⊢
    generalize w1.heap.size = X at hD ⊢
    obtain ⟨r, hr⟩ : ∃ r, deskOk ⟨⟨n, bs⟩, ps⟩ = r := ⟨_, rfl⟩
    have Hr := hide hr
    have hz : deskOk ⟨⟨0, []⟩, []⟩ = false := by decide
    have Hz := hide hz
    have h1 : r = true → deskOk ⟨⟨n, bs⟩, []⟩ = true := fun h => by
      rw [h] at hr
      rw [deskOk_iff] at hr ⊢
      exact ⟨fun p hp => by simp at hp, hr.2.1, by simp⟩
    have H1 := hide h1
    clear hr hz h1
    have p0 := hD.c0
    have p1 := hD.c1
    have p2 := hD.c2
    go_upto_region 5 with (go_at_call 5; go_fit (deskOk_c n bs ps A A2 g1 0 c g2 0 c2 _ _ (show bs.length ≤ 2000000 by omega) (show ps.length ≤ 2000000 by omega) Hpl.out (Nat.le_refl _) hD.rd hD.rp); rintro e w2 ⟨rfl, hb⟩; rw [Hr.out]; replace hD := hD.below hb)
    clear p0 p1 p2 hb
    have p0 := hD.c0
    have p1 := hD.c1
    have p2 := hD.c2
    go_upto_region 7 with (go_at_call 6; go_fit (sDeskOk_c n bs ps A A2 g1 0 c g2 0 c2 _ _ (show bs.length ≤ 2000000 by omega) (show ps.length ≤ 2000000 by omega) Hpl.out (Nat.le_refl _) hD.rd hD.rp); rintro e w3 ⟨rfl, hb⟩; rw [Hr.out]; replace hD := hD.below hb)
    clear p0 p1 p2 hb
    have p0 := hD.c0
    have p1 := hD.c1
    have p2 := hD.c2
    cases r
    · go_wp2_with (first
        | (go_at_call 5; go_fit (deskOk_c 0 [] [] none none 0 0 0 0 0 0 _ _ (by decide) (by decide) (fun p hp => by simp at hp) (Nat.le_refl _) (BdsR.nil _ _ _) (PlsR.nil _ _ _)); rintro e w4 ⟨rfl, hb4⟩; rw [Hz.out]; replace hD := hD.below hb4)
        | (go_at_call 7; refine (alive_c _).mono ?_; rintro e w5 ⟨rfl, hb5⟩; replace hD := hD.below hb5))
      go_ret
      exact ⟨rfl, hD.bel⟩
    · have H2 := hide (H1.out rfl)
      clear H1
      go_wp2_with (first
        | (go_at_call 5; go_fit (deskOk_c n bs [] A none g1 0 c 0 0 0 _ _ (show bs.length ≤ 2000000 by omega) (by decide) (fun p hp => by simp at hp) (Nat.le_refl _) hD.rd (PlsR.nil _ _ _)); rintro e w4 ⟨rfl, hb4⟩; rw [H2.out]; replace hD := hD.below hb4)
        | (go_at_call 5; go_fit (deskOk_c 0 [] [] none none 0 0 0 0 0 0 _ _ (by decide) (by decide) (fun p hp => by simp at hp) (Nat.le_refl _) (BdsR.nil _ _ _) (PlsR.nil _ _ _)); rintro e w4 ⟨rfl, hb4⟩; rw [Hz.out]; replace hD := hD.below hb4)
        | (go_at_call 7; refine (alive_c _).mono ?_; rintro e w5 ⟨rfl, hb5⟩; replace hD := hD.below hb5))
      go_ret
      exact ⟨rfl, hD.bel⟩
end Go.Proofs.Ytmnajkhoacogjaa
