/-
  The draws of the reference: DrawKeepsCase.
-/
import Derived.Test.YtledgblepdjjlaaD55
import Derived.Test.YtledgblepdjjlaaS53
import Derived.Test.YtledgblepdjjlaaS60
import Derived.Test.YtledgblepdjjlaaP26
import Derived.Test.YtledgblepdjjlaaP28
namespace Go.Proofs.Ytledgblepdjjlaa
set_option linter.unusedVariables false
set_option linter.unusedSimpArgs false
open Go.RowKit Pp

theorem own_bds_lo {w : World} {base c : Nat} {A : Option Addr} {bs : List Bd} (h : OwnB base w (.slice A bs.length c) bs) : ∃ g, BdsR w w.heap.size g 0 A bs ∧ (0 < bs.length → base ≤ g) := by
  obtain ⟨g, hg⟩ := OwnB.readsA h
  refine ⟨g, hg, fun h0 => ?_⟩
  have e := hg.addr h0
  have e2 : (Value.slice A bs.length c).ownBlock = some g := by rw [e]; simp [Value.ownBlock]
  exact (h.lt g e2).1
theorem gr_of_below {w w' : World} {row : Option Nat} (h : Below w.heap.size w w') : w.grownBy w' row := ⟨h.os, h.tape, h.output, h.size, fun k hk _ => h.block k hk⟩
theorem IntsR.far {w w' : World} {B b o g : Nat} {A : Option Addr} {xs : List Int} (h : IntsR w B b o A xs) (G : w.grownBy w' (some g)) (hb : 0 < xs.length → b ≠ g) : IntsR w' B b o A xs :=
  ⟨h.addr, h.lt, fun j hj => far_cell G (h.cell j hj) (hb (by omega))⟩

set_option maxHeartbeats 4000000 in
set_option maxRecDepth 100000 in
theorem drawKeeps_c (A0 : Option Addr) (n0 c0 : Nat) (zs : List Int) (w : World) (hn0 : n0 ≤ 1048576) (hc0 : n0 ≤ c0) (hA0 : n0 = 0 ∨ A0.isSome = true) (hb0 : BytesAt w w.heap.size A0 n0 zs) :
    Calls Try.prog 51 #[.slice A0 n0 c0] w fun e w' =>
      ∃ n A c bs A2 c2 cs A3 c3 ks b b2 b3, e = .returned (.tuple #[.agg #[.int .i64 n, .slice A bs.length c, .slice A2 cs.length c2], .slice A3 ks.length c3]) ∧ (0 ≤ n ∧ n ≤ 7) ∧ bs.length ≤ 8 ∧ cs.length ≤ 4 ∧ Hid (∀ l ∈ cs, l.length ≤ 3) ∧ cs.length ≤ c2 ∧ ks.length ≤ 8 ∧ BdsR w' w'.heap.size b 0 A bs ∧ ChR w' w'.heap.size b2 0 A2 cs ∧ IntsR w' w'.heap.size b3 0 A3 ks ∧ Below w.heap.size w w' := by
  obtain ⟨i0, hi0, hz0, hz1, hz2⟩ := info_parts infoI
  go_enter Try.func51, Try.ntmps51
  go_upto_region 3 with (first
    | (go_at_call 79; go_fit (open_c A0 n0 c0 zs _ hn0 hc0 hA0 (hb0.below (show Below w.heap.size w _ by go_grown) (by simp))); rintro e w1 ⟨rfl, hR1, hb1, hs1⟩; simp only [World.size_alloc] at hR1 hs1)
    | (go_at_call 87; go_fit (case_c _ 0 14 _ (by omega) (by omega) hR1); rintro e w2 ⟨n, A, c, bs, A2, c2, cs, rfl, hn, hlb, hsm, hlc, HL, hoB, hoC, hcp, hR2, G2⟩))
  have hRD := hR2.alloc (.cells #[.int .i64 n, .slice A bs.length c, .slice A2 cs.length c2] 37)
  have hGD := gr_alloc G2 (.cells #[.int .i64 n, .slice A bs.length c, .slice A2 cs.length c2] 37)
  have hoBD := hoB.alloc (.cells #[.int .i64 n, .slice A bs.length c, .slice A2 cs.length c2] 37)
  have hoCD := hoC.below (show Below w2.heap.size w2 (w2.alloc (.cells #[.int .i64 n, .slice A bs.length c, .slice A2 cs.length c2] 37)) by go_grown)
  have d0 : (w2.alloc (.cells #[.int .i64 n, .slice A bs.length c, .slice A2 cs.length c2] 37)).cell? ⟨w2.heap.size, 0, none⟩ = some (.int .i64 n) := by simp [go_sem]
  have d1 : (w2.alloc (.cells #[.int .i64 n, .slice A bs.length c, .slice A2 cs.length c2] 37)).cell? ⟨w2.heap.size, 1, none⟩ = some (.slice A bs.length c) := by simp [go_sem]
  have d2 : (w2.alloc (.cells #[.int .i64 n, .slice A bs.length c, .slice A2 cs.length c2] 37)).cell? ⟨w2.heap.size, 2, none⟩ = some (.slice A2 cs.length c2) := by simp [go_sem]
  have dx : w2.heap.size < (w2.alloc (.cells #[.int .i64 n, .slice A bs.length c, .slice A2 cs.length c2] 37)).heap.size := by simp
  have hs2 : w1.heap.size ≤ w2.heap.size := G2.size
  generalize w2.alloc (.cells #[.int .i64 n, .slice A bs.length c, .slice A2 cs.length c2] 37) = wD at hRD hGD hoBD hoCD d0 d1 d2 dx ⊢
  generalize w2.heap.size = D at d0 d1 d2 hs2 dx ⊢
  clear hR2 G2 hoB hoC hR1 hb0
  have hZD : w.heap.size ≠ D := by omega
  obtain ⟨bb, hrd, hbl⟩ := own_bds_lo hoBD
  obtain ⟨bc, hrc⟩ := hoCD.reads
  have hlb2 : bs.length ≤ 2000000 := by omega
  have hlc2 : cs.length ≤ 2000000 := by omega
  have H3 : Hid (∀ l ∈ cs, l.length ≤ 2000000) := fun l hl => by have := HL.out l hl; omega
  obtain ⟨q, r, hq⟩ : ∃ q r, firstW ⟨n, bs⟩ cs = (q, r) := ⟨_, _, rfl⟩
  have Hq := hide hq
  go_upto_region 4 with (go_at_call 55; go_fit (sFirstWayL_q n bs cs q r Hq.out A A2 bb 0 c bc 0 c2 _ _ hlb2 hlc2 H3.out (Nat.le_refl _) hrd hrc); rintro e w3 ⟨A4, c4, b4, o4, rfl, hr4, hl4, hb3⟩)
  have hG3 : wD.grownBy w3 (some (w.heap.size + 1)) := gr_of_below hb3
  have hR3 := hRD.below hb3
  have hs3 := hb3.size
  cases r
  · clear hq hr4 hl4 hb3
    have hR4 := hR3
    have hG4 := hG3
    clear hR3 hG3
    have hRx := hR4.drew
    have hGx := grown_drew hG4
    have hbg : 0 < bs.length → bb ≠ w.heap.size + 1 := fun h0 => by have := hbl h0; omega
    have hrdx := (hrd.far hGx hbg).more hGx.size
    have e0 := far_cell hGx (x := .int .i64 n) d0 (by omega)
    have e1 := far_cell hGx (x := .slice A bs.length c) d1 (by omega)
    have e2 := far_cell hGx (x := .slice A2 cs.length c2) d2 (by omega)
    have hsx := hGx.size
    go_upto_region 7 with fail
    go_region_held3 (fun w' => w'.cell? ⟨D, 0, none⟩ = some (.int .i64 n) ∧ w'.cell? ⟨D, 1, none⟩ = some (.slice A bs.length c) ∧ w'.cell? ⟨D, 2, none⟩ = some (.slice A2 cs.length c2))
      (first
        | exact ⟨e0, e1, e2⟩
        | exact ⟨f0, f1, f2⟩
        | exact ⟨far3 f0 hZD, far3 f1 hZD, far3 f2 hZD⟩
        | (go_split_ands; (repeat' apply And.intro) <;> assumption)
        | (go_keep; done))
      ((go_at_call 103; go_fit (times_c (w.heap.size + 1) (0 + 300) n bs A bb 0 c _ (by omega) hn hlb2 hRx hrdx hbg); rintro e w9 ⟨A9, c9, xs, rfl, hxl, own9, hR9, G9⟩; have hG9 := gr_pick hGx G9; obtain ⟨⟨_, a0⟩, ⟨_, a1⟩, ⟨_, a2⟩, af, r0, r1, r2, hW, hS⟩ := box3 (x := .int .i64 n) (y := .slice A bs.length c) (z := .slice A2 cs.length c2) hb1 rfl hs1 (gr_pick hGD hG9) _ rfl; have af0 := af 0; have af1 := af 1; have af2 := af 2; have f0 := far_cell hG9 (x := .int .i64 n) d0 (by omega); have f1 := far_cell hG9 (x := .slice A bs.length c) d1 (by omega); have f2 := far_cell hG9 (x := .slice A2 cs.length c2) d2 (by omega); have hoB5 := own_far hoBD hG9 (by omega); have hoC5 := hoCD.far hG9 (by omega); have hoI := own_less own9 (show w1.heap.size ≤ _ by omega)))
    all_goals
      go_wp2_with fail
      refine bodyPost_ret (v := .tuple #[.agg #[.int .i64 n, .slice A bs.length c, .slice A2 cs.length c2], .slice A9 xs.length c9]) (by simp [results, Try.results51, go_sem, r0, r1, r2]) rfl ?_
      obtain ⟨b, hb⟩ := OwnB.readsA (own_set_low (own_set_low (own_set_low hoB5 (p := ⟨w.heap.size, 0, none⟩) (by dsimp only; omega) (.int .i64 n)) (p := ⟨w.heap.size, 1, none⟩) (by dsimp only; omega) (.slice A bs.length c)) (p := ⟨w.heap.size, 2, none⟩) (by dsimp only; omega) (.slice A2 cs.length c2))
      obtain ⟨b2', hb2⟩ := (((hoC5.set_low (p := ⟨w.heap.size, 0, none⟩) (by dsimp only; omega) (.int .i64 n)).set_low (p := ⟨w.heap.size, 1, none⟩) (by dsimp only; omega) (.slice A bs.length c)).set_low (p := ⟨w.heap.size, 2, none⟩) (by dsimp only; omega) (.slice A2 cs.length c2)).reads
      obtain ⟨b3, hb3⟩ := own_IntsR (own_set_low (own_set_low (own_set_low hoI (p := ⟨w.heap.size, 0, none⟩) (by dsimp only; omega) (.int .i64 n)) (p := ⟨w.heap.size, 1, none⟩) (by dsimp only; omega) (.slice A bs.length c)) (p := ⟨w.heap.size, 2, none⟩) (by dsimp only; omega) (.slice A2 cs.length c2))
      exact ⟨n, A, c, bs, A2, c2, cs, A9, c9, xs, b, b2', b3, rfl, hn, hlb, hlc, HL, hcp, by omega, hb, hb2, hb3, hW⟩
  · obtain ⟨hk2, hk3, hcw, hkl, -⟩ := first_law hq
    obtain ⟨hc, hk, -⟩ := wayOf_yes hk2
    have hv := (picksOk_iff.1 hk).2
    obtain ⟨rs, hrs⟩ : ∃ rs, bs ++ picked cs q = rs := ⟨_, rfl⟩
    have hk4 : fits ⟨n, rs⟩ = true := by rw [← hrs]; exact hk3
    have hrl : rs.length ≤ 2000000 := by
      rw [← hrs, List.length_append, picked_length cs q (by omega)]
      omega
    have Hv := hide hv
    have Hrs := hide hrs
    have Hf := hide hk4
    have hkl2 : q.length ≤ cs.length := by omega
    have hq4 : 0 < q.length → b4 ≠ w.heap.size + 1 := fun h0 => by have := hl4 h0; omega
    clear hq hk2 hk3 hcw hc hk hv hrs hk4 hkl hl4
    go_upto_if 24 with (go_at_call 88; go_fit (pick_c (w.heap.size + 1) _ 2 _ (by omega) (by omega) hR3); rintro e w4 ⟨x1, rfl, a1, a2, -, hR4, G4, -⟩; have hG4 := gr_pick hG3 G4; replace hr4 := (hr4.far G4 hq4).more G4.size)
    clear hR3 hG3
    by_cases hx : x1 = 0
    · subst hx
      have hbg : 0 < bs.length → bb ≠ w.heap.size + 1 := fun h0 => by have := hbl h0; omega
      have hrd4 := (hrd.far hG4 hbg).more hG4.size
      obtain ⟨bc4, hrc4⟩ := (hoCD.far hG4 (by omega)).reads
      have e0 := far_cell hG4 (x := .int .i64 n) d0 (by omega)
      have e1 := far_cell hG4 (x := .slice A bs.length c) d1 (by omega)
      have e2 := far_cell hG4 (x := .slice A2 cs.length c2) d2 (by omega)
      have hs4 := hG4.size
      clear G4
      go_upto_region 6 with (first
        | (go_at_call 67; go_fit (l7Way_q n bs cs q (by omega) hlc hkl2 H3.out Hv.out rs Hrs.out A A2 A4 bb 0 c bc4 0 c2 b4 o4 c4 _ _ (Nat.le_refl _) hrd4 hrc4 hr4); rintro e w5 ⟨A5, c5, g5, rfl, -, own5, hb5⟩; have hR5 := hR4.below hb5; have hG5 := gr_below hG4 hb5; have hs5 := hb5.size)
        | (go_at_call 88; go_fit (pick_c (w.heap.size + 1) _ 9 _ (by omega) (by omega) hR5); rintro e w6 ⟨v, rfl, v0, v1, -, hR6, G6, -⟩; replace v1 := v1 (by omega); have own6 := own_far own5 G6 (by omega); obtain ⟨g6, hr6⟩ := OwnB.readsA own6; have hG6 := gr_pick hG5 G6; have hs6 := G6.size; have hba : Below w6.heap.size w6 (w6.alloc (.cells #[.int .i64 v] 3)) := (by go_grown); have hr7 := (hr6.below hba).more hba.size; have hI7 : IntsR (w6.alloc (.cells #[.int .i64 v] 3)) (w6.alloc (.cells #[.int .i64 v] 3)).heap.size w6.heap.size 0 (some ⟨w6.heap.size, 0, none⟩) [v] := ⟨fun _ => rfl, fun _ => by simp, fun j hj => by simp at hj; subst hj; simp [go_sem]⟩)
        | (go_at_call 102; go_fit (sEndedOne_q ⟨n, rs⟩ Hf.out v ⟨v0, by omega⟩ (some ⟨w6.heap.size, 0, none⟩) w6.heap.size 0 1 A5 g6 0 c5 _ _ hrl (Nat.le_refl _) hr7 hI7); rintro e w8 ⟨A8, c8, ys, rfl, hyl, own8, hb8⟩))
      have hG8 := gr_below (gr_below hG6 hba) hb8
      have hoI := own_less own8 (show w1.heap.size ≤ _ by simp only [World.size_alloc]; omega)
      obtain ⟨⟨_, a0⟩, ⟨_, a1⟩, ⟨_, a2⟩, af, r0, r1, r2, hW, hS⟩ := box3 (x := .int .i64 n) (y := .slice A bs.length c) (z := .slice A2 cs.length c2) hb1 rfl hs1 (gr_pick hGD hG8) _ rfl; have af0 := af 0; have af1 := af 1; have af2 := af 2; have f0 := far_cell hG8 (x := .int .i64 n) d0 (by omega); have f1 := far_cell hG8 (x := .slice A bs.length c) d1 (by omega); have f2 := far_cell hG8 (x := .slice A2 cs.length c2) d2 (by omega); have hoB5 := own_far hoBD hG8 (by omega); have hoC5 := hoCD.far hG8 (by omega)
      clear e0 e1 e2
      go_wp2_with fail
      refine bodyPost_ret (v := .tuple #[.agg #[.int .i64 n, .slice A bs.length c, .slice A2 cs.length c2], .slice A8 ys.length c8]) (by simp [results, Try.results51, go_sem, r0, r1, r2]) rfl ?_
      obtain ⟨b, hb⟩ := OwnB.readsA (own_set_low (own_set_low (own_set_low hoB5 (p := ⟨w.heap.size, 0, none⟩) (by dsimp only; omega) (.int .i64 n)) (p := ⟨w.heap.size, 1, none⟩) (by dsimp only; omega) (.slice A bs.length c)) (p := ⟨w.heap.size, 2, none⟩) (by dsimp only; omega) (.slice A2 cs.length c2))
      obtain ⟨b2', hb2⟩ := (((hoC5.set_low (p := ⟨w.heap.size, 0, none⟩) (by dsimp only; omega) (.int .i64 n)).set_low (p := ⟨w.heap.size, 1, none⟩) (by dsimp only; omega) (.slice A bs.length c)).set_low (p := ⟨w.heap.size, 2, none⟩) (by dsimp only; omega) (.slice A2 cs.length c2)).reads
      obtain ⟨b3, hb3⟩ := own_IntsR (own_set_low (own_set_low (own_set_low hoI (p := ⟨w.heap.size, 0, none⟩) (by dsimp only; omega) (.int .i64 n)) (p := ⟨w.heap.size, 1, none⟩) (by dsimp only; omega) (.slice A bs.length c)) (p := ⟨w.heap.size, 2, none⟩) (by dsimp only; omega) (.slice A2 cs.length c2))
      exact ⟨n, A, c, bs, A2, c2, cs, A8, c8, ys, b, b2', b3, rfl, hn, hlb, hlc, HL, hcp, by omega, hb, hb2, hb3, hW⟩
    · clear hr4
      have hRx := hR4.drew
      have hGx := grown_drew hG4
      have hbg : 0 < bs.length → bb ≠ w.heap.size + 1 := fun h0 => by have := hbl h0; omega
      have hrdx := (hrd.far hGx hbg).more hGx.size
      have e0 := far_cell hGx (x := .int .i64 n) d0 (by omega)
      have e1 := far_cell hGx (x := .slice A bs.length c) d1 (by omega)
      have e2 := far_cell hGx (x := .slice A2 cs.length c2) d2 (by omega)
      have hsx := hGx.size
      go_upto_region 7 with fail
      go_region_held3 (fun w' => w'.cell? ⟨D, 0, none⟩ = some (.int .i64 n) ∧ w'.cell? ⟨D, 1, none⟩ = some (.slice A bs.length c) ∧ w'.cell? ⟨D, 2, none⟩ = some (.slice A2 cs.length c2))
        (first
          | exact ⟨e0, e1, e2⟩
          | exact ⟨f0, f1, f2⟩
          | exact ⟨far3 f0 hZD, far3 f1 hZD, far3 f2 hZD⟩
          | (go_split_ands; (repeat' apply And.intro) <;> assumption)
          | (go_keep; done))
        ((go_at_call 103; go_fit (times_c (w.heap.size + 1) (0 + 300 + 1) n bs A bb 0 c _ (by omega) hn hlb2 hRx hrdx hbg); rintro e w9 ⟨A9, c9, xs, rfl, hxl, own9, hR9, G9⟩; have hG9 := gr_pick hGx G9; obtain ⟨⟨_, a0⟩, ⟨_, a1⟩, ⟨_, a2⟩, af, r0, r1, r2, hW, hS⟩ := box3 (x := .int .i64 n) (y := .slice A bs.length c) (z := .slice A2 cs.length c2) hb1 rfl hs1 (gr_pick hGD hG9) _ rfl; have af0 := af 0; have af1 := af 1; have af2 := af 2; have f0 := far_cell hG9 (x := .int .i64 n) d0 (by omega); have f1 := far_cell hG9 (x := .slice A bs.length c) d1 (by omega); have f2 := far_cell hG9 (x := .slice A2 cs.length c2) d2 (by omega); have hoB5 := own_far hoBD hG9 (by omega); have hoC5 := hoCD.far hG9 (by omega); have hoI := own_less own9 (show w1.heap.size ≤ _ by omega)))
      all_goals
        go_wp2_with fail
        refine bodyPost_ret (v := .tuple #[.agg #[.int .i64 n, .slice A bs.length c, .slice A2 cs.length c2], .slice A9 xs.length c9]) (by simp [results, Try.results51, go_sem, r0, r1, r2]) rfl ?_
        obtain ⟨b, hb⟩ := OwnB.readsA (own_set_low (own_set_low (own_set_low hoB5 (p := ⟨w.heap.size, 0, none⟩) (by dsimp only; omega) (.int .i64 n)) (p := ⟨w.heap.size, 1, none⟩) (by dsimp only; omega) (.slice A bs.length c)) (p := ⟨w.heap.size, 2, none⟩) (by dsimp only; omega) (.slice A2 cs.length c2))
        obtain ⟨b2', hb2⟩ := (((hoC5.set_low (p := ⟨w.heap.size, 0, none⟩) (by dsimp only; omega) (.int .i64 n)).set_low (p := ⟨w.heap.size, 1, none⟩) (by dsimp only; omega) (.slice A bs.length c)).set_low (p := ⟨w.heap.size, 2, none⟩) (by dsimp only; omega) (.slice A2 cs.length c2)).reads
        obtain ⟨b3, hb3⟩ := own_IntsR (own_set_low (own_set_low (own_set_low hoI (p := ⟨w.heap.size, 0, none⟩) (by dsimp only; omega) (.int .i64 n)) (p := ⟨w.heap.size, 1, none⟩) (by dsimp only; omega) (.slice A bs.length c)) (p := ⟨w.heap.size, 2, none⟩) (by dsimp only; omega) (.slice A2 cs.length c2))
        exact ⟨n, A, c, bs, A2, c2, cs, A9, c9, xs, b, b2', b3, rfl, hn, hlb, hlc, HL, hcp, by omega, hb, hb2, hb3, hW⟩
end Go.Proofs.Ytledgblepdjjlaa
