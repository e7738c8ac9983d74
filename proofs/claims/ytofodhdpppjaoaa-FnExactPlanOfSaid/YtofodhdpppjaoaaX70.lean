/-
  The law of ExactPlanOf: its walk.
-/
import Derived.Test.YtofodhdpppjaoaaE70
import Derived.Test.YtofodhdpppjaoaaS84
namespace Go.Proofs.Ytofodhdpppjaoaa
set_option linter.unusedVariables false
set_option linter.unusedSimpArgs false
open Go Go.RowKit Pp

theorem planOf_len (t : List Mk) : (planOf t).bs.length ≤ 16 := by
  unfold planOf
  split
  · split
    · rename_i a h _ hp
      unfold planOk at hp
      simp only [Bool.and_eq_true, decide_eq_true_eq] at hp
      exact hp.1.2
    · simp
  · simp
set_option maxHeartbeats 8000000 in
set_option maxRecDepth 100000 in
theorem exactPlanOf_c (t : List Mk) (A : Option Addr) (b o c : Nat) (w : World) (hl : t.length ≤ 9223372036854775807) (hA : MkR w w.heap.size b o A t) :
    Calls Try.prog 4 #[.slice A t.length c] w fun e w' => e = .returned (.bool true) ∧ Below w.heap.size w w' := by
  have hW : Below w.heap.size w w := Below.refl _ _
  by_cases hlen : (1048576 : Int) - (t.length : Int) < 0
  · have H : Hid ((if (1048576 : Int) - (t.length : Int) < 0 then (-1 : Int) else 1048576 - (t.length : Int)) = -1) := if_pos hlen
    clear hlen
    go_enter Try.func4, Try.ntmps4
    go_wp2_with (go_at_call 13; go_fit (szMarkS_c 1048576 A t.length c _ (by omega) hl); rintro e w2 ⟨rfl, rfl⟩; rw [H.out])
    go_ret
    exact ⟨rfl, Below.refl _ _⟩
  · obtain ⟨r0, hr⟩ : ∃ r, (1048576 : Int) - (t.length : Int) = r := ⟨_, rfl⟩
    have H : Hid ((if (1048576 : Int) - (t.length : Int) < 0 then (-1 : Int) else 1048576 - (t.length : Int)) = r0) := by rw [if_neg hlen]; exact hr
    have hr0 : ¬ r0 < 0 := by omega
    have hl2 : t.length ≤ 2000000 := by omega
    clear hr hlen
    have hbA : 0 < t.length → b < w.heap.size := hA.lt
    obtain ⟨q, hq⟩ : ∃ q, planOf t = q := ⟨_, rfl⟩
    obtain ⟨r, hrr⟩ : ∃ r, planIs t = r := ⟨_, rfl⟩
    have hqs := planOf_len t
    rw [hq] at hqs
    have Hq := hide hq
    have Hr := hide hrr
    have hql : q.bs.length ≤ 2000000 := by omega
    have hne : (r != r) = false := by simp
    have hws : w.heap.size ≤ w.heap.size := Nat.le_refl _
    clear hq hrr
    go_enter Try.func4, Try.ntmps4
    go_upto_region 5 with (go_at_call 13; go_fit (szMarkS_c 1048576 A t.length c _ (by omega) hl); rintro e w2 ⟨rfl, rfl⟩; rw [H.out])
    go_upto_region 6 with (first
      | (go_at_call 15; go_fit (toMarkS_c A b o c _ t _ hl2 (Nat.le_refl _) hA); rintro e w3 ⟨A1, c1, rfl, hown1, hb3⟩; obtain ⟨g1, hr1⟩ := own_csR hown1; have hc1 := own_cap hown1; replace hW := bthen hW hb3; replace hA := MkR.next hA hb3; (try replace h4 := h4.below hb3); (try replace h6 := h6.below hb3); (try replace own5 := own_below own5 hb3); (try replace own6 := own_below own6 hb3))
      | (go_at_call 14; go_fit (sPlanOf_q t q r Hq.out Hr.out A1 g1 0 c1 _ _ hc1 (Nat.le_refl _) hr1 hl2); rintro e w4 ⟨A2, c2, g2, rfl, hr2, hown2, hb4⟩; replace hW := bthen hW hb4; replace hA := MkR.next hA hb4; (try replace h4 := h4.below hb4); (try replace h6 := h6.below hb4); (try replace own5 := own_below own5 hb4); (try replace own6 := own_below own6 hb4)))
    have h4 := rp_new (n := q.n) (c := c2) (t := 29) hr2
    have hbn : Below w4.heap.size w4 (w4.alloc (.cells #[.int .i64 q.n, .slice A2 q.bs.length c2] 29)) := by go_grown
    replace hW := bthen hW hbn
    replace hA := MkR.next hA hbn
    have hg2 : 0 < q.bs.length → g2 < w4.heap.size := hr2.lt
    have hs4 : w4.heap.size < (w4.alloc (.cells #[.int .i64 q.n, .slice A2 q.bs.length c2] 29)).heap.size := by simp
    have hs3 : w.heap.size ≤ w4.heap.size := Nat.le_trans hb3.size hb4.size
    generalize w4.alloc (.cells #[.int .i64 q.n, .slice A2 q.bs.length c2] 29) = W4 at hA hW h4 hs4 ⊢
    have hX4 : w4.heap.size < W4.heap.size := hs4
    generalize w4.heap.size = X4 at h4 hg2 hX4 hs3 ⊢
    clear hr1 hown1 hr2 hown2 hb3 hb4 hbn hs4 hc1
    go_upto_region 7 with (go_at_call 15; go_fit (toMarkS_c A b o c _ t _ hl2 (Nat.le_refl _) hA); rintro e w5 ⟨A3, c3, rfl, own5, hb5⟩; obtain ⟨g3, hr3⟩ := own_csR own5; have hc3 := own_cap own5; replace hW := bthen hW hb5; replace hA := MkR.next hA hb5; replace h4 := h4.below hb5)
    have hq5 : ∀ k, (Value.slice A3 t.length c3).ownBlock = some k → W4.heap.size ≤ k ∧ k < w5.heap.size := fun k hk => own5.lt k hk
    have hs5 := hb5.size
    go_upto_region 8 with (go_at_call 10; go_fit (planOf_q t q r Hq.out Hr.out A3 g3 0 c3 _ _ (Nat.le_refl _) hr3 hl2); rintro e w6 ⟨A4, c4, g4, rfl, hr4, own6, hb6⟩)
    replace hW := bthen hW hb6
    replace hA := MkR.next hA hb6
    replace h4 := h4.below hb6
    replace own5 := own_below own5 hb6
    have h6 := rp_new (n := q.n) (c := c4) (t := 29) hr4
    have hbn : Below w6.heap.size w6 (w6.alloc (.cells #[.int .i64 q.n, .slice A4 q.bs.length c4] 29)) := by go_grown
    have hq6 : ∀ k, (Value.slice A4 q.bs.length c4).ownBlock = some k → w5.heap.size ≤ k ∧ k < w6.heap.size := fun k hk => own6.lt k hk
    have hg4 : 0 < q.bs.length → w5.heap.size ≤ g4 := fun h => (own_at own6 hr4 h).1
    have hs6 : w6.heap.size < (w6.alloc (.cells #[.int .i64 q.n, .slice A4 q.bs.length c4] 29)).heap.size := by simp
    have hs56 : w5.heap.size ≤ w6.heap.size := hb6.size
    have hr3' := hr3.below hb6
    replace hr3' := hr3'.below (hbn.mono hs56)
    replace hW := bthen hW hbn
    replace hA := MkR.next hA hbn
    replace h4 := h4.below hbn
    replace own6 := own_below own6 hbn
    replace own5 := own_below own5 hbn
    clear hr3
    generalize w6.alloc (.cells #[.int .i64 q.n, .slice A4 q.bs.length c4] 29) = W6 at hA hW h4 h6 own5 own6 hs6 hr3' ⊢
    generalize w6.heap.size = X6 at h6 hq6 hs6 hs56 ⊢
    clear hr4 hb6 hbn hb5
    have b40 := h4.c0
    have b41 := h4.c1
    have b60 := h6.c0
    have b61 := h6.c1
    go_upto_region 10 with (go_at_call 16; go_fit (eqPlan_yes q.n q.bs A4 A2 g4 0 c4 g2 0 c2 _ _ hql (Nat.le_refl _) h6.rd h4.rd); rintro e w7 ⟨rfl, hb7⟩; have hr37 := (hr3'.below (hb7.mono (Nat.le_trans hs56 (Nat.le_of_lt hs6)))).more (Nat.le_trans (Nat.le_trans hs56 (Nat.le_of_lt hs6)) hb7.size); replace hW := bthen hW hb7; replace hA := MkR.next hA hb7; (try replace h4 := h4.below hb7); (try replace h6 := h6.below hb7); (try replace own5 := own_below own5 hb7); (try replace own6 := own_below own6 hb7))
    have hs67 : W6.heap.size ≤ w7.heap.size := hb7.size
    clear b40 b41 b60 b61 hb7 hr3'
    go_upto_region 12 with (first
      | (go_at_call 15; go_fit (toMarkS_c A b o c _ t _ hl2 (Nat.le_refl _) hA); rintro e w8 ⟨A9, c9, rfl, hown9, hb8⟩; obtain ⟨g9, hr9⟩ := own_csR hown9; have hr38 := (hr37.below hb8).more hb8.size; replace hW := bthen hW hb8; replace hA := MkR.next hA hb8; (try replace h4 := h4.below hb8); (try replace h6 := h6.below hb8); (try replace own5 := own_below own5 hb8); (try replace own6 := own_below own6 hb8))
      | (go_at_call 17; go_fit (eqMarkS_yes t A3 A9 g3 0 c3 g9 0 c9 _ _ hl2 (Nat.le_refl _) hr38 hr9); rintro e w9 ⟨rfl, hb9⟩; replace hW := bthen hW hb9; replace hA := MkR.next hA hb9; (try replace h4 := h4.below hb9); (try replace h6 := h6.below hb9); (try replace own5 := own_below own5 hb9); (try replace own6 := own_below own6 hb9)))
    have hsc : W6.heap.size ≤ w9.heap.size := Nat.le_trans hs67 (Nat.le_trans hb8.size hb9.size)
    clear hr37 hr38 hr9 hown9 hb8 hb9
    have hlm : ¬ (1 + 3 * (t.length : Int)) < 0 := by omega
    have hlq : ¬ (1 + 3 * (q.bs.length : Int)) < 0 := by omega
    go_upto_region 14 with (go_at_call 18; go_fit (markMarkS_c 1 W4.heap.size t.length A3 c3 _ _ (by omega) hl2 own5 (by omega)); rintro e w10 ⟨rfl, own5', hG⟩)
    replace hW := hW.grown hG hW.size (fun k hk => by have := hq5 k hk; omega)
    replace hA : MkR w10 w10.heap.size b o A t := (hA.grown hG (fun h e => by have := hq5 _ e.symm; have := hbA h; omega)).more hG.size
    replace h4 := h4.grown hG (fun e => by have := hq5 _ e.symm; omega) (fun h e => by have := hq5 _ e.symm; have := hg2 h; omega)
    replace h6 := h6.grown hG (fun e => by have := hq5 _ e.symm; omega) (fun h e => by have := hq5 _ e.symm; have := hg4 h; omega)
    replace own6 : OwnB w5.heap.size w10 (.slice A4 q.bs.length c4) q.bs := own6.kept hG (by
      cases hk6 : (Value.slice A4 q.bs.length c4).ownBlock with
      | none => exact .inl rfl
      | some k6 =>
        refine .inr (fun e => ?_)
        have h1 := hq5 k6 e.symm
        have h2 := hq6 k6 hk6
        omega)
    replace hsc := Nat.le_trans hsc hG.size
    clear own5 own5'
    have b40 := h4.c0
    have b41 := h4.c1
    have b60 := h6.c0
    have b61 := h6.c1
    go_upto_region 17 with (go_at_call 16; go_fit (eqPlan_yes q.n q.bs A4 A2 g4 0 c4 g2 0 c2 _ _ hql (Nat.le_refl _) h6.rd h4.rd); rintro e w11 ⟨rfl, hb11⟩; replace hW := bthen hW hb11; replace hA := MkR.next hA hb11; (try replace h4 := h4.below hb11); (try replace h6 := h6.below hb11); (try replace own5 := own_below own5 hb11); (try replace own6 := own_below own6 hb11))
    replace hsc := Nat.le_trans hsc hb11.size
    clear b40 b41 b60 b61 hG hb11
    have b60 := h6.c0
    have b61 := h6.c1
    go_upto_region 18 with (go_at_call 19; go_fit (markPlan_c q.n 1 w5.heap.size A4 c4 q.bs _ (by omega) hql own6 (by omega)); rintro e w12 ⟨rfl, own6', hG⟩)
    replace hW := hW.grown hG hW.size (fun k hk => by have := hq6 k hk; omega)
    replace hA : MkR w12 w12.heap.size b o A t := (hA.grown hG (fun h e => by have := hq6 _ e.symm; have := hbA h; omega)).more hG.size
    replace h4 := h4.grown hG (fun e => by have := hq6 _ e.symm; omega) (fun h e => by have := hq6 _ e.symm; have := hg2 h; omega)
    obtain ⟨gm, h5⟩ : ∃ gm, RP w12 X6 gm 0 q.n A4 c4 (marks 1 q.bs.length) := by
      have hml := marks_length 1 q.bs.length
      obtain ⟨gm, hrm⟩ : ∃ gm, BdsR w12 w12.heap.size gm 0 A4 (marks 1 q.bs.length) := OwnB.readsA (c := c4) (by rw [hml]; exact own6')
      have hne : some X6 ≠ (Value.slice A4 q.bs.length c4).ownBlock := fun e => by have := hq6 _ e.symm; omega
      exact ⟨gm, Nat.lt_of_lt_of_le h6.ex hG.size, hG.cell h6.c0 hne, by rw [hml]; exact hG.cell h6.c1 hne, hrm⟩
    clear own6 own6' h6 hG b60 b61 hq5 hq6 hg4
    have b60 := h5.c0
    have b61 := h5.c1
    rw [marks_length] at b61
    go_upto_region 24 with (go_at_call 20; go_fit (heldPlan_c q.n 1 A4 gm 0 c4 q.bs.length _ _ (by omega) hql (Nat.le_refl _) h5.rd); rintro e w13 ⟨rfl, hb12⟩; replace hW := bthen hW hb12; replace hA := MkR.next hA hb12; replace h4 := h4.below hb12; replace h5 := h5.below hb12)
    clear b60 b61 hb12
    go_upto_region 25 with (first
      | (go_at_call 15; go_fit (toMarkS_c A b o c _ t _ hl2 (Nat.le_refl _) hA); rintro e w14 ⟨A7, c7, rfl, own7, hb13⟩; obtain ⟨g7, hr7⟩ := own_csR own7; replace hW := bthen hW hb13; replace h4 := h4.below hb13; replace h5 := h5.below hb13)
      | (go_at_call 10; go_fit (planOf_q t q r Hq.out Hr.out A7 g7 0 c7 _ _ (Nat.le_refl _) hr7 hl2); rintro e w15 ⟨A8, c8, g8, rfl, hr8, own8, hb14⟩; replace hW := bthen hW hb14; replace h4 := h4.below hb14; replace h5 := h5.below hb14))
    have h6 := rp_new (n := q.n) (c := c8) (t := 29) hr8
    have hbn : Below w15.heap.size w15 (w15.alloc (.cells #[.int .i64 q.n, .slice A8 q.bs.length c8] 29)) := by go_grown
    replace hW := bthen hW hbn
    replace h4 := h4.below hbn
    replace h5 := h5.below hbn
    generalize w15.alloc (.cells #[.int .i64 q.n, .slice A8 q.bs.length c8] 29) = W14 at hW h4 h5 h6 ⊢
    generalize w15.heap.size = X10 at h6 ⊢
    clear hr7 hr8 own7 own8 hb13 hb14 hbn hA
    have b40 := h4.c0
    have b41 := h4.c1
    have b60 := h6.c0
    have b61 := h6.c1
    go_upto_region 28 with (go_at_call 16; go_fit (eqPlan_yes q.n q.bs A8 A2 g8 0 c8 g2 0 c2 _ _ hql (Nat.le_refl _) h6.rd h4.rd); rintro e w16 ⟨rfl, hb15⟩; replace hW := bthen hW hb15; replace h5 := h5.below hb15)
    clear b40 b41 b60 b61 hb15 h4 h6
    have b60 := h5.c0
    have b61 := h5.c1
    rw [marks_length] at b61
    go_wp2_with (go_at_call 20; go_fit (heldPlan_c q.n 1 A4 gm 0 c4 q.bs.length _ _ (by omega) hql (Nat.le_refl _) h5.rd); rintro e w17 ⟨rfl, hb16⟩; replace hW := bthen hW hb16)
    go_ret
    exact ⟨rfl, hW⟩
end Go.Proofs.Ytofodhdpppjaoaa
