/-
  impl: the least end.
-/
import Derived.Test.YtmgikoaeomieeaaL70
import Derived.Test.YtmgikoaeomieeaaL53a
import Derived.Test.YtmgikoaeomieeaaD2
import Derived.Laws.EntriesVeiled
import Derived.OneCell
namespace Go.Proofs.Ytmgikoaeomieeaa
set_option linter.unusedVariables false
set_option linter.unusedSimpArgs false
open Go Go.RowKit Pp

theorem gr_low {w w' : World} {row : Option Nat} (h : Below w.heap.size w w') : w.grownBy w' row := ⟨h.os, h.tape, h.output, h.size, fun k hk _ => h.block k hk⟩
theorem IntsR.far2 {w w' : World} {b o g : Nat} {A : Option Addr} {xs : List Int} (h : IntsR w w.heap.size b o A xs) (G : w.grownBy w' (some g)) (hb : 0 < xs.length → b ≠ g) : IntsR w' w'.heap.size b o A xs :=
  ⟨h.addr, fun hx => Nat.lt_of_lt_of_le (h.lt hx) G.size, fun j hj => far_cell G (h.cell j hj) (hb (by omega))⟩
/-- The boxes that LeastEnd's two functions read. -/
structure OB (W : World) (D H X M Y V : Nat) (h : Int) (bl ol : Nat) (AL : Option Addr) (cl : Nat) (L : List Int) (bf of' : Nat) (AF : Option Addr) (cf : Nat) (F : List Int) : Prop where
  d0 : W.cell? ⟨D, 0, none⟩ = some (.slice AL L.length cl)
  d1 : W.cell? ⟨D, 1, none⟩ = some (.slice AF F.length cf)
  h0 : W.cell? ⟨H, 0, none⟩ = some (.int .i64 h)
  m0 : W.cell? ⟨M, 0, none⟩ = some (.int .i64 (L.length : Int))
  y0 : W.cell? ⟨Y, 0, none⟩ = some (.func (.func 62) #[] #[.pointer (some ⟨D, 0, none⟩), .pointer (some ⟨H, 0, none⟩), .pointer (some ⟨X, 0, none⟩)])
  v0 : W.cell? ⟨V, 0, none⟩ = some (.func (.func 88) #[] #[.pointer (some ⟨M, 0, none⟩), .pointer (some ⟨Y, 0, none⟩), .pointer (some ⟨V, 0, none⟩)])
  rl : IntsR W W.heap.size bl ol AL L
  rf : IntsR W W.heap.size bf of' AF F
  ne : D ≠ X ∧ H ≠ X ∧ M ≠ X ∧ Y ≠ X ∧ V ≠ X
  nl : 0 < L.length → bl ≠ X
  nf : 0 < F.length → bf ≠ X
theorem OB.gr {W W' : World} {D H X M Y V : Nat} {h : Int} {bl ol : Nat} {AL : Option Addr} {cl : Nat} {L : List Int} {bf of' : Nat} {AF : Option Addr} {cf : Nat} {F : List Int} (hB : OB W D H X M Y V h bl ol AL cl L bf of' AF cf F) (G : W.grownBy W' (some X)) : OB W' D H X M Y V h bl ol AL cl L bf of' AF cf F :=
  ⟨far_cell G hB.d0 hB.ne.1, far_cell G hB.d1 hB.ne.1, far_cell G hB.h0 hB.ne.2.1, far_cell G hB.m0 hB.ne.2.2.1, far_cell G hB.y0 hB.ne.2.2.2.1, far_cell G hB.v0 hB.ne.2.2.2.2, hB.rl.far2 G hB.nl, hB.rf.far2 G hB.nf, hB.ne, hB.nl, hB.nf⟩
theorem one_below {W W' : World} {X : Nat} {o : Obj} (h : W.heap[X]? = some o) (hb : Below W.heap.size W W') : W'.heap[X]? = some o := by
  rw [hb.block X (lt_of_block h)]; exact h

set_option maxHeartbeats 2000000 in
set_option maxRecDepth 100000 in
theorem yieldE_c (L F s : List Int) (h : Int) (hof : orderFits L F h s = true) (AL AF As : Option Addr) (bl ol cl bf of' cf bs os cs D H X M Y V : Nat) (W : World) (lv : Int) (hB : OB W D H X M Y V h bl ol AL cl L bf of' AF cf F) (hX : W.heap[X]? = some (.cells #[.int .i64 lv] 3 (0, 0))) (hs : IntsR W W.heap.size bs os As s) (hcs : s.length ≤ cs) :
    Calls Try.prog 62 #[.slice As s.length cs, .pointer (some ⟨D, 0, none⟩), .pointer (some ⟨H, 0, none⟩), .pointer (some ⟨X, 0, none⟩)] W fun e W' => e = .returned (.tuple #[]) ∧ W'.heap[X]? = some (.cells #[.int .i64 (comb lv (endBy L F h s))] 3 (0, 0)) ∧ W.grownBy W' (some X) := by
  obtain ⟨hp, hh, ho⟩ := orderFits_iff.1 hof
  obtain ⟨h6, hle, _, _⟩ := projOk_iff.1 hp
  have hll : L.length ≤ 2000000 := by omega
  have hM := by_made hp hh.1 ho
  obtain ⟨E, hE⟩ : ∃ E, endOf L (beginsBy L F h s) = E := ⟨_, rfl⟩
  have hE2 : endBy L F h s = E := hE
  have hE0 : 0 ≤ E := by rw [← hE]; exact endTo_nonneg _ _ _
  rw [hE2]
  obtain ⟨R, hR⟩ : ∃ R, comb lv E = R := ⟨_, rfl⟩
  rw [hR]
  have HR := hide hR
  obtain ⟨b, hb⟩ : ∃ b, beginsBy L F h s = b := ⟨_, rfl⟩
  rw [hb] at hE hM
  have Hb := hide hb
  have HE := hide hE
  have Hbl := hide hM.len
  have Hbv := hide (made_vals hp hM (by omega))
  have Hof := hide hof
  have hXs := lt_of_block hX
  obtain ⟨d0, d1, h0⟩ : _ ∧ _ ∧ _ := ⟨hB.d0, hB.d1, hB.h0⟩
  clear hp hh ho hle hM hE hE2 hb hof hR
  go_enter Try.func62, Try.ntmps62
  go_upto_region 1 with (go_at_call 29; have hcall := beginsBy_yes L F s h Hof.out AL AF As bl ol cl bf of' cf bs os cs _ W hcs (Nat.le_refl _) hB.rl hB.rf hs; rw [Hb.out] at hcall; refine hcall.mono ?_; clear hcall; rintro e w2 ⟨g, rfl, hg, hrow, hb2⟩)
  have hB2 := hB.gr (gr_low hb2)
  clear d0 d1 h0
  obtain ⟨d0, d1, h0⟩ : _ ∧ _ ∧ _ := ⟨hB2.d0, hB2.d1, hB2.h0⟩
  go_upto_region 2 with (go_at_call 52; have hcall := end_c L F b Hbl.out Hbv.out AL AF (some ⟨g, 0, none⟩) bl ol cl bf of' cf g 0 L.length _ w2 hll (Nat.le_refl _) hB2.rl hB2.rf (row_ints hrow Hbl.out); rw [HE.out] at hcall; refine hcall.mono ?_; clear hcall; rintro e w3 ⟨rfl, hb3⟩)
  have hb4 := bthen hb2 hb3
  have hX3 := one_below hX hb4
  have x0 := cell_of_one hX3
  have xf := free_of_one hX3
  have hset := one_setCell (u := .int .i64 E) hX3
  have G3 : W.grownBy w3 (some X) := gr_low hb4
  have G4 := gr_set G3 ⟨X, 0, none⟩ (.inr rfl) (.int .i64 E)
  have Hset := hide hset
  clear d0 d1 h0 hB hB2 hX hs hrow hb2 hb3 hb4 hset
  by_cases hneg : lv < 0
  · obtain rfl : E = R := by rw [← HR.out]; unfold comb; rw [if_pos hneg]
    go_wp2_with fail
    go_end0
    exact ⟨rfl, Hset.out, G4⟩
  · by_cases hlt : E < lv
    · obtain rfl : E = R := by rw [← HR.out]; unfold comb; rw [if_neg hneg, if_neg (by omega)]; omega
      go_wp2_with fail
      go_end0
      exact ⟨rfl, Hset.out, G4⟩
    · obtain rfl : lv = R := by rw [← HR.out]; unfold comb; rw [if_neg hneg, if_neg (by omega)]; omega
      go_wp2_with fail
      go_end0
      exact ⟨rfl, hX3, G3⟩

theorem leastW_zero (L F : List Int) (h : Int) (hd : List Int) : leastW L F h 0 hd = endBy L F h hd := by
  show comb (endBy L F h hd) (-1) = _
  have := endTo_nonneg L (beginsBy L F h hd) L.length
  have h2 : 0 ≤ endBy L F h hd := this
  unfold comb
  rw [if_neg (by omega), if_pos (by omega)]
theorem leastW_succ (L F : List Int) (h : Int) (m : Nat) (hd : List Int) : leastW L F h (m + 1) hd = leastK L F h m hd L.length := by unfold leastW leastK; rw [ordW_succ]
theorem comb_none {x : Int} (h : -1 ≤ x) : comb x (-1) = x := by
  unfold comb
  split
  · omega
  · rw [if_pos (by omega)]
theorem comb_low {x y : Int} (h : -1 ≤ x) (h2 : -1 ≤ y) : -1 ≤ comb x y := by
  unfold comb
  repeat' split
  all_goals omega
theorem minL_low : ∀ l : List Int, (∀ x ∈ l, 0 ≤ x) → -1 ≤ minL l := fun l h => by
  rcases minL_facts h with ⟨_, e⟩ | ⟨e, _⟩ <;> omega
theorem leastW_low (L F : List Int) (h : Int) (m : Nat) (hd : List Int) : -1 ≤ leastW L F h m hd := minL_low _ (ends_nonneg _)
theorem leastK_low (L F : List Int) (h : Int) (m : Nat) (hd : List Int) (k : Nat) : -1 ≤ leastK L F h m hd k := minL_low _ (ends_nonneg _)

set_option maxHeartbeats 4000000 in
set_option maxRecDepth 100000 in
theorem walkO_c (L F : List Int) (h : Int) (hp : projOk L F = true) (hh : 1 ≤ h ∧ h ≤ 3) (AL AF : Option Addr) (bl ol cl bf of' cf D H X M Y V : Nat) : ∀ (m : Nat) (hd : List Int) (A : Option Addr) (b o c : Nat) (W : World) (lv : Int), hd.length + m = L.length → (∀ v ∈ hd, 0 ≤ v ∧ v < (L.length : Int)) → hd.Nodup →
    OB W D H X M Y V h bl ol AL cl L bf of' AF cf F → W.heap[X]? = some (.cells #[.int .i64 lv] 3 (0, 0)) → -1 ≤ lv → IntsR W W.heap.size b o A hd → (0 < hd.length → b ≠ X) → hd.length ≤ c →
    Calls Try.prog 88 #[.slice A hd.length c, .pointer (some ⟨M, 0, none⟩), .pointer (some ⟨Y, 0, none⟩), .pointer (some ⟨V, 0, none⟩)] W fun e W' => e = .returned (.tuple #[]) ∧ W'.heap[X]? = some (.cells #[.int .i64 (comb lv (leastW L F h m hd))] 3 (0, 0)) ∧ W.grownBy W' (some X) := by
  obtain ⟨h6, hle, _, _⟩ := projOk_iff.1 hp
  have Hp := hide hp
  clear hp hle
  intro m
  induction m with
  | zero =>
    intro hd A b o c W lv hm hr hn hB hX hlv hR hbX hc
    rw [leastW_zero]
    have hof : orderFits L F h hd = true := orderFits_iff.2 ⟨Hp.out, hh, by omega, hn, hr⟩
    have hcall := yieldE_c L F hd h hof AL AF A bl ol cl bf of' cf b o c D H X M Y V W lv hB hX hR hc
    obtain ⟨m0, y0⟩ : _ ∧ _ := ⟨hB.m0, hB.y0⟩
    have hlen : hd.length = L.length := by omega
    obtain ⟨R, hR2⟩ : ∃ R, comb lv (endBy L F h hd) = R := ⟨_, rfl⟩
    rw [hR2] at hcall ⊢
    rw [hlen] at hcall ⊢
    have Hcall := hide hcall
    clear hcall hR2 hof hr hn hm hB hX hlen
    go_enter Try.func88, Try.ntmps88
    go_wp2_with (go_at_call 62; refine Hcall.out.mono ?_; rintro e w2 ⟨rfl, hX2, hG2⟩)
    (try simp only [Exit.inBlock, Exit.then])
    refine bodyPost_ret (results_none rfl _ _ _) rfl ?_
    exact ⟨rfl, hX2, hG2⟩
  | succ m ih =>
    intro hd A b o c W lv hm hr hn hB hX hlv hR hbX hc
    rw [leastW_succ]
    obtain ⟨i0, hi0, hz0, hz1, hz2⟩ := info_parts infoI
    have hz : ((hd.length : Int) == (L.length : Int)) = false := by simp; omega
    obtain ⟨m0, y0⟩ : _ ∧ _ := ⟨hB.m0, hB.y0⟩
    have hm' : hd.length + m + 1 = L.length := by omega
    have hhd : hd.length ≤ 6 := by omega
    obtain ⟨R, hR2⟩ : ∃ R, comb lv (leastK L F h m hd L.length) = R := ⟨_, rfl⟩
    rw [hR2]
    have HR2 := hide hR2
    have H0 : Hid (lv = comb lv (leastK L F h m hd 0)) := (comb_none hlv).symm
    clear hm hR2
    go_enter Try.func88, Try.ntmps88
    go_wp2_with fail
    try (rename ((hd.length : Int) == (L.length : Int)) = false => hee; clear hee)
    clear m0 y0
    go_loopg [14] L.length (fun gh s wr => ∃ (k : Nat) (lw : Int), k ≤ L.length ∧ gh = L.length - k ∧ s = .int .i64 k ∧ wr.heap[X]? = some (.cells #[.int .i64 lw] 3 (0, 0)) ∧ Hid (lw = comb lv (leastK L F h m hd k)) ∧ W.grownBy wr (some X) ∧ OB wr D H X M Y V h bl ol AL cl L bf of' AF cf F ∧ IntsR wr wr.heap.size b o A hd)
    case atStart => exact ⟨0, lv, Nat.zero_le _, rfl, rfl, hX, H0.out, gr_low (Below.refl _ _), hB, hR⟩
    case round =>
      clear hX hB hR
      obtain ⟨k, lw, hk, rfl, rfl, hX, HK, hG, hB, hR⟩ := hrel
      by_cases hlt : k < L.length
      · have hlt' : (k : Int) < (L.length : Int) := by omega
        have hlw : -1 ≤ lw := by rw [HK.out]; exact comb_low hlv (leastK_low _ _ _ _ _ _)
        have hVl := World.block_lt_of_cell? _ _ hB.v0
        have hcont := contains_c hd (k : Int) A b o c _ wr (by omega) (Nat.le_refl _) hR
        by_cases hmem : (k : Int) ∈ hd
        · rw [decide_eq_true hmem] at hcont
          have HN : Hid (lw = comb lv (leastK L F h m hd (k + 1))) := by unfold Hid; rw [leastK_succ, if_pos hmem]; exact HK.out
          have Hcont := hide hcont
          clear hcont hmem
          go_wp2_with (go_at_call 75; refine Hcont.out.mono ?_; rintro e w5 ⟨rfl, rfl⟩)
          go_roundg (L.length - (k + 1))
          case measure => go_light; omega
          case rel => go_light; exact ⟨k + 1, lw, by omega, rfl, by go_num, hX, HN, hG, hB, hR⟩
        · rw [decide_eq_false hmem] at hcont
          have Hmem := hide hmem
          have Hstep : Hid (comb lw (leastW L F h m (hd ++ [(k : Int)])) = comb lv (leastK L F h m hd (k + 1))) := by unfold Hid; rw [leastK_succ, if_neg hmem, ← comb_assoc, ← HK.out]
          have Hcont := hide hcont
          clear hcont hmem
          go_upto_region 6 with (go_at_call 75; refine Hcont.out.mono ?_; rintro e w5 ⟨rfl, hw5⟩; have hw6 := hw5.symm; subst hw6; clear hw5)
          have v0 := hB.v0
          have Hr' : Hid (∀ v ∈ hd ++ [(k : Int)], 0 ≤ v ∧ v < (L.length : Int)) := by
            intro v hv
            rcases List.mem_append.1 hv with hv | hv
            · exact hr v hv
            · simp only [List.mem_singleton] at hv; subst hv; omega
          have Hn' : Hid ((hd ++ [(k : Int)]).Nodup) := by
            unfold Hid
            rw [List.nodup_append]
            refine ⟨hn, by simp, fun a ha b hb => ?_⟩
            simp only [List.mem_singleton] at hb
            subst hb
            intro e; subst e; exact Hmem.out ha
          have hXw := lt_of_block hX
          clear Hcont Hmem
          refine wp_regionE (fun w' => w'.cell? ⟨V, 0, none⟩ = some (.func (.func 88) #[] #[.pointer (some ⟨M, 0, none⟩), .pointer (some ⟨Y, 0, none⟩), .pointer (some ⟨V, 0, none⟩)])) 6 (by kernel_rfl) ?_
          change wpE _ _ _ _ _ _ 7 #[false, false, false, false, false, false, false] _ _
          have hS0 : wr.drew.cell? ⟨V, 0, none⟩ = some (.func (.func 88) #[] #[.pointer (some ⟨M, 0, none⟩), .pointer (some ⟨Y, 0, none⟩), .pointer (some ⟨V, 0, none⟩)]) := v0
          refine wpE_take' (v := ?_) 0 [6] (of_decide_eq_true (by kernel_rfl)) (by kernel_rfl) (by kernel_rfl) (by kernel_rfl) (by kernel_rfl) (fun _ _ _ h => h) (by kernel_rfl) ?_ hS0 ?_
          rotate_left
          · intro w' hSw
            simp only [List.getElem_toArray, List.getElem_cons_succ, List.getElem_cons_zero]
            go_simp
            all_goals with_reducible rfl
          simp only [List.getElem_toArray, List.getElem_cons_succ, List.getElem_cons_zero, Act.put, List.setIfInBounds_toArray, List.set_cons_zero, List.set_cons_succ]
          refine wpE_take' (v := ?_) 1 [2, 5, 6] (of_decide_eq_true (by kernel_rfl)) (by kernel_rfl) (by kernel_rfl) (by kernel_rfl) (by kernel_rfl) (fun _ _ _ h => h) (by kernel_rfl) ?_ hS0 ?_
          rotate_left
          · intro w' hSw
            simp only [List.getElem_toArray, List.getElem_cons_succ, List.getElem_cons_zero]
            go_simp
            all_goals with_reducible rfl
          simp only [List.getElem_toArray, List.getElem_cons_succ, List.getElem_cons_zero, Act.put, List.setIfInBounds_toArray, List.set_cons_zero, List.set_cons_succ]
          refine wpE_take' (v := ?_) 3 [4, 5, 6] (of_decide_eq_true (by kernel_rfl)) (by kernel_rfl) (by kernel_rfl) (by kernel_rfl) (by kernel_rfl) (fun _ _ _ h => h) (by kernel_rfl) ?_ hS0 ?_
          rotate_left
          · intro w' hSw
            simp only [List.getElem_toArray, List.getElem_cons_succ, List.getElem_cons_zero]
            go_simp
            all_goals with_reducible rfl
          simp only [List.getElem_toArray, List.getElem_cons_succ, List.getElem_cons_zero, Act.put, List.setIfInBounds_toArray, List.set_cons_zero, List.set_cons_succ]
          refine wpE_two 2 4 (of_decide_eq_true (by kernel_rfl)) (of_decide_eq_true (by kernel_rfl)) (by kernel_rfl) (by kernel_rfl) (by kernel_rfl) (fun K hK => ?_) (fun K hK => ?_)
          · simp only [List.getElem_toArray, List.getElem_cons_succ, List.getElem_cons_zero]
            go_simp
            go_at_call 89
            have hbd : Below wr.heap.size wr wr.drew := by go_grown
            refine (cloneI_c hd A b o c _ wr.drew (by omega) (by simp) (hR.below hbd)).mono ?_
            rintro e w4 ⟨A4, c4, rfl, hown4a, hb40a⟩
            have hb40 := bthen hbd hb40a
            have hown4 : w4.ownsRow wr.heap.size 3 1 (.slice A4 hd.length c4) hd.length (hd.map (Value.int .i64)) := own_less hown4a (by simp)
            refine hK.out _ _ (.inr (((bcell hb40).1 _ 0 hVl).trans v0)) ?_
            clear hK K hown4a hb40a hbd
            simp only [Act.put, List.setIfInBounds_toArray, List.set_cons_zero, List.set_cons_succ]
            refine wpE_step' 4 (of_decide_eq_true (by kernel_rfl)) (by kernel_rfl) (by kernel_rfl) (fun K hK => ?_)
            simp only [List.getElem_toArray, List.getElem_cons_succ, List.getElem_cons_zero]
            go_simp
            have hb4 : Below wr.heap.size wr (w4.alloc (.cells #[.int .i64 (k : Int)] 3)) := bthen hb40 (by go_grown)
            have hownB := hown4.alloc (.cells #[.int .i64 (k : Int)] 3)
            have hs4 := hb4.size
            refine hK.out _ _ (.inr (((bcell hb4).1 _ 0 hVl).trans v0)) ?_
            clear hK K
            simp only [Act.put, List.setIfInBounds_toArray, List.set_cons_zero, List.set_cons_succ]
            refine wpE_step' 5 (of_decide_eq_true (by kernel_rfl)) (by kernel_rfl) (by kernel_rfl) (fun K hK => ?_)
            simp only [List.getElem_toArray, List.getElem_cons_succ, List.getElem_cons_zero]
            refine app_wp _ (.tmp 23) (.tmp 25) _ rfl wr.heap.size 3 i0 _ 1 8 Try.underlying23 hi0 hz0 hz1 hz2 rfl (by omega) (.slice A4 hd.length c4) hd.length (hd.map (Value.int .i64)) rfl hownB _ 1 _ [.int .i64 (k : Int)] rfl rfl (NewsAt.block (cs := #[.int .i64 (k : Int)]) (at_new rfl)) (by simp [Value.oneCell']) (by omega) (by omega) hs4 ?_
            intro A5 c5 w5 hown5 hg5 hat5
            have hb5 : Below wr.heap.size wr w5 := below_app hb4 hownB hg5 (Nat.le_refl _) hs4
            have hlen5 : (hd ++ [(k : Int)]).length = hd.length + 1 := by simp
            have hI9 : OwnI wr.heap.size w5 (.slice A5 (hd ++ [(k : Int)]).length c5) (hd ++ [(k : Int)]) := by unfold OwnI; rw [hlen5, List.map_append]; exact hown5
            obtain ⟨g5, hr5⟩ := own_IntsR hI9
            have hg5b : wr.heap.size ≤ g5 := by obtain rfl := hr5.addr (by simp); exact (hI9.lt g5 rfl).1
            have hc5 := own_cap hI9
            have hX5 := one_below hX hb5
            have hB5 := hB.gr (gr_low hb5)
            have hv5 := hB5.v0
            have hG5 := gr_below hG hb5
            refine hK.out _ _ (.inr hv5) ?_
            clear hK K
            simp only [Act.put, List.setIfInBounds_toArray, List.set_cons_zero, List.set_cons_succ]
            refine wpE_step' 6 (of_decide_eq_true (by kernel_rfl)) (by kernel_rfl) (by kernel_rfl) (fun K hK => ?_)
            simp only [List.getElem_toArray, List.getElem_cons_succ, List.getElem_cons_zero]
            go_simp
            go_at_call 88
            have hcall := ih (hd ++ [(k : Int)]) A5 g5 0 c5 w5 lw (by simp; omega) Hr'.out Hn'.out hB5 hX5 hlw hr5 (fun _ e => by omega) hc5
            rw [hlen5] at hcall
            refine hcall.mono ?_
            clear hcall
            rintro e w6 ⟨rfl, hX6, hG6⟩
            have hB6 := hB5.gr hG6
            have hG7 := gr_pick hG5 hG6
            refine hK.out _ _ (.inl rfl) ?_
            clear hK K
            simp only [Act.put, List.setIfInBounds_toArray, List.set_cons_zero, List.set_cons_succ]
            refine wpE_done (by kernel_rfl) ?_ _
            have hR6 := (hR.below hb5).more hb5.size
            have hR7 := hR6.far2 hG6 hbX
            clear hB5 hr5 hX5 hR6 hb5 hI9 hown5
            go_wp2_with fail
            go_roundg (L.length - (k + 1))
            case measure => go_light; omega
            case rel => go_light; exact ⟨k + 1, _, by omega, rfl, by go_num, hX6, Hstep.out, hG7, hB6, hR7⟩
          · simp only [List.getElem_toArray, List.getElem_cons_succ, List.getElem_cons_zero]
            go_simp
            have hb40 : Below wr.heap.size wr (wr.alloc (.cells #[.int .i64 (k : Int)] 3)).drew := by go_grown
            refine hK.out _ _ (.inr (((bcell hb40).1 _ 0 hVl).trans v0)) ?_
            clear hK K
            simp only [Act.put, List.setIfInBounds_toArray, List.set_cons_zero, List.set_cons_succ]
            refine wpE_step' 2 (of_decide_eq_true (by kernel_rfl)) (by kernel_rfl) (by kernel_rfl) (fun K hK => ?_)
            simp only [List.getElem_toArray, List.getElem_cons_succ, List.getElem_cons_zero]
            go_simp
            go_at_call 89
            refine (cloneI_c hd A b o c _ _ (by omega) hb40.size (hR.below hb40)).mono ?_
            rintro e w4 ⟨A4, c4, rfl, hown4a, hb4a⟩
            have hb4 := bthen hb40 hb4a
            have hownB : w4.ownsRow wr.heap.size 3 1 (.slice A4 hd.length c4) hd.length (hd.map (Value.int .i64)) := own_less hown4a (by simp)
            have hs4 := hb4.size
            have hnew : w4.heap[wr.heap.size]? = some (.cells #[.int .i64 (k : Int)] 3 (0, 0)) := (hb4a.block _ (by simp)).trans (at_new (w := wr) rfl)
            refine hK.out _ _ (.inr (((bcell hb4).1 _ 0 hVl).trans v0)) ?_
            clear hK K
            simp only [Act.put, List.setIfInBounds_toArray, List.set_cons_zero, List.set_cons_succ]
            refine wpE_step' 5 (of_decide_eq_true (by kernel_rfl)) (by kernel_rfl) (by kernel_rfl) (fun K hK => ?_)
            simp only [List.getElem_toArray, List.getElem_cons_succ, List.getElem_cons_zero]
            refine app_wp _ (.tmp 23) (.tmp 25) _ rfl wr.heap.size 3 i0 _ 1 8 Try.underlying23 hi0 hz0 hz1 hz2 rfl (by omega) (.slice A4 hd.length c4) hd.length (hd.map (Value.int .i64)) rfl hownB _ 1 _ [.int .i64 (k : Int)] rfl rfl (NewsAt.block (cs := #[.int .i64 (k : Int)]) hnew) (by simp [Value.oneCell']) (by omega) (by omega) hs4 ?_
            intro A5 c5 w5 hown5 hg5 hat5
            have hb5 : Below wr.heap.size wr w5 := below_app hb4 hownB hg5 (Nat.le_refl _) hs4
            have hlen5 : (hd ++ [(k : Int)]).length = hd.length + 1 := by simp
            have hI9 : OwnI wr.heap.size w5 (.slice A5 (hd ++ [(k : Int)]).length c5) (hd ++ [(k : Int)]) := by unfold OwnI; rw [hlen5, List.map_append]; exact hown5
            obtain ⟨g5, hr5⟩ := own_IntsR hI9
            have hg5b : wr.heap.size ≤ g5 := by obtain rfl := hr5.addr (by simp); exact (hI9.lt g5 rfl).1
            have hc5 := own_cap hI9
            have hX5 := one_below hX hb5
            have hB5 := hB.gr (gr_low hb5)
            have hv5 := hB5.v0
            have hG5 := gr_below hG hb5
            refine hK.out _ _ (.inr hv5) ?_
            clear hK K
            simp only [Act.put, List.setIfInBounds_toArray, List.set_cons_zero, List.set_cons_succ]
            refine wpE_step' 6 (of_decide_eq_true (by kernel_rfl)) (by kernel_rfl) (by kernel_rfl) (fun K hK => ?_)
            simp only [List.getElem_toArray, List.getElem_cons_succ, List.getElem_cons_zero]
            go_simp
            go_at_call 88
            have hcall := ih (hd ++ [(k : Int)]) A5 g5 0 c5 w5 lw (by simp; omega) Hr'.out Hn'.out hB5 hX5 hlw hr5 (fun _ e => by omega) hc5
            rw [hlen5] at hcall
            refine hcall.mono ?_
            clear hcall
            rintro e w6 ⟨rfl, hX6, hG6⟩
            have hB6 := hB5.gr hG6
            have hG7 := gr_pick hG5 hG6
            refine hK.out _ _ (.inl rfl) ?_
            clear hK K
            simp only [Act.put, List.setIfInBounds_toArray, List.set_cons_zero, List.set_cons_succ]
            refine wpE_done (by kernel_rfl) ?_ _
            have hR6 := (hR.below hb5).more hb5.size
            have hR7 := hR6.far2 hG6 hbX
            clear hB5 hr5 hX5 hR6 hb5 hI9 hown5
            go_wp2_with fail
            go_roundg (L.length - (k + 1))
            case measure => go_light; omega
            case rel => go_light; exact ⟨k + 1, _, by omega, rfl, by go_num, hX6, Hstep.out, hG7, hB6, hR7⟩
      · obtain rfl : k = L.length := by omega
        have hlt' : ¬ (L.length : Int) < (L.length : Int) := by omega
        obtain rfl : lw = R := by rw [HK.out, HR2.out]
        go_wp2_with fail
        go_end0
        exact ⟨rfl, hX, hG⟩
end Go.Proofs.Ytmgikoaeomieeaa
