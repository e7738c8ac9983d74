/-
  spec: the least end over all orders.
-/
import Derived.Test.YtmgikoaeomieeaaS75
import Derived.Test.YtmgikoaeomieeaaL72
import Derived.Test.YtmgikoaeomieeaaI3
namespace Go.Proofs.Ytmgikoaeomieeaa
set_option linter.unusedVariables false
set_option linter.unusedSimpArgs false
open Go Go.RowKit Pp

theorem made_fit {L F : List Int} {h : Int} {b : List Int} (hp : projOk L F = true) (hM : Made L F h L.length b) : fitB L F b = true := by
  refine fitB_iff.2 ⟨hp, hM.len, fun v hv => ?_⟩
  obtain ⟨i, hi, rfl⟩ := List.mem_iff_getElem.1 hv
  have := hM.all hp (show i < L.length by rw [← hM.len]; exact hi)
  rw [List.getD_eq_getElem?_getD, List.getElem?_eq_getElem hi] at this
  have hL := long_at hp (show i < L.length by rw [← hM.len]; exact hi)
  simp only [Option.getD_some] at this
  omega

theorem nodup_len : ∀ {l m : List Int}, l.Nodup → (∀ v ∈ l, v ∈ m) → l.length ≤ m.length
  | [], m, _, _ => Nat.zero_le _
  | a :: l, m, hd, hs => by
    have ha := hs a List.mem_cons_self
    obtain ⟨h1, h2⟩ := List.nodup_cons.1 hd
    have h3 := nodup_len (m := m.erase a) h2 (fun v hv => (List.mem_erase_of_ne (fun e : v = a => h1 (by rw [← e]; exact hv))).2 (hs v (List.mem_cons_of_mem _ hv)))
    rw [List.length_erase_of_mem ha] at h3
    have := List.length_pos_of_mem ha
    simp
    omega
theorem missing {n : Nat} {hd : List Int} (hl : hd.length < n) : ∃ k : Nat, k < n ∧ (k : Int) ∉ hd := by
  apply Classical.byContradiction
  intro hno
  have h1 := nodup_len (m := hd) (range_order n).2.1 (fun v hv => by
    obtain ⟨h2, h3⟩ := (range_order n).2.2 v hv
    apply Classical.byContradiction
    intro hv2
    exact hno ⟨v.toNat, by omega, by rw [Int.toNat_of_nonneg h2]; exact hv2⟩)
  rw [(range_order n).1] at h1
  omega
theorem ordW_some {n : Nat} : ∀ (m : Nat) (hd : List Int), hd.length + m = n → (∀ v ∈ hd, 0 ≤ v ∧ v < (n : Int)) → hd.Nodup → ∃ s, s ∈ ordW n m hd
  | 0, hd, _, _, _ => ⟨hd, by simp [ordW]⟩
  | m + 1, hd, hm, hr, hn => by
    obtain ⟨k, hk, hno⟩ := missing (n := n) (hd := hd) (by omega)
    obtain ⟨s, hs⟩ := ordW_some (n := n) m (hd ++ [(k : Int)]) (by simp; omega) (fun v hv => by
      rcases List.mem_append.1 hv with hv | hv
      · exact hr v hv
      · simp only [List.mem_singleton] at hv; subst hv; omega) (by
      rw [List.nodup_append]
      refine ⟨hn, by simp, fun a ha b hb => ?_⟩
      simp only [List.mem_singleton] at hb
      subst hb
      intro e; subst e; exact hno ha)
    refine ⟨s, ?_⟩
    unfold ordW
    rw [List.mem_flatMap]
    exact ⟨k, List.mem_range.2 hk, by rw [if_neg hno]; exact hs⟩
theorem leastW_nonneg {L : List Int} (F : List Int) (h : Int) (m : Nat) (hd : List Int) (hm : hd.length + m = L.length) (hr : ∀ v ∈ hd, 0 ≤ v ∧ v < (L.length : Int)) (hn : hd.Nodup) : 0 ≤ leastW L F h m hd := by
  obtain ⟨s, hs⟩ := ordW_some m hd hm hr hn
  rcases minL_facts (ends_nonneg (L := L) (F := F) (h := h) (ordW L.length m hd)) with ⟨e, _⟩ | ⟨e, _⟩
  · have : endBy L F h s ∈ (ordW L.length m hd).map (endBy L F h) := List.mem_map.2 ⟨s, hs, rfl⟩
    rw [e] at this; cases this
  · exact e

set_option maxHeartbeats 4000000 in
set_option maxRecDepth 100000 in
theorem l10Best0_c (L F hd : List Int) (h : Int) (hof : orderFits L F h hd = true) (AL AF A : Option Addr) (bl ol cl bf of' cf b o c B : Nat) (w : World) (hB : B ≤ w.heap.size) (hl : IntsR w B bl ol AL L) (hf : IntsR w B bf of' AF F) (hL : IntsR w B b o A hd) :
    Calls Try.prog 58 #[.agg #[.slice AL L.length cl, .slice AF F.length cf], .int .i64 h, .slice A hd.length c] w fun e w' => e = .returned (.int .i64 (endBy L F h hd)) ∧ Below w.heap.size w w' := by
  have hD := pj_new (t := 25) (cl := cl) (cf := cf) hB hl hf
  have hL1 := ((hL.more hB).below hD.bel).more hD.bel.size
  obtain ⟨hp, hh, ho⟩ := orderFits_iff.1 hof
  obtain ⟨h6, hle, _, _⟩ := projOk_iff.1 hp
  have hll : L.length ≤ 2000000 := by omega
  have hlf : F.length ≤ 2000000 := by omega
  have hM := by_made hp hh.1 ho
  have hfit := made_fit hp hM
  obtain ⟨bb, hbb⟩ : ∃ bb, beginsBy L F h hd = bb := ⟨_, rfl⟩
  have hE : endBy L F h hd = endOf L bb := by unfold endBy; rw [hbb]
  rw [hE]
  have hend : (if fitB L F bb then endOf L bb else -1) = endOf L bb := by rw [← hbb, hfit]; rfl
  obtain ⟨E, hE2⟩ : ∃ E, endOf L bb = E := ⟨_, rfl⟩
  have Hend : Hid ((if fitB L F bb then endOf L bb else -1) = E) := hend.trans hE2
  rw [hE2]
  have Hbb := hide hbb
  have Hof := hide hof
  have hbl : bb.length = hd.length := by rw [← hbb, hM.len, ho.1]
  have Hbl := hide hbl
  have hlen := ho.1
  have hhl : hd.length ≤ 2000000 := by omega
  rw [hlen]
  have Hlen := hide hlen
  clear hl hf hL hof hp hh ho hle hM hfit hbb hE hend hE2 hbl hlen hB
  go_enter Try.func58, Try.ntmps58
  go_upto_region 1 with fail
  generalize w.alloc (.cells #[.slice AL L.length cl, .slice AF F.length cf] 25) = W at hD hL1 ⊢
  have p0 := hD.c0
  have p1 := hD.c1
  go_upto_region 2 with fail
  refine wp_regionE (fun w' => w'.cell? ⟨w.heap.size, 0, none⟩ = some (.slice AL L.length cl) ∧ w'.cell? ⟨w.heap.size, 1, none⟩ = some (.slice AF F.length cf)) 6 (by kernel_rfl) ?_
  change wpE _ _ _ _ _ _ 7 #[false, false, false, false, false, false, false] _ _
  have hS0 : W.drew.cell? ⟨w.heap.size, 0, none⟩ = some (.slice AL L.length cl) ∧ W.drew.cell? ⟨w.heap.size, 1, none⟩ = some (.slice AF F.length cf) := ⟨p0, p1⟩
  have hDd := hD.drew
  have hLd := (hL1.below (show Below W.heap.size W W.drew by go_grown)).more (show W.heap.size ≤ W.drew.heap.size by simp)
  refine wpE_take' (v := ?_) 0 [5, 6] (of_decide_eq_true (by kernel_rfl)) (by kernel_rfl) (by kernel_rfl) (by kernel_rfl) (by kernel_rfl) (fun _ _ _ h => h) (by kernel_rfl) ?_ hS0 ?_
  rotate_left
  · intro w' hSw
    simp only [List.getElem_toArray, List.getElem_cons_succ, List.getElem_cons_zero]
    go_simp
    all_goals with_reducible rfl
  simp only [List.getElem_toArray, List.getElem_cons_succ, List.getElem_cons_zero, Act.put, List.setIfInBounds_toArray, List.set_cons_zero, List.set_cons_succ]
  refine wpE_take' (v := ?_) 1 [4, 5, 6] (of_decide_eq_true (by kernel_rfl)) (by kernel_rfl) (by kernel_rfl) (by kernel_rfl) (by kernel_rfl) (fun _ _ _ h => h) (by kernel_rfl) ?_ hS0 ?_
  rotate_left
  · intro w' hSw
    simp only [List.getElem_toArray, List.getElem_cons_succ, List.getElem_cons_zero]
    go_simp
    all_goals with_reducible rfl
  simp only [List.getElem_toArray, List.getElem_cons_succ, List.getElem_cons_zero, Act.put, List.setIfInBounds_toArray, List.set_cons_zero, List.set_cons_succ]
  refine wpE_take' (v := ?_) 2 [4, 5, 6] (of_decide_eq_true (by kernel_rfl)) (by kernel_rfl) (by kernel_rfl) (by kernel_rfl) (by kernel_rfl) (fun _ _ _ h => h) (by kernel_rfl) ?_ hS0 ?_
  rotate_left
  · intro w' hSw
    simp only [List.getElem_toArray, List.getElem_cons_succ, List.getElem_cons_zero]
    go_simp
    all_goals with_reducible rfl
  simp only [List.getElem_toArray, List.getElem_cons_succ, List.getElem_cons_zero, Act.put, List.setIfInBounds_toArray, List.set_cons_zero, List.set_cons_succ]
  refine wpE_take' (v := ?_) 3 [4, 5, 6] (of_decide_eq_true (by kernel_rfl)) (by kernel_rfl) (by kernel_rfl) (by kernel_rfl) (by kernel_rfl) (fun _ _ _ h => h) (by kernel_rfl) ?_ hS0 ?_
  rotate_left
  · intro w' hSw
    simp only [List.getElem_toArray, List.getElem_cons_succ, List.getElem_cons_zero]
    go_simp
    all_goals with_reducible rfl
  simp only [List.getElem_toArray, List.getElem_cons_succ, List.getElem_cons_zero, Act.put, List.setIfInBounds_toArray, List.set_cons_zero, List.set_cons_succ]
  refine wpE_step' 4 (of_decide_eq_true (by kernel_rfl)) (by kernel_rfl) (by kernel_rfl) (fun K hK => ?_)
  simp only [List.getElem_toArray, List.getElem_cons_succ, List.getElem_cons_zero]
  go_simp
  go_at_call 70
  have hcall := l10Begins_q L F hd h Hof.out AL AF A bl ol cl bf of' cf b o c _ _ (Nat.le_refl _) hDd.rl hDd.rf hLd
  rw [Hlen.out, Hbb.out] at hcall
  refine hcall.mono ?_
  clear hcall
  rintro e w5 ⟨A5, c5, rfl, hO5, hb5⟩
  have hD5 := hDd.below hb5
  refine hK.out _ _ (.inr ⟨hD5.c0, hD5.c1⟩) ?_
  clear hK K
  simp only [Act.put, List.setIfInBounds_toArray, List.set_cons_zero, List.set_cons_succ]
  refine wpE_step' 5 (of_decide_eq_true (by kernel_rfl)) (by kernel_rfl) (by kernel_rfl) (fun K hK => ?_)
  simp only [List.getElem_toArray, List.getElem_cons_succ, List.getElem_cons_zero]
  go_simp
  go_at_call 77
  obtain ⟨g5, hr5, -⟩ := own_ints (show bb.length = L.length by rw [Hbl.out, Hlen.out]) hO5
  have hcall := sEndOf_c L F bb AL AF A5 bl ol cl bf of' cf g5 0 c5 _ w5 hll hlf (by have := Hbl.out; omega) (Nat.le_refl _) hD5.rl hD5.rf hr5
  rw [Hend.out, show bb.length = L.length by rw [Hbl.out, Hlen.out]] at hcall
  refine hcall.mono ?_
  clear hcall
  rintro e w6 ⟨rfl, hb6⟩
  have hD6 := hD5.below hb6
  refine hK.out _ _ (.inr ⟨hD6.c0, hD6.c1⟩) ?_
  clear hK K
  simp only [Act.put, List.setIfInBounds_toArray, List.set_cons_zero, List.set_cons_succ]
  refine wpE_step' 6 (of_decide_eq_true (by kernel_rfl)) (by kernel_rfl) (by kernel_rfl) (fun K hK => ?_)
  simp only [List.getElem_toArray, List.getElem_cons_succ, List.getElem_cons_zero]
  go_simp
  refine hK.out _ _ (.inl rfl) ?_
  clear hK K
  simp only [Act.put, List.setIfInBounds_toArray, List.set_cons_zero, List.set_cons_succ]
  refine wpE_done (by kernel_rfl) ?_ _
  clear hS0 p0 p1
  go_wp2_with fail
  go_ret
  exact ⟨rfl, hD6.bel⟩

set_option maxHeartbeats 4000000 in
set_option maxRecDepth 100000 in
theorem l10Best_q (L F : List Int) (h : Int) (hp : projOk L F = true) (hh : 1 ≤ h ∧ h ≤ 3) (AL AF : Option Addr) (bl ol cl bf of' cf : Nat) : ∀ (m : Nat) (hd : List Int) (A : Option Addr) (b o c B : Nat) (w : World), hd.length + m = L.length → (∀ v ∈ hd, 0 ≤ v ∧ v < (L.length : Int)) → hd.Nodup →
    B ≤ w.heap.size → IntsR w B bl ol AL L → IntsR w B bf of' AF F → IntsR w B b o A hd →
    Calls Try.prog 58 #[.agg #[.slice AL L.length cl, .slice AF F.length cf], .int .i64 h, .slice A hd.length c] w fun e w' => e = .returned (.int .i64 (leastW L F h m hd)) ∧ Below w.heap.size w w' := by
  obtain ⟨h6, hle, _, _⟩ := projOk_iff.1 hp
  have Hp := hide hp
  have Hle := hide hle
  clear hp hle
  intro m
  induction m with
  | zero =>
    intro hd A b o c B w hm hr hn hB hl hf hL
    rw [leastW_zero]
    exact l10Best0_c L F hd h (orderFits_iff.2 ⟨Hp.out, hh, by omega, hn, hr⟩) AL AF A bl ol cl bf of' cf b o c B w hB hl hf hL
  | succ m ih =>
    intro hd A b o c B w hm hr hn hB hl hf hL
    rw [leastW_succ]
    obtain ⟨i0, hi0, hz0, hz1, hz2⟩ := info_parts infoI
    have hz : ((hd.length : Int) == (L.length : Int)) = false := by simp; omega
    have hm' : hd.length + m + 1 = L.length := by omega
    have hhd : hd.length ≤ 6 := by omega
    have hD := pj_new (t := 25) (cl := cl) (cf := cf) hB hl hf
    have hL1 := ((hL.more hB).below hD.bel).more hD.bel.size
    obtain ⟨R, hR2⟩ : ∃ R, leastK L F h m hd L.length = R := ⟨_, rfl⟩
    rw [hR2]
    have HR2 := hide hR2
    clear hm hR2 hl hf hB hL
    go_enter Try.func58, Try.ntmps58
    go_upto_region 1 with fail
    generalize w.alloc (.cells #[.slice AL L.length cl, .slice AF F.length cf] 25) = W at hD hL1 ⊢
    have p0 := hD.c0
    go_upto_region 3 with fail
    try (rename ((hd.length : Int) == (L.length : Int)) = false => hee; clear hee)
    clear p0
    go_wp2_with fail
    go_loopg [7, 8] L.length (fun gh s7 s8 wr => ∃ (k : Nat) (t : Int), k ≤ L.length ∧ gh = L.length - k ∧ s8 = .int .i64 k ∧ s7 = .int .i64 t ∧ Hid (leastK L F h m hd k = t) ∧ PJ w wr w.heap.size bl ol AL cl L bf of' AF cf F ∧ IntsR wr wr.heap.size b o A hd)
    case atStart => exact ⟨0, -1, Nat.zero_le _, rfl, rfl, rfl, rfl, hD, hL1⟩
    case round =>
      clear hD hL1
      obtain ⟨k, t, hk, rfl, rfl, rfl, HT, hD, hL1⟩ := hrel
      have p0 := hD.c0
      have p1 := hD.c1
      by_cases hlt : k < L.length
      · have hlt' : (k : Int) < (L.length : Int) := by omega
        go_wp2_with fail
        generalize wr = wo at hD hL1 p0 p1 ⊢
        clear p0 p1
        go_loopg [9, 10] hd.length (fun gh s9 s10 wi => ∃ (j : Nat) (q : Bool), j ≤ hd.length ∧ gh = hd.length - j ∧ s10 = .int .i64 j ∧ s9 = .bool q ∧ Hid (decide ((k : Int) ∈ hd.take j) = q) ∧ PJ w wi w.heap.size bl ol AL cl L bf of' AF cf F ∧ IntsR wi wi.heap.size b o A hd)
        case atStart => exact ⟨0, false, Nat.zero_le _, rfl, rfl, rfl, by simp [Hid], hD, hL1⟩
        case round =>
          clear hD hL1
          obtain ⟨j, q, hj, rfl, rfl, rfl, HQ, hD, hL1⟩ := hrel
          by_cases hjlt : j < hd.length
          · have hjlt' : (j : Int) < (hd.length : Int) := by omega
            obtain rfl := hL1.addr (by omega)
            have x0 := hL1.cell j hjlt
            have HS : Hid (decide ((k : Int) ∈ hd.take (j + 1)) = (q || (hd.getD j 0 == (k : Int)))) := by
              unfold Hid
              rw [← HQ.out, List.take_succ_eq_append_getElem hjlt, Bool.eq_iff_iff]
              have e : hd.getD j 0 = hd[j] := by rw [List.getD_eq_getElem?_getD, List.getElem?_eq_getElem hjlt]; rfl
              rw [e]
              simp only [decide_eq_true_eq, List.mem_append, List.mem_singleton, Bool.or_eq_true, beq_iff_eq]
              exact or_congr Iff.rfl eq_comm
            generalize hd.getD j 0 = x at x0 HS
            cases q
            · obtain ⟨e1, he1⟩ : ∃ e1, (x == (k : Int)) = e1 := ⟨_, rfl⟩
              rw [he1] at HS
              go_wp2_with fail
              go_roundg (hd.length - (j + 1))
              case measure => go_light; omega
              case rel => go_light; exact ⟨j + 1, e1, by omega, rfl, by go_num, rfl, HS.out, hD, hL1⟩
            · go_wp2_with fail
              go_roundg (hd.length - (j + 1))
              case measure => go_light; omega
              case rel => go_light; exact ⟨j + 1, true, by omega, rfl, by go_num, rfl, HS.out, hD, hL1⟩
          · have hje : j = hd.length := by omega
            have hjlt' : ¬ (j : Int) < (hd.length : Int) := by omega
            have HQ2 : Hid (decide ((k : Int) ∈ hd) = q) := by unfold Hid; rw [← HQ.out, hje, List.take_length]
            clear hje HQ
            cases q
            · have hmem : ¬ (k : Int) ∈ hd := of_decide_eq_false HQ2.out
              have Hr' : Hid (∀ v ∈ hd ++ [(k : Int)], 0 ≤ v ∧ v < (L.length : Int)) := by
                intro v hv
                rcases List.mem_append.1 hv with hv | hv
                · exact hr v hv
                · simp only [List.mem_singleton] at hv; subst hv; omega
              have Hn' : Hid ((hd ++ [(k : Int)]).Nodup) := by
                unfold Hid
                rw [List.nodup_append]
                refine ⟨hn, by simp, fun a ha b hb => ?_⟩
                simp only [List.mem_singleton] at hb
                subst hb
                intro e; subst e; exact hmem ha
              obtain ⟨r5, hr5'⟩ : ∃ r5, leastW L F h m (hd ++ [(k : Int)]) = r5 := ⟨_, rfl⟩
              obtain ⟨t2, ht2⟩ : ∃ t2, comb t r5 = t2 := ⟨_, rfl⟩
              have HN : Hid (leastK L F h m hd (k + 1) = t2) := by unfold Hid; rw [leastK_succ, if_neg hmem, HT.out, hr5', ht2]
              have Hr50 : Hid (0 ≤ r5) := by unfold Hid; rw [← hr5']; exact leastW_nonneg F h m (hd ++ [(k : Int)]) (by simp; omega) Hr'.out Hn'.out
              have Hr5 := hide hr5'
              have Ht2 := hide ht2
              have p0 := hD.c0
              have p1 := hD.c1
              have hDl := hD.ex
              clear hmem hr5' ht2 HQ2
              go_upto_region 13 with fail
              refine wp_regionE (fun w' => w'.cell? ⟨w.heap.size, 0, none⟩ = some (.slice AL L.length cl) ∧ w'.cell? ⟨w.heap.size, 1, none⟩ = some (.slice AF F.length cf)) 9 (by kernel_rfl) ?_
              change wpE _ _ _ _ _ _ 10 #[false, false, false, false, false, false, false, false, false, false] _ _
              have hS0 : wr.drew.cell? ⟨w.heap.size, 0, none⟩ = some (.slice AL L.length cl) ∧ wr.drew.cell? ⟨w.heap.size, 1, none⟩ = some (.slice AF F.length cf) := ⟨p0, p1⟩
              refine wpE_take' (v := ?_) 0 [8, 9] (of_decide_eq_true (by kernel_rfl)) (by kernel_rfl) (by kernel_rfl) (by kernel_rfl) (by kernel_rfl) (fun _ _ _ h => h) (by kernel_rfl) ?_ hS0 ?_
              rotate_left
              · intro w' hSw
                simp only [List.getElem_toArray, List.getElem_cons_succ, List.getElem_cons_zero]
                go_simp
                all_goals with_reducible rfl
              simp only [List.getElem_toArray, List.getElem_cons_succ, List.getElem_cons_zero, Act.put, List.setIfInBounds_toArray, List.set_cons_zero, List.set_cons_succ]
              refine wpE_take' (v := ?_) 1 [8, 9] (of_decide_eq_true (by kernel_rfl)) (by kernel_rfl) (by kernel_rfl) (by kernel_rfl) (by kernel_rfl) (fun _ _ _ h => h) (by kernel_rfl) ?_ hS0 ?_
              rotate_left
              · intro w' hSw
                simp only [List.getElem_toArray, List.getElem_cons_succ, List.getElem_cons_zero]
                go_simp
                all_goals with_reducible rfl
              simp only [List.getElem_toArray, List.getElem_cons_succ, List.getElem_cons_zero, Act.put, List.setIfInBounds_toArray, List.set_cons_zero, List.set_cons_succ]
              refine wpE_take' (v := ?_) 3 [4, 7, 8, 9] (of_decide_eq_true (by kernel_rfl)) (by kernel_rfl) (by kernel_rfl) (by kernel_rfl) (by kernel_rfl) (fun _ _ _ h => h) (by kernel_rfl) ?_ hS0 ?_
              rotate_left
              · intro w' hSw
                simp only [List.getElem_toArray, List.getElem_cons_succ, List.getElem_cons_zero]
                go_simp
                all_goals with_reducible rfl
              simp only [List.getElem_toArray, List.getElem_cons_succ, List.getElem_cons_zero, Act.put, List.setIfInBounds_toArray, List.set_cons_zero, List.set_cons_succ]
              refine wpE_take' (v := ?_) 5 [6, 7, 8, 9] (of_decide_eq_true (by kernel_rfl)) (by kernel_rfl) (by kernel_rfl) (by kernel_rfl) (by kernel_rfl) (fun _ _ _ h => h) (by kernel_rfl) ?_ hS0 ?_
              rotate_left
              · intro w' hSw
                simp only [List.getElem_toArray, List.getElem_cons_succ, List.getElem_cons_zero]
                go_simp
                all_goals with_reducible rfl
              simp only [List.getElem_toArray, List.getElem_cons_succ, List.getElem_cons_zero, Act.put, List.setIfInBounds_toArray, List.set_cons_zero, List.set_cons_succ]
              clear hS0
              refine wpE_two 2 6 (of_decide_eq_true (by kernel_rfl)) (of_decide_eq_true (by kernel_rfl)) (by kernel_rfl) (by kernel_rfl) (by kernel_rfl) (fun K hK => ?_) (fun K hK => ?_)
              · simp only [List.getElem_toArray, List.getElem_cons_succ, List.getElem_cons_zero]
                go_simp
                have hb1 : Below wr.heap.size wr (wr.alloc (.cells #[] 3)).drew := by go_grown
                have hE1 : (wr.alloc (.cells #[] 3)).drew.heap[wr.heap.size]? = some (.cells #[] 3 (0, 0)) := at_new (w := wr) rfl
                have hs1 : wr.heap.size < (wr.alloc (.cells #[] 3)).drew.heap.size := by simp
                refine hK.out _ _ (.inr ⟨((bcell hb1).1 _ _ hDl).trans p0, ((bcell hb1).1 _ _ hDl).trans p1⟩) ?_
                clear hK K
                simp only [Act.put, List.setIfInBounds_toArray, List.set_cons_zero, List.set_cons_succ]
                generalize (wr.alloc (.cells #[] 3)).drew = W1 at hb1 hE1 hs1 ⊢
                refine wpE_two 4 6 (of_decide_eq_true (by kernel_rfl)) (of_decide_eq_true (by kernel_rfl)) (by kernel_rfl) (by kernel_rfl) (by kernel_rfl) (fun K hK => ?_) (fun K hK => ?_)
                · simp only [List.getElem_toArray, List.getElem_cons_succ, List.getElem_cons_zero]
                  have own0 := own_empty (base := wr.heap.size) (size := 1) hE1 (Nat.le_refl _)
                  refine app_wp _ (.tmp 49) (.tmp 50) _ rfl wr.heap.size 3 i0 _ 1 8 Try.underlying23 hi0 hz0 hz1 hz2 rfl (by omega) (.slice (some ⟨wr.heap.size, 0, none⟩) 0 0) 0 [] rfl own0 A hd.length c (hd.map (Value.int .i64)) rfl (by simp) ((hL1.below hb1).news) (ints_one hd) (by omega) (by omega) (Below.size hb1) ?_
                  intro A4 c4 w4 hown4 hg4 hat4
                  simp only [Nat.zero_add, List.nil_append] at hown4 ⊢
                  have hb4 : Below wr.heap.size wr w4 := below_app hb1 own0 hg4 (Nat.le_refl _) (Below.size hb1)
                  refine hK.out _ _ (.inr ⟨((bcell hb4).1 _ _ hDl).trans p0, ((bcell hb4).1 _ _ hDl).trans p1⟩) ?_
                  clear hK K
                  simp only [Act.put, List.setIfInBounds_toArray, List.set_cons_zero, List.set_cons_succ]
                  refine wpE_step' 6 (of_decide_eq_true (by kernel_rfl)) (by kernel_rfl) (by kernel_rfl) (fun K hK => ?_)
                  simp only [List.getElem_toArray, List.getElem_cons_succ, List.getElem_cons_zero]
                  go_simp
                  have hq : (w4.alloc (.cells #[.int .i64 (k : Int)] 3)).heap[w4.heap.size]? = some (.cells #[.int .i64 (k : Int)] 3 (0, 0)) := at_new rfl
                  have hb6 : Below wr.heap.size wr (w4.alloc (.cells #[.int .i64 (k : Int)] 3)) := bthen hb4 (by go_grown)
                  have own6 := hown4.alloc (.cells #[.int .i64 (k : Int)] 3)
                  refine hK.out _ _ (.inr ⟨((bcell hb6).1 _ _ hDl).trans p0, ((bcell hb6).1 _ _ hDl).trans p1⟩) ?_
                  clear hK K
                  simp only [Act.put, List.setIfInBounds_toArray, List.set_cons_zero, List.set_cons_succ]
                  refine wpE_step' 7 (of_decide_eq_true (by kernel_rfl)) (by kernel_rfl) (by kernel_rfl) (fun K hK => ?_)
                  simp only [List.getElem_toArray, List.getElem_cons_succ, List.getElem_cons_zero]
                  refine app_wp _ (.tmp 51) (.tmp 53) _ rfl wr.heap.size 3 i0 _ 1 8 Try.underlying23 hi0 hz0 hz1 hz2 rfl (by omega) (.slice A4 hd.length c4) hd.length (hd.map (Value.int .i64)) rfl own6 _ 1 _ [.int .i64 (k : Int)] rfl rfl (NewsAt.block (cs := #[.int .i64 (k : Int)]) hq) (by simp [Value.oneCell']) (by omega) (by omega) hb6.size ?_
                  intro A5 c5 w5 hown5 hg5 hat5
                  have hb5 : Below wr.heap.size wr w5 := below_app hb6 own6 hg5 (Nat.le_refl _) hb6.size
                  have hlen5 : (hd ++ [(k : Int)]).length = hd.length + 1 := by simp
                  have hI9 : OwnI wr.heap.size w5 (.slice A5 (hd ++ [(k : Int)]).length c5) (hd ++ [(k : Int)]) := by unfold OwnI; rw [hlen5, List.map_append]; exact hown5
                  obtain ⟨g5, hr5⟩ := own_IntsR hI9
                  have hD5 := hD.below hb5
                  refine hK.out _ _ (.inr ⟨((bcell hb5).1 _ _ hDl).trans p0, ((bcell hb5).1 _ _ hDl).trans p1⟩) ?_
                  clear hK K
                  simp only [Act.put, List.setIfInBounds_toArray, List.set_cons_zero, List.set_cons_succ]
                  refine wpE_step' 8 (of_decide_eq_true (by kernel_rfl)) (by kernel_rfl) (by kernel_rfl) (fun K hK => ?_)
                  simp only [List.getElem_toArray, List.getElem_cons_succ, List.getElem_cons_zero]
                  go_simp
                  go_at_call 58
                  have hcall := ih (hd ++ [(k : Int)]) A5 g5 0 c5 _ w5 (by simp; omega) Hr'.out Hn'.out (Nat.le_refl _) hD5.rl hD5.rf hr5
                  rw [hlen5, Hr5.out] at hcall
                  refine hcall.mono ?_
                  clear hcall
                  rintro e w7 ⟨rfl, hb7⟩
                  have hb8 := bthen hb5 hb7
                  refine hK.out _ _ (.inr ⟨((bcell hb8).1 _ _ hDl).trans p0, ((bcell hb8).1 _ _ hDl).trans p1⟩) ?_
                  clear hK K
                  simp only [Act.put, List.setIfInBounds_toArray, List.set_cons_zero, List.set_cons_succ]
                  refine wpE_step' 9 (of_decide_eq_true (by kernel_rfl)) (by kernel_rfl) (by kernel_rfl) (fun K hK => ?_)
                  simp only [List.getElem_toArray, List.getElem_cons_succ, List.getElem_cons_zero]
                  go_simp
                  refine hK.out _ _ (.inl rfl) ?_
                  clear hK K
                  simp only [Act.put, List.setIfInBounds_toArray, List.set_cons_zero, List.set_cons_succ]
                  refine wpE_done (by kernel_rfl) ?_ _
                  replace hD := hD.below hb8
                  replace hL1 := (hL1.below hb8).more hb8.size
                  clear hD5 hr5 hI9 hown5 hb5 hb7 hb8 hb6 hb4 hg4 hg5 p0 p1
                  by_cases hneg : t < 0
                  · obtain rfl : t2 = r5 := by rw [← Ht2.out]; unfold comb; rw [if_pos hneg]
                    go_wp2_with fail
                    go_roundg (L.length - (k + 1))
                    case measure => go_light; omega
                    case rel => go_light; exact ⟨k + 1, t2, by omega, rfl, by go_num, rfl, HN.out, hD, hL1⟩
                  · have hneg2 : decide (t < 0) = false := decide_eq_false hneg
                    by_cases hlt5 : r5 < t
                    · obtain rfl : t2 = r5 := by have := Hr50.out; rw [← Ht2.out]; unfold comb; rw [if_neg hneg, if_neg (by omega)]; omega
                      go_wp2_with fail
                      go_roundg (L.length - (k + 1))
                      case measure => go_light; omega
                      case rel => go_light; exact ⟨k + 1, t2, by omega, rfl, by go_num, rfl, HN.out, hD, hL1⟩
                    · obtain rfl : t2 = t := by have := Hr50.out; rw [← Ht2.out]; unfold comb; rw [if_neg hneg, if_neg (by omega)]; omega
                      go_wp2_with fail
                      go_roundg (L.length - (k + 1))
                      case measure => go_light; omega
                      case rel => go_light; exact ⟨k + 1, t2, by omega, rfl, by go_num, rfl, HN.out, hD, hL1⟩
                · simp only [List.getElem_toArray, List.getElem_cons_succ, List.getElem_cons_zero]
                  go_simp
                  have hb2 : Below wr.heap.size wr (W1.alloc (.cells #[.int .i64 (k : Int)] 3)) := bthen hb1 (by go_grown)
                  have hE2 : (W1.alloc (.cells #[.int .i64 (k : Int)] 3)).heap[wr.heap.size]? = some (.cells #[] 3 (0, 0)) := at_old hE1
                  have hV2 : (W1.alloc (.cells #[.int .i64 (k : Int)] 3)).heap[W1.heap.size]? = some (.cells #[.int .i64 (k : Int)] 3 (0, 0)) := at_new rfl
                  have hs2 : W1.heap.size < (W1.alloc (.cells #[.int .i64 (k : Int)] 3)).heap.size := by simp
                  refine hK.out _ _ (.inr ⟨((bcell hb2).1 _ _ hDl).trans p0, ((bcell hb2).1 _ _ hDl).trans p1⟩) ?_
                  clear hK K
                  simp only [Act.put, List.setIfInBounds_toArray, List.set_cons_zero, List.set_cons_succ]
                  generalize (W1.alloc (.cells #[.int .i64 (k : Int)] 3)) = W2 at hb2 hE2 hV2 hs2 ⊢
                  refine wpE_step' 4 (of_decide_eq_true (by kernel_rfl)) (by kernel_rfl) (by kernel_rfl) (fun K hK => ?_)
                  simp only [List.getElem_toArray, List.getElem_cons_succ, List.getElem_cons_zero]
                  have own0 := own_empty (base := wr.heap.size) (size := 1) hE2 (Nat.le_refl _)
                  refine app_wp _ (.tmp 49) (.tmp 50) _ rfl wr.heap.size 3 i0 _ 1 8 Try.underlying23 hi0 hz0 hz1 hz2 rfl (by omega) (.slice (some ⟨wr.heap.size, 0, none⟩) 0 0) 0 [] rfl own0 A hd.length c (hd.map (Value.int .i64)) rfl (by simp) ((hL1.below hb2).news) (ints_one hd) (by omega) (by omega) (Below.size hb2) ?_
                  intro A4 c4 w4 hown4 hg4 hat4
                  simp only [Nat.zero_add, List.nil_append] at hown4 ⊢
                  have hb4 : Below wr.heap.size wr w4 := below_app hb2 own0 hg4 (Nat.le_refl _) (Below.size hb2)
                  have hq : w4.heap[W1.heap.size]? = some (.cells #[.int .i64 (k : Int)] 3 (0, 0)) := (hg4.block _ hs2 (by simp [Value.ownBlock]; omega)).trans hV2
                  have hb6 := hb4
                  have own6 := hown4
                  refine hK.out _ _ (.inr ⟨((bcell hb6).1 _ _ hDl).trans p0, ((bcell hb6).1 _ _ hDl).trans p1⟩) ?_
                  clear hK K
                  simp only [Act.put, List.setIfInBounds_toArray, List.set_cons_zero, List.set_cons_succ]
                  refine wpE_step' 7 (of_decide_eq_true (by kernel_rfl)) (by kernel_rfl) (by kernel_rfl) (fun K hK => ?_)
                  simp only [List.getElem_toArray, List.getElem_cons_succ, List.getElem_cons_zero]
                  refine app_wp _ (.tmp 51) (.tmp 53) _ rfl wr.heap.size 3 i0 _ 1 8 Try.underlying23 hi0 hz0 hz1 hz2 rfl (by omega) (.slice A4 hd.length c4) hd.length (hd.map (Value.int .i64)) rfl own6 _ 1 _ [.int .i64 (k : Int)] rfl rfl (NewsAt.block (cs := #[.int .i64 (k : Int)]) hq) (by simp [Value.oneCell']) (by omega) (by omega) hb6.size ?_
                  intro A5 c5 w5 hown5 hg5 hat5
                  have hb5 : Below wr.heap.size wr w5 := below_app hb6 own6 hg5 (Nat.le_refl _) hb6.size
                  have hlen5 : (hd ++ [(k : Int)]).length = hd.length + 1 := by simp
                  have hI9 : OwnI wr.heap.size w5 (.slice A5 (hd ++ [(k : Int)]).length c5) (hd ++ [(k : Int)]) := by unfold OwnI; rw [hlen5, List.map_append]; exact hown5
                  obtain ⟨g5, hr5⟩ := own_IntsR hI9
                  have hD5 := hD.below hb5
                  refine hK.out _ _ (.inr ⟨((bcell hb5).1 _ _ hDl).trans p0, ((bcell hb5).1 _ _ hDl).trans p1⟩) ?_
                  clear hK K
                  simp only [Act.put, List.setIfInBounds_toArray, List.set_cons_zero, List.set_cons_succ]
                  refine wpE_step' 8 (of_decide_eq_true (by kernel_rfl)) (by kernel_rfl) (by kernel_rfl) (fun K hK => ?_)
                  simp only [List.getElem_toArray, List.getElem_cons_succ, List.getElem_cons_zero]
                  go_simp
                  go_at_call 58
                  have hcall := ih (hd ++ [(k : Int)]) A5 g5 0 c5 _ w5 (by simp; omega) Hr'.out Hn'.out (Nat.le_refl _) hD5.rl hD5.rf hr5
                  rw [hlen5, Hr5.out] at hcall
                  refine hcall.mono ?_
                  clear hcall
                  rintro e w7 ⟨rfl, hb7⟩
                  have hb8 := bthen hb5 hb7
                  refine hK.out _ _ (.inr ⟨((bcell hb8).1 _ _ hDl).trans p0, ((bcell hb8).1 _ _ hDl).trans p1⟩) ?_
                  clear hK K
                  simp only [Act.put, List.setIfInBounds_toArray, List.set_cons_zero, List.set_cons_succ]
                  refine wpE_step' 9 (of_decide_eq_true (by kernel_rfl)) (by kernel_rfl) (by kernel_rfl) (fun K hK => ?_)
                  simp only [List.getElem_toArray, List.getElem_cons_succ, List.getElem_cons_zero]
                  go_simp
                  refine hK.out _ _ (.inl rfl) ?_
                  clear hK K
                  simp only [Act.put, List.setIfInBounds_toArray, List.set_cons_zero, List.set_cons_succ]
                  refine wpE_done (by kernel_rfl) ?_ _
                  replace hD := hD.below hb8
                  replace hL1 := (hL1.below hb8).more hb8.size
                  clear hD5 hr5 hI9 hown5 hb5 hb7 hb8 hb6 hb4 hg4 hg5 p0 p1
                  by_cases hneg : t < 0
                  · obtain rfl : t2 = r5 := by rw [← Ht2.out]; unfold comb; rw [if_pos hneg]
                    go_wp2_with fail
                    go_roundg (L.length - (k + 1))
                    case measure => go_light; omega
                    case rel => go_light; exact ⟨k + 1, t2, by omega, rfl, by go_num, rfl, HN.out, hD, hL1⟩
                  · have hneg2 : decide (t < 0) = false := decide_eq_false hneg
                    by_cases hlt5 : r5 < t
                    · obtain rfl : t2 = r5 := by have := Hr50.out; rw [← Ht2.out]; unfold comb; rw [if_neg hneg, if_neg (by omega)]; omega
                      go_wp2_with fail
                      go_roundg (L.length - (k + 1))
                      case measure => go_light; omega
                      case rel => go_light; exact ⟨k + 1, t2, by omega, rfl, by go_num, rfl, HN.out, hD, hL1⟩
                    · obtain rfl : t2 = t := by have := Hr50.out; rw [← Ht2.out]; unfold comb; rw [if_neg hneg, if_neg (by omega)]; omega
                      go_wp2_with fail
                      go_roundg (L.length - (k + 1))
                      case measure => go_light; omega
                      case rel => go_light; exact ⟨k + 1, t2, by omega, rfl, by go_num, rfl, HN.out, hD, hL1⟩
              · simp only [List.getElem_toArray, List.getElem_cons_succ, List.getElem_cons_zero]
                go_simp
                have hb1 : Below wr.heap.size wr (wr.alloc (.cells #[.int .i64 (k : Int)] 3)).drew := by go_grown
                have hV1 : (wr.alloc (.cells #[.int .i64 (k : Int)] 3)).drew.heap[wr.heap.size]? = some (.cells #[.int .i64 (k : Int)] 3 (0, 0)) := at_new (w := wr) rfl
                have hs1 : wr.heap.size < (wr.alloc (.cells #[.int .i64 (k : Int)] 3)).drew.heap.size := by simp
                refine hK.out _ _ (.inr ⟨((bcell hb1).1 _ _ hDl).trans p0, ((bcell hb1).1 _ _ hDl).trans p1⟩) ?_
                clear hK K
                simp only [Act.put, List.setIfInBounds_toArray, List.set_cons_zero, List.set_cons_succ]
                generalize (wr.alloc (.cells #[.int .i64 (k : Int)] 3)).drew = W1 at hb1 hV1 hs1 ⊢
                refine wpE_step' 2 (of_decide_eq_true (by kernel_rfl)) (by kernel_rfl) (by kernel_rfl) (fun K hK => ?_)
                simp only [List.getElem_toArray, List.getElem_cons_succ, List.getElem_cons_zero]
                go_simp
                have hb2 : Below wr.heap.size wr (W1.alloc (.cells #[] 3)) := bthen hb1 (by go_grown)
                have hE2 : (W1.alloc (.cells #[] 3)).heap[W1.heap.size]? = some (.cells #[] 3 (0, 0)) := at_new rfl
                have hV2 : (W1.alloc (.cells #[] 3)).heap[wr.heap.size]? = some (.cells #[.int .i64 (k : Int)] 3 (0, 0)) := at_old hV1
                have hs2 : wr.heap.size < (W1.alloc (.cells #[] 3)).heap.size := by simp; omega
                refine hK.out _ _ (.inr ⟨((bcell hb2).1 _ _ hDl).trans p0, ((bcell hb2).1 _ _ hDl).trans p1⟩) ?_
                clear hK K
                simp only [Act.put, List.setIfInBounds_toArray, List.set_cons_zero, List.set_cons_succ]
                generalize (W1.alloc (.cells #[] 3)) = W2 at hb2 hE2 hV2 hs2 ⊢
                refine wpE_step' 4 (of_decide_eq_true (by kernel_rfl)) (by kernel_rfl) (by kernel_rfl) (fun K hK => ?_)
                simp only [List.getElem_toArray, List.getElem_cons_succ, List.getElem_cons_zero]
                have own0 := own_empty (base := wr.heap.size) (size := 1) hE2 (Nat.le_of_lt hs1)
                refine app_wp _ (.tmp 49) (.tmp 50) _ rfl wr.heap.size 3 i0 _ 1 8 Try.underlying23 hi0 hz0 hz1 hz2 rfl (by omega) (.slice (some ⟨W1.heap.size, 0, none⟩) 0 0) 0 [] rfl own0 A hd.length c (hd.map (Value.int .i64)) rfl (by simp) ((hL1.below hb2).news) (ints_one hd) (by omega) (by omega) (Below.size hb2) ?_
                intro A4 c4 w4 hown4 hg4 hat4
                simp only [Nat.zero_add, List.nil_append] at hown4 ⊢
                have hb4 : Below wr.heap.size wr w4 := below_app hb2 own0 hg4 (Nat.le_refl _) (Below.size hb2)
                have hq : w4.heap[wr.heap.size]? = some (.cells #[.int .i64 (k : Int)] 3 (0, 0)) := (hg4.block _ hs2 (by simp [Value.ownBlock]; omega)).trans hV2
                have hb6 := hb4
                have own6 := hown4
                refine hK.out _ _ (.inr ⟨((bcell hb6).1 _ _ hDl).trans p0, ((bcell hb6).1 _ _ hDl).trans p1⟩) ?_
                clear hK K
                simp only [Act.put, List.setIfInBounds_toArray, List.set_cons_zero, List.set_cons_succ]
                refine wpE_step' 7 (of_decide_eq_true (by kernel_rfl)) (by kernel_rfl) (by kernel_rfl) (fun K hK => ?_)
                simp only [List.getElem_toArray, List.getElem_cons_succ, List.getElem_cons_zero]
                refine app_wp _ (.tmp 51) (.tmp 53) _ rfl wr.heap.size 3 i0 _ 1 8 Try.underlying23 hi0 hz0 hz1 hz2 rfl (by omega) (.slice A4 hd.length c4) hd.length (hd.map (Value.int .i64)) rfl own6 _ 1 _ [.int .i64 (k : Int)] rfl rfl (NewsAt.block (cs := #[.int .i64 (k : Int)]) hq) (by simp [Value.oneCell']) (by omega) (by omega) hb6.size ?_
                intro A5 c5 w5 hown5 hg5 hat5
                have hb5 : Below wr.heap.size wr w5 := below_app hb6 own6 hg5 (Nat.le_refl _) hb6.size
                have hlen5 : (hd ++ [(k : Int)]).length = hd.length + 1 := by simp
                have hI9 : OwnI wr.heap.size w5 (.slice A5 (hd ++ [(k : Int)]).length c5) (hd ++ [(k : Int)]) := by unfold OwnI; rw [hlen5, List.map_append]; exact hown5
                obtain ⟨g5, hr5⟩ := own_IntsR hI9
                have hD5 := hD.below hb5
                refine hK.out _ _ (.inr ⟨((bcell hb5).1 _ _ hDl).trans p0, ((bcell hb5).1 _ _ hDl).trans p1⟩) ?_
                clear hK K
                simp only [Act.put, List.setIfInBounds_toArray, List.set_cons_zero, List.set_cons_succ]
                refine wpE_step' 8 (of_decide_eq_true (by kernel_rfl)) (by kernel_rfl) (by kernel_rfl) (fun K hK => ?_)
                simp only [List.getElem_toArray, List.getElem_cons_succ, List.getElem_cons_zero]
                go_simp
                go_at_call 58
                have hcall := ih (hd ++ [(k : Int)]) A5 g5 0 c5 _ w5 (by simp; omega) Hr'.out Hn'.out (Nat.le_refl _) hD5.rl hD5.rf hr5
                rw [hlen5, Hr5.out] at hcall
                refine hcall.mono ?_
                clear hcall
                rintro e w7 ⟨rfl, hb7⟩
                have hb8 := bthen hb5 hb7
                refine hK.out _ _ (.inr ⟨((bcell hb8).1 _ _ hDl).trans p0, ((bcell hb8).1 _ _ hDl).trans p1⟩) ?_
                clear hK K
                simp only [Act.put, List.setIfInBounds_toArray, List.set_cons_zero, List.set_cons_succ]
                refine wpE_step' 9 (of_decide_eq_true (by kernel_rfl)) (by kernel_rfl) (by kernel_rfl) (fun K hK => ?_)
                simp only [List.getElem_toArray, List.getElem_cons_succ, List.getElem_cons_zero]
                go_simp
                refine hK.out _ _ (.inl rfl) ?_
                clear hK K
                simp only [Act.put, List.setIfInBounds_toArray, List.set_cons_zero, List.set_cons_succ]
                refine wpE_done (by kernel_rfl) ?_ _
                replace hD := hD.below hb8
                replace hL1 := (hL1.below hb8).more hb8.size
                clear hD5 hr5 hI9 hown5 hb5 hb7 hb8 hb6 hb4 hg4 hg5 p0 p1
                by_cases hneg : t < 0
                · obtain rfl : t2 = r5 := by rw [← Ht2.out]; unfold comb; rw [if_pos hneg]
                  go_wp2_with fail
                  go_roundg (L.length - (k + 1))
                  case measure => go_light; omega
                  case rel => go_light; exact ⟨k + 1, t2, by omega, rfl, by go_num, rfl, HN.out, hD, hL1⟩
                · have hneg2 : decide (t < 0) = false := decide_eq_false hneg
                  by_cases hlt5 : r5 < t
                  · obtain rfl : t2 = r5 := by have := Hr50.out; rw [← Ht2.out]; unfold comb; rw [if_neg hneg, if_neg (by omega)]; omega
                    go_wp2_with fail
                    go_roundg (L.length - (k + 1))
                    case measure => go_light; omega
                    case rel => go_light; exact ⟨k + 1, t2, by omega, rfl, by go_num, rfl, HN.out, hD, hL1⟩
                  · obtain rfl : t2 = t := by have := Hr50.out; rw [← Ht2.out]; unfold comb; rw [if_neg hneg, if_neg (by omega)]; omega
                    go_wp2_with fail
                    go_roundg (L.length - (k + 1))
                    case measure => go_light; omega
                    case rel => go_light; exact ⟨k + 1, t2, by omega, rfl, by go_num, rfl, HN.out, hD, hL1⟩
            · have HN : Hid (leastK L F h m hd (k + 1) = t) := by unfold Hid; rw [leastK_succ, if_pos (of_decide_eq_true HQ2.out)]; exact HT.out
              go_wp2_with fail
              go_roundg (L.length - (k + 1))
              case measure => go_light; omega
              case rel => go_light; exact ⟨k + 1, t, by omega, rfl, by go_num, rfl, HN.out, hD, hL1⟩
      · have hke : k = L.length := by omega
        obtain rfl : t = R := by rw [← HT.out, hke]; exact HR2.out
        have hlt' : ¬ (k : Int) < (L.length : Int) := by omega
        clear hke
        go_wp2_with fail
        go_ret
        exact ⟨rfl, hD.bel⟩

set_option maxHeartbeats 2000000 in
set_option maxRecDepth 100000 in
theorem sLeastEnd_c (L F : List Int) (h : Int) (AL AF : Option Addr) (bl ol cl bf of' cf B : Nat) (w : World) (hll : L.length ≤ 2000000) (hlf : F.length ≤ 2000000) (hB : B ≤ w.heap.size) (hl : IntsR w B bl ol AL L) (hf : IntsR w B bf of' AF F) :
    Calls Try.prog 23 #[.agg #[.slice AL L.length cl, .slice AF F.length cf], .int .i64 h] w fun e w' => e = .returned (.int .i64 (leastV L F h)) ∧ Below w.heap.size w w' := by
  have hD := pj_new (t := 25) (cl := cl) (cf := cf) hB hl hf
  obtain ⟨R, hR⟩ : ∃ R, leastV L F h = R := ⟨_, rfl⟩
  rw [hR]
  have HR := hide hR
  clear hl hf hB hR
  go_enter Try.func23, Try.ntmps23
  go_upto_region 1 with fail
  generalize w.alloc (.cells #[.slice AL L.length cl, .slice AF F.length cf] 25) = W at hD ⊢
  have p0 := hD.c0
  have p1 := hD.c1
  cases hp : projOk L F
  · obtain rfl : -1 = R := by rw [← HR.out]; unfold leastV; rw [hp]; rfl
    have Hp := hide hp
    clear hp
    go_wp2_with (go_at_call 48; go_fit (sProjectOk_c L F AL AF bl ol cl bf of' cf _ _ hll hlf (Nat.le_refl _) hD.rl hD.rf); rintro e w2 ⟨rfl, hb⟩; rw [Hp.out]; replace hD := hD.below hb; clear p0 p1; have p0 := hD.c0; have p1 := hD.c1)
    go_ret
    exact ⟨rfl, hD.bel⟩
  · cases hh : inB h 1 3
    · obtain rfl : -1 = R := by rw [← HR.out]; unfold leastV; rw [hh]; simp
      have Hp := hide hp
      have Hh := hide hh
      clear hp hh
      go_wp2_with (first
        | (go_at_call 48; go_fit (sProjectOk_c L F AL AF bl ol cl bf of' cf _ _ hll hlf (Nat.le_refl _) hD.rl hD.rf); rintro e w2 ⟨rfl, hb⟩; rw [Hp.out]; replace hD := hD.below hb; clear p0 p1; have p0 := hD.c0; have p1 := hD.c1)
        | (go_at_call 57; go_fit (l1In_b Hh.out _); rintro e w3 ⟨rfl, h3⟩; have h4 := h3.symm; subst h4; clear h3))
      go_ret
      exact ⟨rfl, hD.bel⟩
    · by_cases h5 : L.length ≤ 5
      · have h5z : ¬ (5 : Int) < (L.length : Int) := by omega
        have HE : Hid (leastW L F h L.length [] = R) := by unfold Hid; rw [← HR.out]; unfold leastV; rw [hp, hh, decide_eq_true h5]; rfl
        have hh3 := inB_iff.1 hh
        have Hp := hide hp
        have Hh := hide hh
        have hcall := fun (A : Option Addr) (c : Nat) (w1 : World) (h1 : PJ w w1 w.heap.size bl ol AL cl L bf of' AF cf F) => l10Best_q L F h hp hh3 AL AF bl ol cl bf of' cf L.length [] A 0 0 c _ w1 (by simp) (by simp) (by simp) (Nat.le_refl _) h1.rl h1.rf ⟨fun h => absurd h (by simp), fun h => absurd h (by simp), fun j hj => absurd hj (by simp)⟩
        rw [HE.out] at hcall
        have Hcall := hide hcall
        clear hp hh hcall
        go_upto_region 3 with (first
          | (go_at_call 48; go_fit (sProjectOk_c L F AL AF bl ol cl bf of' cf _ _ hll hlf (Nat.le_refl _) hD.rl hD.rf); rintro e w2 ⟨rfl, hb⟩; rw [Hp.out]; replace hD := hD.below hb; clear p0 p1; have p0 := hD.c0; have p1 := hD.c1)
          | (go_at_call 57; go_fit (l1In_b Hh.out _); rintro e w3 ⟨rfl, h3⟩; have h4 := h3.symm; subst h4; clear h3))
        have hD3 := hD.alloc (.cells #[] 3)
        go_wp2_with (go_at_call 58; refine (Hcall.out _ _ _ hD3).mono ?_; rintro e w5 ⟨rfl, hb5⟩)
        go_ret
        exact ⟨rfl, bthen hD3.bel hb5⟩
      · obtain rfl : -1 = R := by rw [← HR.out]; unfold leastV; rw [decide_eq_false h5]; simp
        have h5z : (5 : Int) < (L.length : Int) := by omega
        have Hp := hide hp
        have Hh := hide hh
        clear hp hh
        go_wp2_with (first
          | (go_at_call 48; go_fit (sProjectOk_c L F AL AF bl ol cl bf of' cf _ _ hll hlf (Nat.le_refl _) hD.rl hD.rf); rintro e w2 ⟨rfl, hb⟩; rw [Hp.out]; replace hD := hD.below hb; clear p0 p1; have p0 := hD.c0; have p1 := hD.c1)
          | (go_at_call 57; go_fit (l1In_b Hh.out _); rintro e w3 ⟨rfl, h3⟩; have h4 := h3.symm; subst h4; clear h3))
        go_ret
        exact ⟨rfl, hD.bel⟩
end Go.Proofs.Ytmgikoaeomieeaa
