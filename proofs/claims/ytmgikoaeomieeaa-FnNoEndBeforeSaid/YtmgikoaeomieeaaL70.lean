/-
  impl: begins as time goes on.
-/
import Derived.Test.YtmgikoaeomieeaaL69
namespace Go.Proofs.Ytmgikoaeomieeaa
set_option linter.unusedVariables false
set_option linter.unusedSimpArgs false
open Go.RowKit Pp

theorem gr_vals {L F : List Int} {h t : Int} {b : List Int} (hp : projOk L F = true) (hG : Gr L F h t b) (ht : t ≤ 1000) : ∀ j, j < L.length → (0 ≤ L.getD j 0 ∧ L.getD j 0 ≤ 100) ∧ (-1 ≤ b.getD j 0 ∧ b.getD j 0 ≤ 10000) := fun j hj => by
  have h1 := long_at hp hj
  have h2 := hG.val j (by rw [hG.len]; exact hj)
  omega
theorem gr_erl {L F : List Int} {h t : Int} {b : List Int} (hp : projOk L F = true) (hG : Gr L F h t b) (h0 : 0 ≤ t) (ht : t ≤ 1000) {i : Nat} (hi : i < L.length) : 0 ≤ erl L F b i i ∧ erl L F b i i ≤ 2000 := by
  refine ⟨erl_nonneg _ _ _ _ _, erl_le (by omega) (fun k hk ha => ?_)⟩
  have h1 := long_at hp (show k < L.length by omega)
  have h2 := hG.val k (by rw [hG.len]; omega)
  omega
theorem gr2_gr {L F : List Int} {h : Int} {T : Nat} {b : List Int} (hG : Gr2 L F h T b) : Gr L F h (T : Int) b := ⟨hG.gr.len, fun i hi => by have := hG.gr.val i hi; omega, hG.gr.pre, hG.gr.few⟩
theorem greedy1_not {L F : List Int} {h t : Int} {b : List Int} {i : Nat} (hn : ¬ (b.getD i 0 = -1 ∧ frOk F b i i = true ∧ erl L F b i i ≤ t ∧ (busyN L b t : Int) < h)) : greedy1 L F h t b (i : Int) = b := by
  unfold greedy1
  rw [if_neg (by simpa using hn)]
theorem greedy1_yes {L F : List Int} {h t : Int} {b : List Int} {i : Nat} (h1 : b.getD i 0 = -1) (h2 : frOk F b i i = true) (h3 : erl L F b i i ≤ t) (h4 : (busyN L b t : Int) < h) : greedy1 L F h t b (i : Int) = b.set i t := by
  unfold greedy1
  rw [if_pos (by simpa using ⟨h1, h2, h3, h4⟩)]; rfl
theorem not_all {L : List Int} {b : List Int} (hl : b.length = L.length) (hm : (-1 : Int) ∈ b) : ∃ i, i < L.length ∧ b.getD i 0 = -1 := by
  obtain ⟨i, hi, e⟩ := List.mem_iff_getElem.1 hm
  exact ⟨i, by omega, by rw [List.getD_eq_getElem?_getD, List.getElem?_eq_getElem hi]; exact e⟩
theorem all_not {L : List Int} {b : List Int} (hl : b.length = L.length) (hm : ¬ (-1 : Int) ∈ b) {i : Nat} (hi : i < L.length) : b.getD i 0 ≠ -1 := by
  intro e
  apply hm
  rw [List.getD_eq_getElem?_getD, List.getElem?_eq_getElem (show i < b.length by omega)] at e
  exact e ▸ List.getElem_mem _

set_option maxHeartbeats 4000000 in
set_option maxRecDepth 100000 in
theorem greedyBy_yes (L F xs : List Int) (h : Int) (hof : orderFits L F h xs = true) (AL AF AX : Option Addr) (bl ol cl bf of' cf bx ox cx B : Nat) (w : World) (hcx : xs.length ≤ cx) (hB : B ≤ w.heap.size) (hl : IntsR w B bl ol AL L) (hf : IntsR w B bf of' AF F) (hX : IntsR w B bx ox AX xs) :
    Calls Try.prog 37 #[.agg #[.slice AL L.length cl, .slice AF F.length cf], .int .i64 h, .slice AX xs.length cx] w fun e w' => ∃ g, e = .returned (.tuple #[.slice (some ⟨g, 0, none⟩) L.length L.length, .bool true]) ∧ w.heap.size ≤ g ∧ w'.rowIs g 3 L.length (fun j => .int .i64 ((greedyBy L F h xs).getD j 0)) ∧ Below w.heap.size w w' := by
  have hD := pj_new (t := 25) (cl := cl) (cf := cf) hB hl hf
  have hI := (hX.below (hD.bel.mono hB)).more (Nat.le_trans hB hD.bel.size)
  obtain ⟨hp, hh, ho⟩ := orderFits_iff.1 hof
  obtain ⟨h6, hle, _, _⟩ := projOk_iff.1 hp
  have hxl := ho.1
  have hx6 : xs.length ≤ 6 := by omega
  have hll : L.length ≤ 2000000 := by omega
  have hlf : F.length ≤ 2000000 := by omega
  obtain ⟨R, hR⟩ : ∃ R, greedyBy L F h xs = R := ⟨_, rfl⟩
  rw [hR]
  have Hof := hide hof
  have Hp := hide hp
  have Ho := hide ho
  have Hle := hide hle
  have Hxl := hide hxl
  have HR := hide hR
  clear hl hf hB hX hof hp ho hle hxl hR
  obtain ⟨hh1, hh3⟩ := hh
  go_enter Try.func37, Try.ntmps37
  go_upto_region 1 with fail
  generalize w.alloc (.cells #[.slice AL L.length cl, .slice AF F.length cf] 25) = W at hD hI ⊢
  have p0 := hD.c0
  have p1 := hD.c1
  go_upto_region 4 with (first
    | (go_at_call 65; go_fit (orderFits_c L F xs h AL AF AX bl ol cl bf of' cf bx ox cx _ _ hll hlf (by omega) hcx (Nat.le_refl _) hD.rl hD.rf hI); rintro e w2 ⟨rfl, hb⟩; rw [Hof.out]; replace hI := (hI.below hb).more hb.size; replace hD := hD.below hb; clear p0 p1; have p0 := hD.c0; have p1 := hD.c1)
    | (go_at_call 66; go_fit (none_c L F AL AF bl ol cl bf of' cf _ _ (by omega) (Nat.le_refl _) hD.rl hD.rf); rintro e w3 ⟨g, rfl, hg, hrow, hb⟩; have hgw : w.heap.size ≤ g := Nat.le_trans hD.bel.size hg))
  clear p0 p1
  have hrow0 : w3.rowIs g 3 L.length (fun j => .int .i64 ((noneB L.length).getD j 0)) := hrow
  clear hrow
  go_wp2_with fail
  go_loopg [9] 121 (fun gh s wr => ∃ (T : Nat) (b : List Int), T ≤ 121 ∧ gh = 121 - T ∧ s = .int .i64 T ∧ wr.rowIs g 3 L.length (fun j => .int .i64 (b.getD j 0)) ∧ Below w2.heap.size w2 wr ∧ Hid (greedyTo L F h xs T = b))
  case atStart => exact ⟨0, noneB L.length, Nat.zero_le _, rfl, rfl, hrow0, hb, rfl⟩
  case round =>
    clear hrow0 hb
    obtain ⟨T, b, hT, rfl, rfl, hrow, hW, HM⟩ := hrel
    have hG2 := gr2_to (F := F) Hp.out (show 0 ≤ h by omega) Ho.out T
    rw [HM.out] at hG2
    have Hbl := hide hG2.gr.len
    by_cases hmem : (-1 : Int) ∈ b
    · have hTlt : T < 121 := by
        rcases Nat.lt_or_ge T 121 with h' | h'
        · exact h'
        · obtain ⟨i, hi, e⟩ := not_all Hbl.out hmem
          have := gr_all (F := F) Hp.out hh1 Ho.out h' hi
          rw [HM.out] at this
          omega
      have hG := gr2_gr hG2
      have hcall := contains_c b (-1) (some ⟨g, 0, none⟩) g 0 L.length _ wr (by have := Hbl.out; omega) (Nat.le_refl _) (row_ints hrow Hbl.out)
      rw [Hbl.out, decide_eq_true hmem] at hcall
      have Hcall := hide hcall
      obtain ⟨b', hb'⟩ : ∃ b', greedyAt L F h (T : Int) xs b = b' := ⟨_, rfl⟩
      have HM2 : Hid (greedyTo L F h xs (T + 1) = b') := by unfold Hid; rw [← hb', ← HM.out]; rfl
      have HG0 : Hid (Gr L F h (T : Int) b ∧ greedyAt L F h (T : Int) (xs.drop 0) b = b') := ⟨hG, by rw [List.drop_zero]; exact hb'⟩
      clear hcall hmem hG2 hG hb' HM
      go_wp2_with (go_at_call 75; refine Hcall.out.mono ?_; rintro e w5 ⟨rfl, rfl⟩)
      clear Hcall
      generalize w5 = wo at hrow hW ⊢
      go_loopg [27] xs.length (fun gh s wi => ∃ (j : Nat) (b : List Int), j ≤ xs.length ∧ gh = xs.length - j ∧ s = .int .i64 j ∧ wi.rowIs g 3 L.length (fun j => .int .i64 (b.getD j 0)) ∧ Below w2.heap.size w2 wi ∧ Hid (Gr L F h (T : Int) b ∧ greedyAt L F h (T : Int) (xs.drop j) b = b'))
      case atStart => exact ⟨0, b, Nat.zero_le _, rfl, rfl, hrow, hW, HG0⟩
      case round =>
        clear hrow hW HG0 Hbl
        obtain ⟨j, b, hj, rfl, rfl, hrow, hW, HS⟩ := hrel
        have Hbl := hide HS.out.1.len
        have Hbv := hide (gr_vals Hp.out HS.out.1 (by omega))
        by_cases hjlt : j < xs.length
        · have hjlt' : (j : Int) < (xs.length : Int) := by omega
          have hmem := Ho.out.2.2 (xs.getD j 0) (by rw [List.getD_eq_getElem?_getD, List.getElem?_eq_getElem hjlt]; exact List.getElem_mem _)
          obtain ⟨i, hi⟩ : ∃ i : Nat, xs.getD j 0 = (i : Int) := ⟨(xs.getD j 0).toNat, by omega⟩
          have hiL : i < L.length := by omega
          have HS2 : Hid (xs.drop j = (i : Int) :: xs.drop (j + 1)) := by
            unfold Hid
            rw [List.drop_eq_getElem_cons hjlt]
            rw [List.getD_eq_getElem?_getD, List.getElem?_eq_getElem hjlt] at hi
            rw [← hi]; rfl
          have HS3 : Hid (greedyAt L F h (T : Int) (xs.drop (j + 1)) (greedy1 L F h (T : Int) b (i : Int)) = b') := by
            unfold Hid
            have := HS.out.2
            rw [HS2.out] at this
            exact this
          obtain rfl := hI.addr (by omega)
          have hIi := hI.below hW
          have x0 := hIi.cell j hjlt
          rw [hi] at x0
          have hDi := hD.below hW
          have hiz : (i : Int) < (L.length : Int) := by omega
          have p0 := hDi.c0
          have p1 := hDi.c1
          have he2 := gr_erl Hp.out HS.out.1 (by omega) (by omega) hiL
          have hstay : Hid (¬ (b.getD i 0 = -1 ∧ frOk F b i i = true ∧ erl L F b i i ≤ (T : Int) ∧ (busyN L b (T : Int) : Int) < h) → Gr L F h (T : Int) b ∧ greedyAt L F h (T : Int) (xs.drop (j + 1)) b = b') := fun hn => by
            have := HS3.out
            rw [greedy1_not hn] at this
            exact ⟨HS.out.1, this⟩
          have hgo : Hid (b.getD i 0 = -1 → frOk F b i i = true → erl L F b i i ≤ (T : Int) → (busyN L b (T : Int) : Int) < h → Gr L F h (T : Int) (b.set i (T : Int)) ∧ greedyAt L F h (T : Int) (xs.drop (j + 1)) (b.set i (T : Int)) = b') := fun h1 h2 h3 h4 => by
            have hh := HS3.out
            have hg := (gr_one Hp.out (show (0 : Int) ≤ (T : Int) by omega) HS.out.1 (i : Int) ⟨by omega, hiz⟩).1
            rw [greedy1_yes h1 h2 h3 h4] at hh hg
            exact ⟨hg, hh⟩
          clear hi hIi hmem HS HS3
          go_upto_region 11 with (go_at_call 67; have hcall := from_c L F b i hiL Hp.out Hbl.out (fun j hj => (Hbv.out j hj).2) AL AF (some ⟨g, 0, none⟩) bl ol cl bf of' cf g 0 L.length _ wr (Nat.le_refl _) hDi.rl hDi.rf (row_ints hrow Hbl.out); rw [Hbl.out] at hcall; refine hcall.mono ?_; clear hcall; rintro e w5 ⟨rfl, hb5⟩)
          have hrow5 := rowIs_below hrow hb5 hrow.lt
          have hW5 := hW.trans (hb5.mono hW.size)
          have hD5 := hD.below hW5
          have y0 := hrow5.cell hiL
          clear hrow hW x0 p0 p1 hDi hb5
          obtain ⟨y, hy⟩ : ∃ y, b.getD i 0 = y := ⟨_, rfl⟩
          obtain ⟨fr, hfr⟩ : ∃ fr, frOk F b i i = fr := ⟨_, rfl⟩
          obtain ⟨t0, ht0⟩ : ∃ t0, erl L F b i i = t0 := ⟨_, rfl⟩
          obtain ⟨m, hm⟩ : ∃ m, busyN L b (T : Int) = m := ⟨_, rfl⟩
          rw [hy] at y0
          rw [hfr, ht0]
          rw [ht0] at he2
          rw [hy, hfr, ht0, hm] at hstay hgo
          have Hm := hide hm
          obtain ⟨he0, he1⟩ := he2
          clear hy hfr ht0 hm
          by_cases hy1 : y = -1
          · subst hy1
            cases fr
            · have HN := hide (hstay.out (fun hh => by cases hh.2.1))
              clear hstay hgo
              go_wp2_with fail
              go_roundg (xs.length - (j + 1))
              case measure => go_light; omega
              case rel => go_light; exact ⟨j + 1, b, by omega, rfl, by go_num, hrow5, hW5, HN⟩
            · by_cases hle3 : t0 ≤ (T : Int)
              · have p0 := hD5.c0
                have p1 := hD5.c1
                by_cases hbu : (m : Int) < h
                · have HN := hide (hgo.out rfl rfl hle3 hbu)
                  clear hstay hgo
                  go_upto_region 12 with (go_at_call 72; have hcall := busyX_c L F b (T : Int) Hbl.out Hbv.out AL AF (some ⟨g, 0, none⟩) bl ol cl bf of' cf g 0 L.length _ w5 hll (Nat.le_refl _) hD5.rl hD5.rf (row_ints hrow5 Hbl.out); rw [Hbl.out, Hm.out] at hcall; refine hcall.mono ?_; clear hcall; rintro e w7 ⟨rfl, hb7⟩)
                  have hrow7 := rowIs_below hrow5 hb7 hrow5.lt
                  have hW7 := hW5.trans (hb7.mono hW5.size)
                  have yf := hrow7.frozen i
                  replace y0 := hrow7.cell hiL
                  have hset := row_set (v := (T : Int)) hrow7 (show i < b.length by rw [Hbl.out]; exact hiL)
                  have hW8 := hW7.setCell (p := ⟨g, i, none⟩) hg (.int .i64 (T : Int))
                  have Hset := hide hset
                  clear hset hrow5 hW5 p0 p1 hD5 hb7
                  go_wp2_with fail
                  go_roundg (xs.length - (j + 1))
                  case measure => go_light; omega
                  case rel => go_light; exact ⟨j + 1, b.set i (T : Int), by omega, rfl, by go_num, Hset.out, hW8, HN⟩
                · have HN := hide (hstay.out (fun hh => hbu hh.2.2.2))
                  clear hstay hgo
                  go_wp2_with (go_at_call 72; have hcall := busyX_c L F b (T : Int) Hbl.out Hbv.out AL AF (some ⟨g, 0, none⟩) bl ol cl bf of' cf g 0 L.length _ w5 hll (Nat.le_refl _) hD5.rl hD5.rf (row_ints hrow5 Hbl.out); rw [Hbl.out, Hm.out] at hcall; refine hcall.mono ?_; clear hcall; rintro e w7 ⟨rfl, hb7⟩)
                  have hrow7 := rowIs_below hrow5 hb7 hrow5.lt
                  have hW7 := hW5.trans (hb7.mono hW5.size)
                  clear hrow5 hW5 p0 p1 hD5 hb7 y0
                  go_roundg (xs.length - (j + 1))
                  case measure => go_light; omega
                  case rel => go_light; exact ⟨j + 1, b, by omega, rfl, by go_num, hrow7, hW7, HN⟩
              · have HN := hide (hstay.out (fun hh => hle3 hh.2.2.1))
                clear hstay hgo
                go_wp2_with fail
                go_roundg (xs.length - (j + 1))
                case measure => go_light; omega
                case rel => go_light; exact ⟨j + 1, b, by omega, rfl, by go_num, hrow5, hW5, HN⟩
          · have HN := hide (hstay.out (fun hh => hy1 hh.1))
            have hne : (y == -1) = false := by simpa using hy1
            clear hstay hgo
            cases fr
            all_goals
              go_wp2_with fail
              go_roundg (xs.length - (j + 1))
              case measure => go_light; omega
              case rel => go_light; exact ⟨j + 1, b, by omega, rfl, by go_num, hrow5, hW5, HN⟩
        · have hbb : b = b' := by
            rw [← HS.out.2, List.drop_of_length_le (by omega)]; rfl
          subst hbb
          have hjlt' : ¬ (j : Int) < (xs.length : Int) := by omega
          go_wp2_with fail
          go_roundg (121 - (T + 1))
          case measure => go_light; omega
          case rel => go_light; exact ⟨T + 1, b, by omega, rfl, by go_num, hrow, hW, HM2⟩
    · have hbR : b = R := by
        rw [← HR.out, ← HM.out]
        refine greedy_same Hp.out hh1 Ho.out hT (fun i hi => ?_)
        have h1 := hG2.gr.val i (by rw [hG2.gr.len]; exact hi)
        have h2 := all_not Hbl.out hmem hi
        rw [HM.out]
        omega
      have hcall := contains_c b (-1) (some ⟨g, 0, none⟩) g 0 L.length _ wr (by have := Hbl.out; omega) (Nat.le_refl _) (row_ints hrow Hbl.out)
      rw [Hbl.out, decide_eq_false hmem] at hcall
      have Hcall := hide hcall
      clear hcall hmem hG2 HM Hbl
      subst hbR
      have hbw := hD.bel.trans (hW.mono hD.bel.size)
      go_wp2_with (go_at_call 75; refine Hcall.out.mono ?_; rintro e w5 ⟨rfl, rfl⟩)
      refine bodyPost_ret (v := .tuple #[.slice (some ⟨g, 0, none⟩) L.length L.length, .bool true]) (by simp [results, Try.results37, go_sem]) rfl ?_
      exact ⟨g, rfl, hgw, hrow, hbw⟩

set_option maxHeartbeats 1000000 in
set_option maxRecDepth 100000 in
theorem greedyBy_no (L F xs : List Int) (h : Int) (hof : orderFits L F h xs = false) (AL AF AX : Option Addr) (bl ol cl bf of' cf bx ox cx B : Nat) (w : World) (hll : L.length ≤ 2000000) (hlf : F.length ≤ 2000000) (hlx : xs.length ≤ 2000000) (hcx : xs.length ≤ cx) (hB : B ≤ w.heap.size) (hl : IntsR w B bl ol AL L) (hf : IntsR w B bf of' AF F) (hX : IntsR w B bx ox AX xs) :
    Calls Try.prog 37 #[.agg #[.slice AL L.length cl, .slice AF F.length cf], .int .i64 h, .slice AX xs.length cx] w fun e w' => e = .returned (.tuple #[.slice none 0 0, .bool false]) ∧ Below w.heap.size w w' := by
  have hD := pj_new (t := 25) (cl := cl) (cf := cf) hB hl hf
  have hI := (hX.below (hD.bel.mono hB)).more (Nat.le_trans hB hD.bel.size)
  have Hof := hide hof
  clear hl hf hB hX hof
  go_enter Try.func37, Try.ntmps37
  go_upto_region 1 with fail
  generalize w.alloc (.cells #[.slice AL L.length cl, .slice AF F.length cf] 25) = W at hD hI ⊢
  have p0 := hD.c0
  have p1 := hD.c1
  go_wp2_with (go_at_call 65; go_fit (orderFits_c L F xs h AL AF AX bl ol cl bf of' cf bx ox cx _ _ hll hlf hlx hcx (Nat.le_refl _) hD.rl hD.rf hI); rintro e w2 ⟨rfl, hb⟩; rw [Hof.out]; replace hD := hD.below hb; clear p0 p1; have p0 := hD.c0; have p1 := hD.c1)
  refine bodyPost_ret (v := .tuple #[.slice none 0 0, .bool false]) (by simp [results, Try.results37, go_sem]) rfl ?_
  exact ⟨rfl, hD.bel⟩
end Go.Proofs.Ytmgikoaeomieeaa
