/-
  impl: begins by an order.
-/
import Derived.Test.YtmgikoaeomieeaaL66
namespace Go.Proofs.Ytmgikoaeomieeaa
set_option linter.unusedVariables false
set_option linter.unusedSimpArgs false
open Go.RowKit Pp

theorem row_set {w : World} {g n i : Nat} {b : List Int} {v : Int} (h : w.rowIs g 3 n (fun j => .int .i64 (b.getD j 0))) (hi : i < b.length) : (w.setCell ⟨g, i, none⟩ (.int .i64 v)).rowIs g 3 n (fun j => .int .i64 ((b.set i v).getD j 0)) :=
  (h.set i (.int .i64 v)).congr (fun j _ => by
    rw [getD_set hi]
    by_cases e : j = i
    · rw [if_pos e, if_pos e]
    · rw [if_neg e, if_neg e])
theorem made_vals {L F : List Int} {h : Int} {m : Nat} {b : List Int} (hp : projOk L F = true) (hM : Made L F h m b) (hm : m ≤ 6) : ∀ j, j < L.length → (0 ≤ L.getD j 0 ∧ L.getD j 0 ≤ 100) ∧ (-1 ≤ b.getD j 0 ∧ b.getD j 0 ≤ 10000) := fun j hj => by
  have h1 := long_at hp hj
  have h2 := hM.val j (by rw [hM.len]; exact hj)
  omega
theorem made_free {L F : List Int} {h : Int} {m : Nat} {b : List Int} (hM : Made L F h m b) (h1 : 1 ≤ h) (i : Nat) : freeAt L b h i (20 * (m : Int)) = true := freeN_iff.2 (fun k _ => hM.late h1 k)
theorem made_erl {L F : List Int} {h : Int} {m : Nat} {b : List Int} (hM : Made L F h m b) {i : Nat} (hi : i < L.length) (hf : frOk F b i i = true) : 0 ≤ erl L F b i i ∧ erl L F b i i ≤ 20 * (m : Int) := by
  refine ⟨erl_nonneg _ _ _ _ _, erl_le (by omega) (fun k hk ha => ?_)⟩
  have h1 := frOk_iff.1 hf k hk ha
  have h2 := hM.val k (by rw [hM.len]; omega)
  omega
theorem stepBy_yes {L F : List Int} {h : Int} {b : List Int} {v : Int} {os : List Int} (h1 : b.getD v.toNat 0 = -1) (h2 : frOk F b v.toNat v.toNat = true) : stepBy L F h b (v :: os) = b.set v.toNat (findT L b h v.toNat 200 (erl L F b v.toNat v.toNat)) := by
  simp only [stepBy]
  rw [if_pos ⟨h1, h2⟩]
theorem stepBy_not {L F : List Int} {h : Int} {b : List Int} {v : Int} {os : List Int} (h1 : ¬ (b.getD v.toNat 0 = -1 ∧ frOk F b v.toNat v.toNat = true)) : stepBy L F h b (v :: os) = stepBy L F h b os := by
  simp only [stepBy]
  rw [if_neg h1]

set_option maxHeartbeats 4000000 in
set_option maxRecDepth 100000 in
theorem beginsBy_yes (L F xs : List Int) (h : Int) (hof : orderFits L F h xs = true) (AL AF AX : Option Addr) (bl ol cl bf of' cf bx ox cx B : Nat) (w : World) (hcx : xs.length ≤ cx) (hB : B ≤ w.heap.size) (hl : IntsR w B bl ol AL L) (hf : IntsR w B bf of' AF F) (hX : IntsR w B bx ox AX xs) :
    Calls Try.prog 29 #[.agg #[.slice AL L.length cl, .slice AF F.length cf], .int .i64 h, .slice AX xs.length cx] w fun e w' => ∃ g, e = .returned (.tuple #[.slice (some ⟨g, 0, none⟩) L.length L.length, .bool true]) ∧ w.heap.size ≤ g ∧ w'.rowIs g 3 L.length (fun j => .int .i64 ((beginsBy L F h xs).getD j 0)) ∧ Below w.heap.size w w' := by
  have hD := pj_new (t := 25) (cl := cl) (cf := cf) hB hl hf
  have hI := (hX.below (hD.bel.mono hB)).more (Nat.le_trans hB hD.bel.size)
  obtain ⟨hp, hh, ho⟩ := orderFits_iff.1 hof
  obtain ⟨h6, hle, _, _⟩ := projOk_iff.1 hp
  have hxl := ho.1
  have hx6 : xs.length ≤ 6 := by omega
  have hll : L.length ≤ 2000000 := by omega
  have hlf : F.length ≤ 2000000 := by omega
  obtain ⟨R, hR⟩ : ∃ R, beginsBy L F h xs = R := ⟨_, rfl⟩
  rw [hR]
  have Hof := hide hof
  have Hp := hide hp
  have Ho := hide ho
  have Hle := hide hle
  have Hxl := hide hxl
  have HR := hide hR
  clear hl hf hB hX hof hp ho hle hxl hR
  obtain ⟨hh1, hh3⟩ := hh
  go_enter Try.func29, Try.ntmps29
  go_upto_region 1 with fail
  generalize w.alloc (.cells #[.slice AL L.length cl, .slice AF F.length cf] 25) = W at hD hI ⊢
  have p0 := hD.c0
  have p1 := hD.c1
  go_upto_region 4 with (first
    | (go_at_call 65; go_fit (orderFits_c L F xs h AL AF AX bl ol cl bf of' cf bx ox cx _ _ hll hlf (by omega) hcx (Nat.le_refl _) hD.rl hD.rf hI); rintro e w2 ⟨rfl, hb⟩; rw [Hof.out]; replace hI := (hI.below hb).more hb.size; replace hD := hD.below hb; clear p0 p1; have p0 := hD.c0; have p1 := hD.c1)
    | (go_at_call 66; go_fit (none_c L F AL AF bl ol cl bf of' cf _ _ (by omega) (Nat.le_refl _) hD.rl hD.rf); rintro e w3 ⟨g, rfl, hg, hrow, hb⟩; have hgw : w.heap.size ≤ g := Nat.le_trans hD.bel.size hg))
  clear p0 p1
  have hrow0 : w3.rowIs g 3 L.length (fun j => .int .i64 ((noneB L.length).getD j 0)) := hrow
  clear hrow
  go_wp2_with fail
  go_loopg [22] xs.length (fun gh s wr => ∃ (m : Nat) (b : List Int), m ≤ xs.length ∧ gh = xs.length - m ∧ s = .int .i64 m ∧ wr.rowIs g 3 L.length (fun j => .int .i64 (b.getD j 0)) ∧ Below w2.heap.size w2 wr ∧ Hid (Made L F h m b ∧ runBy L F h xs (xs.length - m) b = R))
  case atStart => exact ⟨0, noneB L.length, Nat.zero_le _, rfl, rfl, hrow0, hb, made_none (by omega), HR.out⟩
  case round =>
    clear hrow0 hb
    obtain ⟨m, b, hm, rfl, rfl, hrow, hW, HM⟩ := hrel
    by_cases hlt : m < xs.length
    · have hlt' : (m : Int) < (xs.length : Int) := by omega
      have hM1 : Made L F h (m + 1) (stepBy L F h b xs) := run_made Hp.out hh1 Ho.out 1 m b HM.out.1 (by have := Hxl.out; omega)
      have hM2 : runBy L F h xs (xs.length - (m + 1)) (stepBy L F h b xs) = R := by
        have := HM.out.2
        rw [show xs.length - m = xs.length - (m + 1) + 1 by omega] at this
        exact this
      obtain ⟨b', hb'⟩ : ∃ b', stepBy L F h b xs = b' := ⟨_, rfl⟩
      rw [hb'] at hM1 hM2
      have HM2 : Hid (Made L F h (m + 1) b' ∧ runBy L F h xs (xs.length - (m + 1)) b' = R) := ⟨hM1, hM2⟩
      have Hbl := hide HM.out.1.len
      have Hbv := hide (made_vals Hp.out HM.out.1 (by omega))
      have Hb' := hide hb'
      have HMa := hide HM.out.1
      clear hM1 hM2 hb' HM
      go_wp2_with fail
      generalize wr = wo at hrow hW ⊢
      go_loopg [26] xs.length (fun gh s wi => ∃ j : Nat, j ≤ xs.length ∧ gh = xs.length - j ∧ s = .int .i64 j ∧ wi.rowIs g 3 L.length (fun j => .int .i64 (b.getD j 0)) ∧ Below w2.heap.size w2 wi ∧ Hid (stepBy L F h b (xs.drop j) = b'))
      case atStart => exact ⟨0, Nat.zero_le _, rfl, rfl, hrow, hW, by rw [List.drop_zero]; exact Hb'.out⟩
      case round =>
        clear hrow hW
        obtain ⟨j, hj, rfl, rfl, hrow, hW, HS⟩ := hrel
        by_cases hjlt : j < xs.length
        · have hjlt' : (j : Int) < (xs.length : Int) := by omega
          obtain ⟨i, hi⟩ : ∃ i : Nat, xs.getD j 0 = (i : Int) := by
            have h0 := Ho.out.2.2 (xs.getD j 0) (by rw [List.getD_eq_getElem?_getD, List.getElem?_eq_getElem hjlt]; exact List.getElem_mem _)
            exact ⟨(xs.getD j 0).toNat, by omega⟩
          have hiL : i < L.length := by
            have h0 := Ho.out.2.2 (xs.getD j 0) (by rw [List.getD_eq_getElem?_getD, List.getElem?_eq_getElem hjlt]; exact List.getElem_mem _)
            omega
          have HS2 : Hid (xs.drop j = (i : Int) :: xs.drop (j + 1)) := by
            unfold Hid
            rw [List.drop_eq_getElem_cons hjlt]
            rw [List.getD_eq_getElem?_getD, List.getElem?_eq_getElem hjlt] at hi
            rw [← hi]; rfl
          obtain rfl := hI.addr (by omega)
          have hIi := hI.below hW
          have x0 := hIi.cell j hjlt
          rw [hi] at x0
          have hDi := hD.below hW
          have hiz : (i : Int) < (L.length : Int) := by omega
          have p0 := hDi.c0
          have p1 := hDi.c1
          clear hi hIi
          have hstay : Hid (¬ (b.getD i 0 = -1 ∧ frOk F b i i = true) → stepBy L F h b (xs.drop (j + 1)) = b') := fun hn => by
            rw [← HS.out, HS2.out, stepBy_not (by simpa using hn)]
          go_upto_region 10 with (go_at_call 67; have hcall := from_c L F b i hiL Hp.out Hbl.out (fun j hj => (Hbv.out j hj).2) AL AF (some ⟨g, 0, none⟩) bl ol cl bf of' cf g 0 L.length _ wr (Nat.le_refl _) hDi.rl hDi.rf (row_ints hrow Hbl.out); rw [Hbl.out] at hcall; refine hcall.mono ?_; clear hcall; rintro e w5 ⟨rfl, hb5⟩)
          have hrow5 := rowIs_below hrow hb5 hrow.lt
          have hW5 := hW.trans (hb5.mono hW.size)
          have y0 := hrow5.cell hiL
          clear hrow hW x0 p0 p1 hDi hb5
          obtain ⟨y, hy⟩ : ∃ y, b.getD i 0 = y := ⟨_, rfl⟩
          obtain ⟨fr, hfr⟩ : ∃ fr, frOk F b i i = fr := ⟨_, rfl⟩
          rw [hy] at y0
          have Hy := hide hy
          have Hfr := hide hfr
          clear hy hfr
          rw [Hfr.out]
          by_cases hy1 : y = -1
          · subst hy1
            cases fr
            · have HN : Hid (stepBy L F h b (xs.drop (j + 1)) = b') := hstay.out (fun hh => by rw [Hfr.out] at hh; cases hh.2)
              go_wp2_with fail
              go_roundg (xs.length - (j + 1))
              case measure => go_light; omega
              case rel => go_light; exact ⟨j + 1, by omega, rfl, by go_num, hrow5, hW5, HN⟩
            · obtain ⟨T, hT⟩ : ∃ T, findT L b h i 200 (erl L F b i i) = T := ⟨_, rfl⟩
              have hbT : Hid (b.set i T = b') := by
                unfold Hid
                have := HS.out
                rw [HS2.out, stepBy_yes (by simpa using Hy.out) (by simpa using Hfr.out)] at this
                rw [← this, ← hT]; rfl
              have he := made_erl HMa.out hiL Hfr.out
              have hfr20 := made_free HMa.out hh1 i
              obtain ⟨t0, ht0⟩ : ∃ t0, erl L F b i i = t0 := ⟨_, rfl⟩
              rw [ht0] at he hT
              rw [if_pos rfl, ht0]
              obtain ⟨u, hu⟩ : ∃ u : Int, 20 * (m : Int) = u := ⟨_, rfl⟩
              have hu1 : u ≤ 120 := by omega
              rw [hu] at he hfr20
              obtain ⟨he0, he1⟩ := he
              have HT := hide hT
              have Hfu := hide hfr20
              clear hT ht0 hu hfr20
              go_wp2_with fail
              generalize w5 = wz at hrow5 hW5 ⊢
              go_loopg [11] (u - t0).toNat (fun gh s wi => ∃ d : Nat, t0 + (d : Int) ≤ u ∧ gh = (u - t0).toNat - d ∧ s = .int .i64 (t0 + (d : Int)) ∧ wi.rowIs g 3 L.length (fun j => .int .i64 (b.getD j 0)) ∧ Below w2.heap.size w2 wi ∧ Hid (findT L b h i (200 - d) (t0 + (d : Int)) = T))
              case atStart => exact ⟨0, by omega, rfl, by simp, hrow5, hW5, by simpa using HT⟩
              case round =>
                clear hrow5 hW5 y0
                obtain ⟨d, hd, rfl, rfl, hrow, hW, HF⟩ := hrel
                have hDi := hD.below hW
                have p0 := hDi.c0
                have p1 := hDi.c1
                obtain ⟨t, ht⟩ : ∃ t, t0 + (d : Int) = t := ⟨_, rfl⟩
                rw [ht] at hd HF ⊢
                have htb : 0 ≤ t ∧ t ≤ 200 := by omega
                have Ht2 : Hid (t + 1 = t0 + ((d + 1 : Nat) : Int)) := by unfold Hid; omega
                have htu : d < 200 := by omega
                have htd : Hid (t = u ∨ d + 1 ≤ (u - t0).toNat) := by unfold Hid; omega
                obtain ⟨htb0, htb1⟩ := htb
                have HF3 : Hid (findT L b h i (200 - d) t = if freeAt L b h i t then t else findT L b h i (200 - (d + 1)) (t + 1)) := by
                  unfold Hid
                  rw [show 200 - d = (200 - (d + 1)) + 1 by omega]
                  rfl
                clear ht
                cases hfa : freeAt L b h i t
                · have hne : t ≠ u := fun e => by rw [e, Hfu.out] at hfa; cases hfa
                  have HF4 : Hid (findT L b h i (200 - (d + 1)) (t0 + ((d + 1 : Nat) : Int)) = T) := by
                    unfold Hid
                    rw [← Ht2.out, ← HF.out, HF3.out, hfa]; rfl
                  have hd2 : t0 + ((d + 1 : Nat) : Int) ≤ u := by have := Ht2.out; omega
                  have Hd2 := hide hd2
                  have Hfa := hide hfa
                  have Hm3 : Hid ((u - t0).toNat - (d + 1) < (u - t0).toNat - d) := by unfold Hid; have := htd.out; omega
                  clear hfa hne hd2
                  go_wp2_with (go_at_call 68; have hcall := free_c L F b h t i hiL ⟨htb0, by omega⟩ Hbl.out Hbv.out AL AF (some ⟨g, 0, none⟩) bl ol cl bf of' cf g 0 L.length _ wr hll (Nat.le_refl _) hDi.rl hDi.rf (row_ints hrow Hbl.out); rw [Hbl.out, Hfa.out] at hcall; refine hcall.mono ?_; clear hcall; rintro e w7 ⟨rfl, hb7⟩)
                  have hrow7 := rowIs_below hrow hb7 hrow.lt
                  have hW7 := hW.trans (hb7.mono hW.size)
                  go_roundg ((u - t0).toNat - (d + 1))
                  case measure => go_light; exact Hm3.out
                  case rel => go_light; exact ⟨d + 1, Hd2.out, rfl, by rw [← Ht2.out], hrow7, hW7, HF4⟩
                · have HTt : T = t := by rw [← HF.out, HF3.out, hfa]; rfl
                  subst HTt
                  have Hfa := hide hfa
                  clear hfa
                  go_upto_region 13 with (go_at_call 68; have hcall := free_c L F b h T i hiL ⟨htb0, by omega⟩ Hbl.out Hbv.out AL AF (some ⟨g, 0, none⟩) bl ol cl bf of' cf g 0 L.length _ wr hll (Nat.le_refl _) hDi.rl hDi.rf (row_ints hrow Hbl.out); rw [Hbl.out, Hfa.out] at hcall; refine hcall.mono ?_; clear hcall; rintro e w7 ⟨rfl, hb7⟩)
                  have hrow7 := rowIs_below hrow hb7 hrow.lt
                  have hW7 := hW.trans (hb7.mono hW.size)
                  have y0 := hrow7.cell hiL
                  have yf := hrow7.frozen i
                  have hset := row_set (v := T) hrow7 (show i < b.length by rw [Hbl.out]; exact hiL)
                  rw [hbT.out] at hset
                  have hW8 := hW7.setCell (p := ⟨g, i, none⟩) hg (.int .i64 T)
                  have Hset := hide hset
                  clear hset hrow hW p0 p1 hDi hb7
                  go_wp2_with fail
                  go_roundg (xs.length - (m + 1))
                  case measure => go_light; omega
                  case rel => go_light; exact ⟨m + 1, b', by omega, rfl, by go_num, Hset.out, hW8, HM2⟩
          · have HN : Hid (stepBy L F h b (xs.drop (j + 1)) = b') := hstay.out (fun hh => hy1 (by rw [← Hy.out]; exact hh.1))
            have hne : (y != -1) = true := by simpa using hy1
            cases fr
            all_goals
              go_wp2_with fail
              go_roundg (xs.length - (j + 1))
              case measure => go_light; omega
              case rel => go_light; exact ⟨j + 1, by omega, rfl, by go_num, hrow5, hW5, HN⟩
        · have hbb : b = b' := by
            rw [← HS.out, List.drop_of_length_le (by omega)]; rfl
          subst hbb
          have hjlt' : ¬ (j : Int) < (xs.length : Int) := by omega
          go_wp2_with fail
          go_roundg (xs.length - (m + 1))
          case measure => go_light; omega
          case rel => go_light; exact ⟨m + 1, b, by omega, rfl, by go_num, hrow, hW, HM2⟩
    · have hbR : b = R := by
        have := HM.out.2
        rw [show xs.length - m = 0 by omega] at this
        exact this
      subst hbR
      have hlt' : ¬ (m : Int) < (xs.length : Int) := by omega
      have hbw := hD.bel.trans (hW.mono hD.bel.size)
      go_wp2_with fail
      refine bodyPost_ret (v := .tuple #[.slice (some ⟨g, 0, none⟩) L.length L.length, .bool true]) (by simp [results, Try.results29, go_sem]) rfl ?_
      exact ⟨g, rfl, hgw, hrow, hbw⟩

set_option maxHeartbeats 1000000 in
set_option maxRecDepth 100000 in
theorem beginsBy_no (L F xs : List Int) (h : Int) (hof : orderFits L F h xs = false) (AL AF AX : Option Addr) (bl ol cl bf of' cf bx ox cx B : Nat) (w : World) (hll : L.length ≤ 2000000) (hlf : F.length ≤ 2000000) (hlx : xs.length ≤ 2000000) (hcx : xs.length ≤ cx) (hB : B ≤ w.heap.size) (hl : IntsR w B bl ol AL L) (hf : IntsR w B bf of' AF F) (hX : IntsR w B bx ox AX xs) :
    Calls Try.prog 29 #[.agg #[.slice AL L.length cl, .slice AF F.length cf], .int .i64 h, .slice AX xs.length cx] w fun e w' => e = .returned (.tuple #[.slice none 0 0, .bool false]) ∧ Below w.heap.size w w' := by
  have hD := pj_new (t := 25) (cl := cl) (cf := cf) hB hl hf
  have hI := (hX.below (hD.bel.mono hB)).more (Nat.le_trans hB hD.bel.size)
  have Hof := hide hof
  clear hl hf hB hX hof
  go_enter Try.func29, Try.ntmps29
  go_upto_region 1 with fail
  generalize w.alloc (.cells #[.slice AL L.length cl, .slice AF F.length cf] 25) = W at hD hI ⊢
  have p0 := hD.c0
  have p1 := hD.c1
  go_wp2_with (go_at_call 65; go_fit (orderFits_c L F xs h AL AF AX bl ol cl bf of' cf bx ox cx _ _ hll hlf hlx hcx (Nat.le_refl _) hD.rl hD.rf hI); rintro e w2 ⟨rfl, hb⟩; rw [Hof.out]; replace hD := hD.below hb; clear p0 p1; have p0 := hD.c0; have p1 := hD.c1)
  refine bodyPost_ret (v := .tuple #[.slice none 0 0, .bool false]) (by simp [results, Try.results29, go_sem]) rfl ?_
  exact ⟨rfl, hD.bel⟩
end Go.Proofs.Ytmgikoaeomieeaa
