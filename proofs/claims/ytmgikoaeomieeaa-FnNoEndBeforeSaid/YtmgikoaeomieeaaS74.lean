/-
  spec: begins by an order.
-/
import Derived.Test.YtmgikoaeomieeaaS73
import Derived.Test.YtmgikoaeomieeaaL11a
namespace Go.Proofs.Ytmgikoaeomieeaa
set_option linter.unusedVariables false
set_option linter.unusedSimpArgs false
open Go.RowKit Pp

theorem own_put {base : Nat} {w : World} {g c n i : Nat} {b : List Int} (v : Int) (hl : b.length = n) (h : OwnI base w (.slice (some ⟨g, 0, none⟩) n c) b) (hi : i < n) :
    OwnI base (w.setCell ⟨g, i, none⟩ (.int .i64 v)) (.slice (some ⟨g, 0, none⟩) n c) (b.set i v) ∧ w.cell? ⟨g, i, none⟩ = some (.int .i64 (b.getD i 0)) ∧ w.frozen? ⟨g, i, none⟩ = false := by
  subst hl
  have := own_setI v h hi
  rw [List.length_set] at this
  exact this
theorem own_ints {base : Nat} {w : World} {A : Option Addr} {c n : Nat} {b : List Int} (hl : b.length = n) (h : OwnI base w (.slice A n c) b) : ∃ g, IntsR w w.heap.size g 0 A b ∧ (0 < n → base ≤ g) := by
  subst hl
  obtain ⟨g, hr⟩ := own_IntsR h
  refine ⟨g, hr, fun hx => ?_⟩
  obtain rfl := hr.addr hx
  exact (h.lt g rfl).1
theorem noneB_succ (k : Nat) : noneB (k + 1) = noneB k ++ [-1] := by unfold noneB; rw [List.replicate_succ']
theorem noneB_len (k : Nat) : (noneB k).length = k := by simp [noneB]
theorem neg_one {L F : List Int} {h : Int} {m : Nat} {b : List Int} (hM : Made L F h m b) {i : Nat} (hi : i < L.length) : decide (b.getD i 0 < 0) = decide (b.getD i 0 = -1) := by
  have := hM.val i (by rw [hM.len]; exact hi)
  by_cases e : b.getD i 0 = -1
  · rw [decide_eq_true e, decide_eq_true (by omega)]
  · rw [decide_eq_false e, decide_eq_false (by omega)]

set_option maxHeartbeats 4000000 in
set_option maxRecDepth 100000 in
theorem l10Begins_q (L F xs : List Int) (h : Int) (hof : orderFits L F h xs = true) (AL AF AX : Option Addr) (bl ol cl bf of' cf bx ox cx B : Nat) (w : World) (hB : B ≤ w.heap.size) (hl : IntsR w B bl ol AL L) (hf : IntsR w B bf of' AF F) (hX : IntsR w B bx ox AX xs) :
    Calls Try.prog 70 #[.agg #[.slice AL L.length cl, .slice AF F.length cf], .int .i64 h, .slice AX xs.length cx] w fun e w' => ∃ A c, e = .returned (.slice A xs.length c) ∧ OwnI w.heap.size w' (.slice A xs.length c) (beginsBy L F h xs) ∧ Below w.heap.size w w' := by
  obtain ⟨i0, hi0, hz0, hz1, hz2⟩ := info_parts infoI
  have hD := pj_new (t := 25) (cl := cl) (cf := cf) hB hl hf
  have hI := (hX.below (hD.bel.mono hB)).more (Nat.le_trans hB hD.bel.size)
  obtain ⟨hp, hh, ho⟩ := orderFits_iff.1 hof
  obtain ⟨h6, hle, _, _⟩ := projOk_iff.1 hp
  have hxl := ho.1
  have hx6 : xs.length ≤ 6 := by omega
  have hll : L.length ≤ 2000000 := by omega
  have hlf : F.length ≤ 2000000 := by omega
  obtain ⟨R, hR⟩ : ∃ R, beginsBy L F h xs = R := ⟨_, rfl⟩
  rw [hR]
  have Hof := hide hof
  have Hp := hide hp
  have Ho := hide ho
  have Hle := hide hle
  have Hxl := hide hxl
  have HR := hide hR
  clear hl hf hB hX hof hp ho hle hxl hR
  obtain ⟨hh1, hh3⟩ := hh
  go_enter Try.func70, Try.ntmps70
  go_upto_region 1 with fail
  generalize w.alloc (.cells #[.slice AL L.length cl, .slice AF F.length cf] 25) = W at hD hI ⊢
  have hO0 : OwnI W.heap.size (W.alloc (.cells #[] 3)) (.slice (some ⟨W.heap.size, 0, none⟩) 0 0) (noneB 0) := own_empty (at_new rfl) (Nat.le_refl _)
  have hW0 : Below W.heap.size W (W.alloc (.cells #[] 3)) := by go_grown
  go_upto_region 3 with fail
  generalize W.alloc (.cells #[] 3) = W1 at hO0 hW0 ⊢
  go_loopg [7, 8] xs.length (fun gh s7 s8 wr => ∃ (k : Nat) (A : Option Addr) (c : Nat), k ≤ xs.length ∧ gh = xs.length - k ∧ s8 = .int .i64 k ∧ s7 = .slice A k c ∧ OwnI W.heap.size wr (.slice A k c) (noneB k) ∧ Below W.heap.size W wr)
  case atStart => exact ⟨0, _, _, Nat.zero_le _, rfl, rfl, rfl, hO0, hW0⟩
  case round =>
    clear hO0 hW0
    obtain ⟨k, A, c, hk, rfl, rfl, rfl, hO, hW⟩ := hrel
    by_cases hlt : k < xs.length
    · have hlt' : (k : Int) < (xs.length : Int) := by omega
      have hOa : (wr.alloc (.cells #[.int .i64 (-1)] 3)).ownsRow W.heap.size 3 1 (.slice A k c) k ((noneB k).map (Value.int .i64)) := by
        have := hO.alloc (.cells #[.int .i64 (-1)] 3)
        rw [noneB_len] at this; exact this
      have hba : Below W.heap.size W (wr.alloc (.cells #[.int .i64 (-1)] 3)) := bthen hW (by go_grown)
      have hsz := hba.size
      go_wp2_with (at_builtin; refine app_list _ rfl (.tmp 22) (.tmp 23) _ rfl W.heap.size 3 i0 _ 1 8 Try.underlying23 hi0 hz0 hz1 hz2 rfl (by omega) (.slice A k c) k ((noneB k).map (Value.int .i64)) rfl hOa (some ⟨wr.heap.size, 0, none⟩) 1 _ [.int .i64 (-1)] rfl rfl (NewsAt.block (cs := #[.int .i64 (-1)]) (at_new rfl)) (by simp [Value.oneCell']) (by omega) (by omega) hsz ?_; intro A5 c5 w5 hown5 hg5 hat5)
      have hO5 : OwnI W.heap.size w5 (.slice A5 (k + 1) c5) (noneB (k + 1)) := by unfold OwnI; rw [noneB_len, noneB_succ, List.map_append]; exact hown5
      have hW5 : Below W.heap.size W w5 := below_app hba hOa hg5 (Nat.le_refl _) hsz
      clear hown5 hg5 hat5 hOa hba hsz hO hW
      go_roundg (xs.length - (k + 1))
      case measure => go_light; omega
      case rel => go_light; exact ⟨k + 1, A5, c5, by omega, rfl, by go_num, rfl, hO5, hW5⟩
    · obtain rfl : k = xs.length := by omega
      have hlt' : ¬ (xs.length : Int) < (xs.length : Int) := by omega
      have HM0 : Hid (Made L F h 0 (noneB xs.length) ∧ runBy L F h xs (xs.length - 0) (noneB xs.length) = R) := by
        unfold Hid
        rw [Hxl.out]
        refine ⟨made_none (by omega), ?_⟩
        rw [← HR.out, ← Hxl.out]
        unfold beginsBy
        rw [Hxl.out]
        rfl
      clear hlt hk
      go_wp2_with fail
      go_loopg [9] xs.length (fun gh s wr => ∃ (m : Nat) (b : List Int), m ≤ xs.length ∧ gh = xs.length - m ∧ s = .int .i64 m ∧ OwnI W.heap.size wr (.slice A xs.length c) b ∧ Below W.heap.size W wr ∧ Hid (Made L F h m b ∧ runBy L F h xs (xs.length - m) b = R))
      case atStart => exact ⟨0, _, Nat.zero_le _, rfl, rfl, hO, hW, HM0.out⟩
      case round =>
        clear hO hW HM0 hlt'
        obtain ⟨m, b, hm, rfl, rfl, hO, hW, HM⟩ := hrel
        by_cases hlt : m < xs.length
        · have hlt' : (m : Int) < (xs.length : Int) := by omega
          have hM1 : Made L F h (m + 1) (stepBy L F h b xs) := run_made Hp.out hh1 Ho.out 1 m b HM.out.1 (by have := Hxl.out; omega)
          have hM2 : runBy L F h xs (xs.length - (m + 1)) (stepBy L F h b xs) = R := by
            have := HM.out.2
            rw [show xs.length - m = xs.length - (m + 1) + 1 by omega] at this
            exact this
          obtain ⟨b', hb'⟩ : ∃ b', stepBy L F h b xs = b' := ⟨_, rfl⟩
          rw [hb'] at hM1 hM2
          have HM2 : Hid (Made L F h (m + 1) b' ∧ runBy L F h xs (xs.length - (m + 1)) b' = R) := ⟨hM1, hM2⟩
          have Hbl := hide HM.out.1.len
          have Hbx : Hid (b.length = xs.length) := by unfold Hid; rw [Hbl.out, Hxl.out]
          have Hbv := hide (made_vals Hp.out HM.out.1 (by omega))
          have Hb' := hide hb'
          have HMa := hide HM.out.1
          clear hM1 hM2 hb' HM
          go_wp2_with fail
          generalize wr = wo at hO hW ⊢
          go_loopg [10] xs.length (fun gh s wi => ∃ j : Nat, j ≤ xs.length ∧ gh = xs.length - j ∧ s = .int .i64 j ∧ OwnI W.heap.size wi (.slice A xs.length c) b ∧ Below W.heap.size W wi ∧ Hid (stepBy L F h b (xs.drop j) = b'))
          case atStart => exact ⟨0, Nat.zero_le _, rfl, rfl, hO, hW, by rw [List.drop_zero]; exact Hb'.out⟩
          case round =>
            clear hO hW
            obtain ⟨j, hj, rfl, rfl, hO, hW, HS⟩ := hrel
            by_cases hjlt : j < xs.length
            · have hjlt' : (j : Int) < (xs.length : Int) := by omega
              have hmem := Ho.out.2.2 (xs.getD j 0) (by rw [List.getD_eq_getElem?_getD, List.getElem?_eq_getElem hjlt]; exact List.getElem_mem _)
              obtain ⟨i, hi⟩ : ∃ i : Nat, xs.getD j 0 = (i : Int) := ⟨(xs.getD j 0).toNat, by omega⟩
              have hiL : i < L.length := by omega
              have hix : i < xs.length := by have := Hxl.out; omega
              have HS2 : Hid (xs.drop j = (i : Int) :: xs.drop (j + 1)) := by
                unfold Hid
                rw [List.drop_eq_getElem_cons hjlt]
                rw [List.getD_eq_getElem?_getD, List.getElem?_eq_getElem hjlt] at hi
                rw [← hi]; rfl
              obtain rfl := hI.addr (by omega)
              have hIi := hI.below hW
              have x0 := hIi.cell j hjlt
              rw [hi] at x0
              have hDi := hD.below hW
              have hiz : (i : Int) < (xs.length : Int) := by omega
              obtain ⟨g, hg, hgW⟩ := own_ints Hbx.out hO
              obtain rfl := hg.addr (by have := Hbx.out; omega)
              obtain ⟨-, b0, -⟩ := own_put 0 Hbx.out hO hix
              have hstay : Hid (¬ (b.getD i 0 = -1 ∧ frOk F b i i = true) → stepBy L F h b (xs.drop (j + 1)) = b') := fun hn => by
                rw [← HS.out, HS2.out, stepBy_not (by simpa using hn)]
              obtain ⟨mb, hmb⟩ : ∃ mb, decide (b.getD i 0 < 0) = mb := ⟨_, rfl⟩
              have Hmb : Hid (decide (b.getD i 0 = -1) = mb) := by unfold Hid; rw [← hmb]; exact (neg_one HMa.out hiL).symm
              obtain ⟨y, hy⟩ : ∃ y, b.getD i 0 = y := ⟨_, rfl⟩
              rw [hy] at b0 hmb
              have Hy := hide hy
              clear hi hIi hmem hy
              go_wp2_with fail
              clear x0 b0 hmb
              generalize wr = wv at hO hW hg hDi ⊢
              go_loopg [12, 13, 14] i (fun gh s12 s13 s14 wi => ∃ (k : Nat) (t : Int) (q : Bool), k ≤ i ∧ gh = i - k ∧ s14 = .int .i64 k ∧ s12 = .int .i64 t ∧ s13 = .bool q ∧ (0 ≤ t ∧ t ≤ 10100) ∧ OwnI W.heap.size wi (.slice (some ⟨g, 0, none⟩) xs.length c) b ∧ Below W.heap.size W wi ∧ Hid (erl L F b i k = t ∧ (mb && frOk F b i k) = q))
              case atStart => exact ⟨0, 0, mb, Nat.zero_le _, rfl, rfl, rfl, rfl, by omega, hO, hW, ⟨rfl, by simp [frOk]⟩⟩
              case round =>
                clear hO hW hg hDi
                obtain ⟨k, t, q, hk, rfl, rfl, rfl, rfl, ht, hO, hW, HE⟩ := hrel
                have hDi := hD.below hW
                have p0 := hDi.c0
                have p1 := hDi.c1
                by_cases hki : k < i
                · have hki' : (k : Int) < (i : Int) := by omega
                  have hiF : i < F.length := by have := Hle.out; omega
                  have hiF' : (i : Int) < (F.length : Int) := by omega
                  have hkx : (k : Int) < (xs.length : Int) := by omega
                  have hkL : (k : Int) < (L.length : Int) := by omega
                  have hkx2 : k < xs.length := by omega
                  have hk0 : ¬ (k : Int) < 0 := by omega
                  have hk64 : (k : Int) < 64 := by omega
                  have hbits := proj_bits Hp.out hiF
                  obtain rfl := hDi.rf.addr (by omega)
                  obtain rfl := hDi.rl.addr (by omega)
                  have u0 := hDi.rf.cell i hiF
                  have l0 := hDi.rl.cell k (by omega)
                  obtain ⟨-, b0, -⟩ := own_put 0 Hbx.out hO hkx2
                  have hbk := Hbv.out k (by omega)
                  have HP : Hid (erl L F b i (k + 1) = (if decide (F.getD i 0 / 2 ^ k % 2 = 1) = true then max t (b.getD k 0 + L.getD k 0) else t) ∧ (mb && frOk F b i (k + 1)) = (q && (!decide (F.getD i 0 / 2 ^ k % 2 = 1) || decide (0 ≤ b.getD k 0)))) := by
                    refine ⟨?_, ?_⟩
                    · simp only [erl]; rw [HE.out.1]; rfl
                    · simp only [frOk]; rw [← Bool.and_assoc, HE.out.2]; rfl
                  generalize F.getD i 0 = u at u0 hbits HP
                  generalize b.getD k 0 = x at b0 hbk HP
                  generalize L.getD k 0 = l at l0 hbk HP
                  obtain ⟨⟨l1, l2⟩, ⟨z1, z2⟩⟩ := hbk
                  have hws : IntKind.i64.wrap (x + l) = x + l := IntWalk.i64_in _ (by omega)
                  have hd0 : 0 ≤ u / 2 ^ k := Int.ediv_nonneg hbits.1 (Int.le_of_lt (Int.pow_pos (by omega)))
                  have hd1 : u / 2 ^ k ≤ 63 := Int.le_trans (Int.ediv_le_self _ hbits.1) hbits.2
                  obtain ⟨bb, hbb⟩ : ∃ bb, u / 2 ^ k % 2 = bb := ⟨_, rfl⟩
                  rw [hbb] at HP
                  have hrem : (u / 2 ^ k).tmod 2 = bb := by rw [← hbb]; exact Int.tmod_eq_emod_of_nonneg hd0
                  by_cases ha : bb = 1
                  · subst ha
                    obtain ⟨mv, hmv⟩ : ∃ mv, max t (x + l) = mv := ⟨_, rfl⟩
                    have hm1 : (if t < x + l then x + l else t) = mv := by rw [← hmv]; split <;> omega
                    have hm2 : (if x + l < t then t else x + l) = mv := by rw [← hmv]; split <;> omega
                    have hmvb : 0 ≤ mv ∧ mv ≤ 10100 := by omega
                    have HP2 : Hid (erl L F b i (k + 1) = mv ∧ (mb && frOk F b i (k + 1)) = (q && decide (0 ≤ x))) := by
                      refine ⟨?_, ?_⟩
                      · rw [HP.out.1, if_pos (by simp)]; exact hmv
                      · rw [HP.out.2]; simp
                    clear hmv HP
                    obtain ⟨q2, hq2⟩ : ∃ q2, decide (0 ≤ x) = q2 := ⟨_, rfl⟩
                    rw [hq2] at HP2
                    cases q
                    all_goals
                      go_upto_region 20 with fail
                      go_quiet (fail)
                      have hd : Below wr.heap.size wr (wr.drewN nq) := ⟨rfl, rfl, rfl, Nat.le_refl _, fun _ _ => rfl⟩
                      have hO5 := own_below hO hd
                      have hW5 := bthen hW hd
                      clear p0 p1 u0 l0 b0 hd hws hrem hbb hm1 hm2 hq2 hDi hO hW
                      go_wp2_with fail
                      go_roundg (i - (k + 1))
                      case measure => go_light; omega
                      case rel => go_light; exact ⟨k + 1, mv, _, by omega, rfl, by go_num, rfl, rfl, hmvb, hO5, hW5, ⟨HP2.out.1, by rw [HP2.out.2]; rfl⟩⟩
                  · have hab : (bb == 1) = false := by simpa using ha
                    have HP2 : Hid (erl L F b i (k + 1) = t ∧ (mb && frOk F b i (k + 1)) = q) := by
                      refine ⟨?_, ?_⟩
                      · rw [HP.out.1, if_neg (by simpa using ha)]
                      · rw [HP.out.2, decide_eq_false ha]; simp
                    clear ha HP
                    go_wp2_with fail
                    clear p0 p1 u0 l0 b0 hws hrem hbb hDi
                    go_roundg (i - (k + 1))
                    case measure => go_light; omega
                    case rel => go_light; exact ⟨k + 1, t, q, by omega, rfl, by go_num, rfl, rfl, ht, hO, hW, HP2⟩
                · obtain rfl : k = i := by omega
                  have hki' : ¬ (k : Int) < (k : Int) := by omega
                  cases q
                  · have HN : Hid (stepBy L F h b (xs.drop (j + 1)) = b') := hstay.out (fun hh => by
                      have h1 := HE.out.2
                      rw [← Hmb.out, decide_eq_true hh.1, hh.2] at h1
                      cases h1)
                    go_wp2_with fail
                    go_roundg (xs.length - (j + 1))
                    case measure => go_light; omega
                    case rel => go_light; exact ⟨j + 1, by omega, rfl, by go_num, hO, hW, HN⟩
                  · have hboth : mb = true ∧ frOk F b k k = true := by have := HE.out.2; simpa using this
                    have hb1 : b.getD k 0 = -1 := by have := Hmb.out; rw [hboth.1] at this; exact of_decide_eq_true this
                    have hfr := hboth.2
                    have he1 := HE.out.1
                    obtain ⟨T, hT⟩ : ∃ T, findT L b h k 200 t = T := ⟨_, rfl⟩
                    have hbT : Hid (b.set k T = b') := by
                      unfold Hid
                      have := HS.out
                      rw [HS2.out, stepBy_yes (by simpa using hb1) (by simpa using hfr)] at this
                      rw [← this, ← hT, ← he1]; rfl
                    have he := made_erl HMa.out hiL hfr
                    rw [he1] at he
                    have hfr20 := made_free HMa.out hh1 k
                    obtain ⟨u, hu⟩ : ∃ u : Int, 20 * (m : Int) = u := ⟨_, rfl⟩
                    have hu1 : u ≤ 120 := by omega
                    rw [hu] at he hfr20
                    obtain ⟨he0, he2⟩ := he
                    have HT := hide hT
                    have Hfu := hide hfr20
                    clear hT hu hfr20 hboth hb1 hfr he1 p0 p1 hDi HE hki hki' hk
                    go_wp2_with fail
                    generalize wr = wz at hO hW ⊢
                    go_loopg [12] (u - t).toNat (fun gh s wi => ∃ d : Nat, t + (d : Int) ≤ u ∧ gh = (u - t).toNat - d ∧ s = .int .i64 (t + (d : Int)) ∧ OwnI W.heap.size wi (.slice (some ⟨g, 0, none⟩) xs.length c) b ∧ Below W.heap.size W wi ∧ Hid (findT L b h k (200 - d) (t + (d : Int)) = T))
                    case atStart => exact ⟨0, by omega, by omega, by simp, hO, hW, by simpa using HT⟩
                    case round =>
                      clear hO hW
                      obtain ⟨d, hd, rfl, rfl, hO, hW, HF⟩ := hrel
                      have hDi := hD.below hW
                      have p0 := hDi.c0
                      have p1 := hDi.c1
                      obtain ⟨v, hv⟩ : ∃ v, t + (d : Int) = v := ⟨_, rfl⟩
                      rw [hv] at hd HF ⊢
                      have hvb : 0 ≤ v ∧ v ≤ 200 := by omega
                      have Hv2 : Hid (v + 1 = t + ((d + 1 : Nat) : Int)) := by unfold Hid; omega
                      have hvu : d < 200 := by omega
                      have htd : Hid (v = u ∨ d + 1 ≤ (u - t).toNat) := by unfold Hid; omega
                      obtain ⟨hvb0, hvb1⟩ := hvb
                      have HF3 : Hid (findT L b h k (200 - d) v = if freeAt L b h k v then v else findT L b h k (200 - (d + 1)) (v + 1)) := by
                        unfold Hid
                        rw [show 200 - d = (200 - (d + 1)) + 1 by omega]
                        rfl
                      obtain ⟨g2, hg2, -⟩ := own_ints Hbx.out hO
                      have hcall := l10Free_c L F b h v k hiL ⟨hvb0, by omega⟩ Hbl.out Hbv.out AL AF _ bl ol cl bf of' cf g2 0 c _ wr hll (Nat.le_refl _) hDi.rl hDi.rf hg2
                      rw [Hbx.out] at hcall
                      clear hv
                      cases hfa : freeAt L b h k v
                      · have hne : v ≠ u := fun e => by rw [e, Hfu.out] at hfa; cases hfa
                        have HF4 : Hid (findT L b h k (200 - (d + 1)) (t + ((d + 1 : Nat) : Int)) = T) := by
                          unfold Hid
                          rw [← Hv2.out, ← HF.out, HF3.out, hfa]; rfl
                        have hd2 : t + ((d + 1 : Nat) : Int) ≤ u := by have := Hv2.out; omega
                        rw [hfa] at hcall
                        have Hcall := hide hcall
                        have Hd2 := hide hd2
                        have Hm3 : Hid ((u - t).toNat - (d + 1) < (u - t).toNat - d) := by unfold Hid; have := htd.out; omega
                        clear hfa hne hd2 hcall
                        go_wp2_with (go_at_call 91; refine Hcall.out.mono ?_; rintro e w7 ⟨rfl, hb7⟩)
                        have hO7 := own_below hO hb7
                        have hW7 := bthen hW hb7
                        go_roundg ((u - t).toNat - (d + 1))
                        case measure => go_light; exact Hm3.out
                        case rel => go_light; exact ⟨d + 1, Hd2.out, rfl, by rw [← Hv2.out], hO7, hW7, HF4⟩
                      · have HTt : T = v := by rw [← HF.out, HF3.out, hfa]; rfl
                        subst HTt
                        rw [hfa] at hcall
                        have Hcall := hide hcall
                        clear hfa hcall
                        go_upto_region 24 with (go_at_call 91; refine Hcall.out.mono ?_; rintro e w7 ⟨rfl, hb7⟩)
                        have hO7 := own_below hO hb7
                        have hW7 := bthen hW hb7
                        obtain ⟨hset, y0, yf⟩ := own_put T Hbx.out hO7 hix
                        rw [hbT.out] at hset
                        have hW8 := hW7.setCell (p := ⟨g, k, none⟩) (hgW (by omega)) (.int .i64 T)
                        have Hset := hide hset
                        clear hset hO hW p0 p1 hDi hb7
                        go_wp2_with fail
                        go_roundg (xs.length - (m + 1))
                        case measure => go_light; omega
                        case rel => go_light; exact ⟨m + 1, b', by omega, rfl, by go_num, Hset.out, hW8, HM2⟩
            · have hbb : b = b' := by
                rw [← HS.out, List.drop_of_length_le (by omega)]; rfl
              subst hbb
              have hjlt' : ¬ (j : Int) < (xs.length : Int) := by omega
              go_wp2_with fail
              go_roundg (xs.length - (m + 1))
              case measure => go_light; omega
              case rel => go_light; exact ⟨m + 1, b, by omega, rfl, by go_num, hO, hW, HM2⟩
        · have hbR : b = R := by
            have := HM.out.2
            rw [show xs.length - m = 0 by omega] at this
            exact this
          subst hbR
          have hlt' : ¬ (m : Int) < (xs.length : Int) := by omega
          have hbw := hD.bel.trans (hW.mono hD.bel.size)
          have hO5 := own_less hO hD.bel.size
          go_wp2_with fail
          go_ret
          exact ⟨A, c, rfl, hO5, hbw⟩
end Go.Proofs.Ytmgikoaeomieeaa
