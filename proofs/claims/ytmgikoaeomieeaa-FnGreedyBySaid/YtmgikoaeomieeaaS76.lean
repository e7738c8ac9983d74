/-
  spec: begins as time goes on.
-/
import Derived.Test.YtmgikoaeomieeaaS75
import Derived.Test.YtmgikoaeomieeaaL70
namespace Go.Proofs.Ytmgikoaeomieeaa
set_option linter.unusedVariables false
set_option linter.unusedSimpArgs false
open Go.RowKit Pp

set_option maxHeartbeats 2000000 in
set_option maxRecDepth 100000 in
theorem sGreedyBy_no (L F xs : List Int) (h : Int) (hof : orderFits L F h xs = false) (AL AF AX : Option Addr) (bl ol cl bf of' cf bx ox cx B : Nat) (w : World) (hll : L.length ≤ 2000000) (hlf : F.length ≤ 2000000) (hlx : xs.length ≤ 2000000) (hB : B ≤ w.heap.size) (hl : IntsR w B bl ol AL L) (hf : IntsR w B bf of' AF F) (hX : IntsR w B bx ox AX xs) :
    Calls Try.prog 38 #[.agg #[.slice AL L.length cl, .slice AF F.length cf], .int .i64 h, .slice AX xs.length cx] w fun e w' => ∃ A, e = .returned (.tuple #[.slice A 0 0, .bool false]) ∧ Below w.heap.size w w' := by
  have hD := pj_new (t := 25) (cl := cl) (cf := cf) hB hl hf
  have hI := (hX.below (hD.bel.mono hB)).more (Nat.le_trans hB hD.bel.size)
  obtain ⟨r1, hr1⟩ : ∃ r1, projOk L F = r1 := ⟨_, rfl⟩
  obtain ⟨r2, hr2⟩ : ∃ r2, inB h 1 3 = r2 := ⟨_, rfl⟩
  obtain ⟨r3, hr3⟩ : ∃ r3, orderOk xs (L.length : Int) = r3 := ⟨_, rfl⟩
  have hall : (r1 && r2 && r3) = false := by rw [← hr1, ← hr2, ← hr3]; exact hof
  have H1 := hide hr1
  have H2 := hide hr2
  have H3 := hide hr3
  clear hl hf hB hX hof hr1 hr2 hr3
  cases r1
  · clear hall
    go_enter Try.func38, Try.ntmps38
    go_upto_region 1 with fail
    generalize w.alloc (.cells #[.slice AL L.length cl, .slice AF F.length cf] 25) = W at hD hI ⊢
    have p0 := hD.c0
    have p1 := hD.c1
    go_wp2_with (go_at_call 48; go_fit (sProjectOk_c L F AL AF bl ol cl bf of' cf _ _ hll hlf (Nat.le_refl _) hD.rl hD.rf); rintro e w2 ⟨rfl, hb⟩; rw [H1.out]; replace hI := (hI.below hb).more hb.size; replace hD := hD.below hb; clear p0 p1; have p0 := hD.c0; have p1 := hD.c1)
    refine bodyPost_ret (v := .tuple #[.slice (some ⟨w2.heap.size, 0, none⟩) 0 0, .bool false]) (by simp [results, Try.results38, go_sem]) rfl ?_
    exact ⟨_, rfl, hD.bel.alloc (by have := hD.bel.size; omega) _⟩
  · cases r2
    · clear hall
      go_enter Try.func38, Try.ntmps38
      go_upto_region 1 with fail
      generalize w.alloc (.cells #[.slice AL L.length cl, .slice AF F.length cf] 25) = W at hD hI ⊢
      have p0 := hD.c0
      have p1 := hD.c1
      go_wp2_with (first
        | (go_at_call 48; go_fit (sProjectOk_c L F AL AF bl ol cl bf of' cf _ _ hll hlf (Nat.le_refl _) hD.rl hD.rf); rintro e w2 ⟨rfl, hb⟩; rw [H1.out]; replace hI := (hI.below hb).more hb.size; replace hD := hD.below hb; clear p0 p1; have p0 := hD.c0; have p1 := hD.c1)
        | (go_at_call 57; go_fit (l1In_b H2.out _); rintro e w3 ⟨rfl, h3⟩; have h4 := h3.symm; subst h4; clear h3))
      refine bodyPost_ret (v := .tuple #[.slice (some ⟨w2.heap.size, 0, none⟩) 0 0, .bool false]) (by simp [results, Try.results38, go_sem]) rfl ?_
      exact ⟨_, rfl, hD.bel.alloc (by have := hD.bel.size; omega) _⟩
    · obtain rfl : r3 = false := by simpa using hall
      clear hall
      go_enter Try.func38, Try.ntmps38
      go_upto_region 1 with fail
      generalize w.alloc (.cells #[.slice AL L.length cl, .slice AF F.length cf] 25) = W at hD hI ⊢
      have p0 := hD.c0
      have p1 := hD.c1
      go_wp2_with (first
        | (go_at_call 48; go_fit (sProjectOk_c L F AL AF bl ol cl bf of' cf _ _ hll hlf (Nat.le_refl _) hD.rl hD.rf); rintro e w2 ⟨rfl, hb⟩; rw [H1.out]; replace hI := (hI.below hb).more hb.size; replace hD := hD.below hb; clear p0 p1; have p0 := hD.c0; have p1 := hD.c1)
        | (go_at_call 57; go_fit (l1In_b H2.out _); rintro e w3 ⟨rfl, h3⟩; have h4 := h3.symm; subst h4; clear h3)
        | (go_at_call 69; go_fit (sOrderOk_c xs (L.length : Int) AX bx ox cx _ _ (by omega) hlx (Nat.le_refl _) hI); rintro e w4 ⟨rfl, hb⟩; rw [H3.out]; replace hI := (hI.below hb).more hb.size; replace hD := hD.below hb; clear p0 p1; have p0 := hD.c0; have p1 := hD.c1))
      refine bodyPost_ret (v := .tuple #[.slice (some ⟨w4.heap.size, 0, none⟩) 0 0, .bool false]) (by simp [results, Try.results38, go_sem]) rfl ?_
      exact ⟨_, rfl, hD.bel.alloc (by have := hD.bel.size; omega) _⟩

/-- Whether so many of the tasks ahead of one have ended. -/
def grOk (L F b : List Int) (T : Int) (i k : Nat) : Bool := frOk F b i k && decide (erl L F b i k ≤ T)
theorem grOk_off {L F b : List Int} {T : Int} {i k : Nat} (ha : ¬ F.getD i 0 / 2 ^ k % 2 = 1) : grOk L F b T i (k + 1) = grOk L F b T i k := by
  have h : aft F i k = false := decide_eq_false ha
  have e1 : erl L F b i (k + 1) = erl L F b i k := by simp only [erl]; rw [h]; rfl
  have e2 : frOk F b i (k + 1) = frOk F b i k := by simp only [frOk]; rw [h]; simp
  unfold grOk
  rw [e1, e2]
theorem grOk_on {L F b : List Int} {T : Int} {i k : Nat} (ha : F.getD i 0 / 2 ^ k % 2 = 1) : grOk L F b T i (k + 1) = (grOk L F b T i k && (decide (0 ≤ b.getD k 0) && decide (b.getD k 0 + L.getD k 0 ≤ T))) := by
  have h : aft F i k = true := decide_eq_true ha
  have e1 : erl L F b i (k + 1) = max (erl L F b i k) (b.getD k 0 + L.getD k 0) := by simp only [erl]; rw [h, if_pos rfl]
  have e2 : frOk F b i (k + 1) = (frOk F b i k && decide (0 ≤ b.getD k 0)) := by simp only [frOk]; rw [h]; simp
  unfold grOk
  rw [e1, e2]
  generalize frOk F b i k = a
  generalize erl L F b i k = e
  generalize b.getD k 0 = x
  generalize x + L.getD k 0 = y
  have : decide (max e y ≤ T) = (decide (e ≤ T) && decide (y ≤ T)) := by
    rw [Bool.eq_iff_iff]; simp; omega
  rw [this]
  cases a <;> cases decide (e ≤ T) <;> cases decide (0 ≤ x) <;> cases decide (y ≤ T) <;> rfl

set_option maxHeartbeats 4000000 in
set_option maxRecDepth 100000 in
theorem sGreedyBy_yes (L F xs : List Int) (h : Int) (hof : orderFits L F h xs = true) (AL AF AX : Option Addr) (bl ol cl bf of' cf bx ox cx B : Nat) (w : World) (hB : B ≤ w.heap.size) (hl : IntsR w B bl ol AL L) (hf : IntsR w B bf of' AF F) (hX : IntsR w B bx ox AX xs) :
    Calls Try.prog 38 #[.agg #[.slice AL L.length cl, .slice AF F.length cf], .int .i64 h, .slice AX xs.length cx] w fun e w' => ∃ A c, e = .returned (.tuple #[.slice A xs.length c, .bool true]) ∧ OwnI w.heap.size w' (.slice A xs.length c) (greedyBy L F h xs) ∧ Below w.heap.size w w' := by
  obtain ⟨i0, hi0, hz0, hz1, hz2⟩ := info_parts infoI
  have hD := pj_new (t := 25) (cl := cl) (cf := cf) hB hl hf
  have hI := (hX.below (hD.bel.mono hB)).more (Nat.le_trans hB hD.bel.size)
  obtain ⟨hp, hh, ho⟩ := orderFits_iff.1 hof
  obtain ⟨h6, hle, _, _⟩ := projOk_iff.1 hp
  have hxl := ho.1
  have hx6 : xs.length ≤ 6 := by omega
  have hll : L.length ≤ 2000000 := by omega
  have hlf : F.length ≤ 2000000 := by omega
  obtain ⟨R, hR⟩ : ∃ R, greedyBy L F h xs = R := ⟨_, rfl⟩
  rw [hR]
  have hlx : xs.length ≤ 2000000 := by omega
  have H1 := hide hp
  have H2 := hide (inB_iff.2 hh)
  have H3 := hide (orderOk_iff.2 ⟨h6, ho⟩)
  have Hof := hide hof
  have Hp := hide hp
  have Ho := hide ho
  have Hle := hide hle
  have Hxl := hide hxl
  have HR := hide hR
  clear hl hf hB hX hof hp ho hle hxl hR
  obtain ⟨hh1, hh3⟩ := hh
  go_enter Try.func38, Try.ntmps38
  go_upto_region 1 with fail
  generalize w.alloc (.cells #[.slice AL L.length cl, .slice AF F.length cf] 25) = W at hD hI ⊢
  have p0 := hD.c0
  have p1 := hD.c1
  go_upto_region 3 with (first
    | (go_at_call 48; go_fit (sProjectOk_c L F AL AF bl ol cl bf of' cf _ _ hll hlf (Nat.le_refl _) hD.rl hD.rf); rintro e w2 ⟨rfl, hb⟩; rw [H1.out]; replace hI := (hI.below hb).more hb.size; replace hD := hD.below hb; clear p0 p1; have p0 := hD.c0; have p1 := hD.c1)
    | (go_at_call 57; go_fit (l1In_b H2.out _); rintro e w3 ⟨rfl, h3⟩; have h4 := h3.symm; subst h4; clear h3)
    | (go_at_call 69; go_fit (sOrderOk_c xs (L.length : Int) AX bx ox cx _ _ (by omega) hlx (Nat.le_refl _) hI); rintro e w4 ⟨rfl, hb⟩; rw [H3.out]; replace hI := (hI.below hb).more hb.size; replace hD := hD.below hb; clear p0 p1; have p0 := hD.c0; have p1 := hD.c1))
  clear p0 p1
  generalize w4 = W at hD hI ⊢
  have hO0 : OwnI W.heap.size (W.alloc (.cells #[] 3)) (.slice (some ⟨W.heap.size, 0, none⟩) 0 0) (noneB 0) := own_empty (at_new rfl) (Nat.le_refl _)
  have hW0 : Below W.heap.size W (W.alloc (.cells #[] 3)) := by go_grown
  go_upto_region 5 with fail
  generalize W.alloc (.cells #[] 3) = W1 at hO0 hW0 ⊢
  go_loopg [8, 9] xs.length (fun gh s7 s8 wr => ∃ (k : Nat) (A : Option Addr) (c : Nat), k ≤ xs.length ∧ gh = xs.length - k ∧ s8 = .int .i64 k ∧ s7 = .slice A k c ∧ OwnI W.heap.size wr (.slice A k c) (noneB k) ∧ Below W.heap.size W wr)
  case atStart => exact ⟨0, _, _, Nat.zero_le _, rfl, rfl, rfl, hO0, hW0⟩
  case round =>
    clear hO0 hW0
    obtain ⟨k, A, c, hk, rfl, rfl, rfl, hO, hW⟩ := hrel
    by_cases hlt : k < xs.length
    · have hlt' : (k : Int) < (xs.length : Int) := by omega
      have hOa : (wr.alloc (.cells #[.int .i64 (-1)] 3)).ownsRow W.heap.size 3 1 (.slice A k c) k ((noneB k).map (Value.int .i64)) := by
        have := hO.alloc (.cells #[.int .i64 (-1)] 3)
        rw [noneB_len] at this; exact this
      have hba : Below W.heap.size W (wr.alloc (.cells #[.int .i64 (-1)] 3)) := bthen hW (by go_grown)
      have hsz := hba.size
      go_wp2_with (at_builtin; refine app_list _ rfl (.tmp 39) (.tmp 40) _ rfl W.heap.size 3 i0 _ 1 8 Try.underlying23 hi0 hz0 hz1 hz2 rfl (by omega) (.slice A k c) k ((noneB k).map (Value.int .i64)) rfl hOa (some ⟨wr.heap.size, 0, none⟩) 1 _ [.int .i64 (-1)] rfl rfl (NewsAt.block (cs := #[.int .i64 (-1)]) (at_new rfl)) (by simp [Value.oneCell']) (by omega) (by omega) hsz ?_; intro A5 c5 w5 hown5 hg5 hat5)
      have hO5 : OwnI W.heap.size w5 (.slice A5 (k + 1) c5) (noneB (k + 1)) := by unfold OwnI; rw [noneB_len, noneB_succ, List.map_append]; exact hown5
      have hW5 : Below W.heap.size W w5 := below_app hba hOa hg5 (Nat.le_refl _) hsz
      clear hown5 hg5 hat5 hOa hba hsz hO hW
      go_roundg (xs.length - (k + 1))
      case measure => go_light; omega
      case rel => go_light; exact ⟨k + 1, A5, c5, by omega, rfl, by go_num, rfl, hO5, hW5⟩
    · obtain rfl : k = xs.length := by omega
      have hlt' : ¬ (xs.length : Int) < (xs.length : Int) := by omega
      have HM0 : Hid (greedyTo L F h xs 0 = noneB xs.length) := by unfold Hid; rw [Hxl.out]; rfl
      clear hlt hk
      go_wp2_with fail
      go_loopg [10] 121 (fun gh s wr => ∃ (T : Nat) (b : List Int), T ≤ 121 ∧ gh = 121 - T ∧ s = .int .i64 T ∧ OwnI W.heap.size wr (.slice A xs.length c) b ∧ Below W.heap.size W wr ∧ Hid (greedyTo L F h xs T = b))
      case atStart => exact ⟨0, _, Nat.zero_le _, rfl, rfl, hO, hW, HM0.out⟩
      case round =>
        clear hO hW HM0 hlt'
        obtain ⟨T, b, hT, rfl, rfl, hO, hW, HM⟩ := hrel
        have hG2 := gr2_to (F := F) Hp.out (show 0 ≤ h by omega) Ho.out T
        rw [HM.out] at hG2
        by_cases hTlt : T < 121
        · have hT' : (T : Int) ≤ 120 := by omega
          have hG := gr2_gr hG2
          obtain ⟨b', hb'⟩ : ∃ b', greedyAt L F h (T : Int) xs b = b' := ⟨_, rfl⟩
          have HM2 : Hid (greedyTo L F h xs (T + 1) = b') := by unfold Hid; rw [← hb', ← HM.out]; rfl
          have HG0 : Hid (Gr L F h (T : Int) b ∧ greedyAt L F h (T : Int) (xs.drop 0) b = b') := ⟨hG, by rw [List.drop_zero]; exact hb'⟩
          clear hG2 hG hb' HM
          go_wp2_with fail
          generalize wr = wo at hO hW ⊢
          go_loopg [11] xs.length (fun gh s wi => ∃ (j : Nat) (b : List Int), j ≤ xs.length ∧ gh = xs.length - j ∧ s = .int .i64 j ∧ OwnI W.heap.size wi (.slice A xs.length c) b ∧ Below W.heap.size W wi ∧ Hid (Gr L F h (T : Int) b ∧ greedyAt L F h (T : Int) (xs.drop j) b = b'))
          case atStart => exact ⟨0, b, Nat.zero_le _, rfl, rfl, hO, hW, HG0.out⟩
          case round =>
            clear hO hW HG0
            obtain ⟨j, b, hj, rfl, rfl, hO, hW, HS⟩ := hrel
            have Hbl := hide HS.out.1.len
            have Hbx : Hid (b.length = xs.length) := by unfold Hid; rw [Hbl.out, Hxl.out]
            have Hbv := hide (gr_vals Hp.out HS.out.1 (by omega))
            by_cases hjlt : j < xs.length
            · have hjlt' : (j : Int) < (xs.length : Int) := by omega
              have hmem := Ho.out.2.2 (xs.getD j 0) (by rw [List.getD_eq_getElem?_getD, List.getElem?_eq_getElem hjlt]; exact List.getElem_mem _)
              obtain ⟨i, hi⟩ : ∃ i : Nat, xs.getD j 0 = (i : Int) := ⟨(xs.getD j 0).toNat, by omega⟩
              have hiL : i < L.length := by omega
              have hix : i < xs.length := by have := Hxl.out; omega
              have HS2 : Hid (xs.drop j = (i : Int) :: xs.drop (j + 1)) := by
                unfold Hid
                rw [List.drop_eq_getElem_cons hjlt]
                rw [List.getD_eq_getElem?_getD, List.getElem?_eq_getElem hjlt] at hi
                rw [← hi]; rfl
              have HS3 : Hid (greedyAt L F h (T : Int) (xs.drop (j + 1)) (greedy1 L F h (T : Int) b (i : Int)) = b') := by
                unfold Hid
                have := HS.out.2
                rw [HS2.out] at this
                exact this
              obtain rfl := hI.addr (by omega)
              have hIi := hI.below hW
              have x0 := hIi.cell j hjlt
              rw [hi] at x0
              have hDi := hD.below hW
              have hiz : (i : Int) < (xs.length : Int) := by omega
              have hiLz : (i : Int) < (L.length : Int) := by omega
              obtain ⟨g, hg, hgW⟩ := own_ints Hbx.out hO
              obtain rfl := hg.addr (by have := Hbx.out; omega)
              obtain ⟨-, b0, -⟩ := own_put 0 Hbx.out hO hix
              have hval := HS.out.1.val i (by have := Hbx.out; omega)
              have hstay : Hid (¬ (b.getD i 0 = -1 ∧ frOk F b i i = true ∧ erl L F b i i ≤ (T : Int) ∧ (busyN L b (T : Int) : Int) < h) → Gr L F h (T : Int) b ∧ greedyAt L F h (T : Int) (xs.drop (j + 1)) b = b') := fun hn => by
                have := HS3.out
                rw [greedy1_not hn] at this
                exact ⟨HS.out.1, this⟩
              have hgo : Hid (b.getD i 0 = -1 → frOk F b i i = true → erl L F b i i ≤ (T : Int) → (busyN L b (T : Int) : Int) < h → Gr L F h (T : Int) (b.set i (T : Int)) ∧ greedyAt L F h (T : Int) (xs.drop (j + 1)) (b.set i (T : Int)) = b') := fun h1 h2 h3 h4 => by
                have hh := HS3.out
                have hg := (gr_one Hp.out (show (0 : Int) ≤ (T : Int) by omega) HS.out.1 (i : Int) ⟨by omega, hiLz⟩).1
                rw [greedy1_yes h1 h2 h3 h4] at hh hg
                exact ⟨hg, hh⟩
              obtain ⟨y, hy⟩ : ∃ y, b.getD i 0 = y := ⟨_, rfl⟩
              obtain ⟨M, hM⟩ : ∃ M, busyN L b (T : Int) = M := ⟨_, rfl⟩
              rw [hy] at b0 hval
              rw [hy, hM] at hstay hgo
              have HMb := hide hM
              clear hi hIi hmem hy hM HS HS3
              by_cases hyn : y < 0
              · obtain rfl : y = -1 := by omega
                have p0 := hDi.c0
                have p1 := hDi.c1
                have hcall := l10Taken_c L F b (T : Int) Hbl.out Hbv.out AL AF _ bl ol cl bf of' cf g 0 c _ wr hll (Nat.le_refl _) hDi.rl hDi.rf hg
                rw [Hbx.out, HMb.out] at hcall
                have Hcall := hide hcall
                obtain ⟨ms, hms⟩ : ∃ ms, decide ((M : Int) < h) = ms := ⟨_, rfl⟩
                have Hms : Hid (ms = ms) := rfl
                have hms2 : Hid ((-1 : Int) = -1 ∧ frOk F b i i = true ∧ erl L F b i i ≤ (T : Int) ∧ (M : Int) < h → ms = true) := fun hh => by rw [← hms]; exact decide_eq_true hh.2.2.2
                have hms3 : Hid (ms = true → (-1 : Int) = -1 ∧ (M : Int) < h) := fun hh => ⟨rfl, of_decide_eq_true (hms.trans hh)⟩
                clear hcall hg
                go_wp2_with (go_at_call 76; refine Hcall.out.mono ?_; rintro e wg ⟨rfl, hb7⟩)
                replace hO := own_below hO hb7
                replace hW := bthen hW hb7
                clear Hcall hms p0 p1 hDi hb7
                clear x0 b0
                generalize wg = wv at hO hW ⊢
                go_loopg [13, 14] i (fun gh s13 s14 wi => ∃ (k : Nat) (q : Bool), k ≤ i ∧ gh = i - k ∧ s14 = .int .i64 k ∧ s13 = .bool q ∧ OwnI W.heap.size wi (.slice (some ⟨g, 0, none⟩) xs.length c) b ∧ Below W.heap.size W wi ∧ Hid ((ms && grOk L F b (T : Int) i k) = q))
                case atStart => exact ⟨0, _, Nat.zero_le _, rfl, rfl, rfl, hO, hW, by unfold Hid; rw [show grOk L F b (T : Int) i 0 = true by simp [grOk, frOk, erl]]; rw [Bool.and_true]; first | done | exact Hms.out.symm⟩
                case round =>
                  clear hO hW
                  obtain ⟨k, q, hk, rfl, rfl, rfl, hO, hW, HE⟩ := hrel
                  have hDi := hD.below hW
                  have p0 := hDi.c0
                  have p1 := hDi.c1
                  by_cases hki : k < i
                  · have hki' : (k : Int) < (i : Int) := by omega
                    have hiF : i < F.length := by have := Hle.out; omega
                    have hiF' : (i : Int) < (F.length : Int) := by omega
                    have hkx : (k : Int) < (xs.length : Int) := by omega
                    have hkL : (k : Int) < (L.length : Int) := by omega
                    have hkx2 : k < xs.length := by omega
                    have hk0 : ¬ (k : Int) < 0 := by omega
                    have hk64 : (k : Int) < 64 := by omega
                    have hbits := proj_bits Hp.out hiF
                    obtain rfl := hDi.rf.addr (by omega)
                    obtain rfl := hDi.rl.addr (by omega)
                    have u0 := hDi.rf.cell i hiF
                    have l0 := hDi.rl.cell k (by omega)
                    obtain ⟨-, b0, -⟩ := own_put 0 Hbx.out hO hkx2
                    have hbk := Hbv.out k (by omega)
                    have HPn : Hid (¬ F.getD i 0 / 2 ^ k % 2 = 1 → (ms && grOk L F b (T : Int) i (k + 1)) = q) := fun ha => by rw [grOk_off ha]; exact HE.out
                    have HPy : Hid (F.getD i 0 / 2 ^ k % 2 = 1 → (ms && grOk L F b (T : Int) i (k + 1)) = (q && (decide (0 ≤ b.getD k 0) && decide (b.getD k 0 + L.getD k 0 ≤ (T : Int))))) := fun ha => by rw [grOk_on ha, ← Bool.and_assoc, HE.out]
                    generalize F.getD i 0 = u at u0 hbits HPn HPy
                    generalize b.getD k 0 = x at b0 hbk HPy
                    generalize L.getD k 0 = l at l0 hbk HPy
                    obtain ⟨⟨l1, l2⟩, ⟨z1, z2⟩⟩ := hbk
                    have hws : IntKind.i64.wrap (x + l) = x + l := IntWalk.i64_in _ (by omega)
                    have hd0 : 0 ≤ u / 2 ^ k := Int.ediv_nonneg hbits.1 (Int.le_of_lt (Int.pow_pos (by omega)))
                    have hd1 : u / 2 ^ k ≤ 63 := Int.le_trans (Int.ediv_le_self _ hbits.1) hbits.2
                    obtain ⟨bb, hbb⟩ : ∃ bb, u / 2 ^ k % 2 = bb := ⟨_, rfl⟩
                    rw [hbb] at HPn HPy
                    have hrem : (u / 2 ^ k).tmod 2 = bb := by rw [← hbb]; exact Int.tmod_eq_emod_of_nonneg hd0
                    by_cases ha : bb = 1
                    · subst ha
                      have HP2 := hide (HPy.out rfl)
                      clear HPn HPy
                      obtain ⟨e1, he1⟩ : ∃ e1, decide (0 ≤ x) = e1 := ⟨_, rfl⟩
                      obtain ⟨e2, he2⟩ : ∃ e2, decide (x + l ≤ (T : Int)) = e2 := ⟨_, rfl⟩
                      rw [he1, he2] at HP2
                      cases q
                      · have HP3 : Hid ((ms && grOk L F b (T : Int) i (k + 1)) = false) := HP2.out
                        clear he1 he2
                        go_upto_region 20 with fail
                        go_quiet (fail)
                        have hd : Below wr.heap.size wr (wr.drewN nq) := ⟨rfl, rfl, rfl, Nat.le_refl _, fun _ _ => rfl⟩
                        have hO5 := own_below hO hd
                        have hW5 := bthen hW hd
                        clear p0 p1 u0 l0 b0 hd hws hrem hbb hDi hO hW
                        go_wp2_with fail
                        go_roundg (i - (k + 1))
                        case measure => go_light; omega
                        case rel => go_light; exact ⟨k + 1, _, by omega, rfl, by go_num, rfl, hO5, hW5, HP3⟩
                      · cases e1
                        · have HP3 : Hid ((ms && grOk L F b (T : Int) i (k + 1)) = false) := HP2.out
                          clear he2
                          go_upto_region 20 with fail
                          go_quiet (fail)
                          have hd : Below wr.heap.size wr (wr.drewN nq) := ⟨rfl, rfl, rfl, Nat.le_refl _, fun _ _ => rfl⟩
                          have hO5 := own_below hO hd
                          have hW5 := bthen hW hd
                          clear p0 p1 u0 l0 b0 hd hws hrem hbb hDi hO hW
                          go_wp2_with fail
                          go_roundg (i - (k + 1))
                          case measure => go_light; omega
                          case rel => go_light; exact ⟨k + 1, _, by omega, rfl, by go_num, rfl, hO5, hW5, HP3⟩
                        · have hx0 : 0 ≤ x := of_decide_eq_true he1
                          have HP3 : Hid ((ms && grOk L F b (T : Int) i (k + 1)) = e2) := by unfold Hid; rw [HP2.out]; rfl
                          cases e2
                          · go_upto_region 20 with fail
                            go_quiet (fail)
                            have hd : Below wr.heap.size wr (wr.drewN nq) := ⟨rfl, rfl, rfl, Nat.le_refl _, fun _ _ => rfl⟩
                            have hO5 := own_below hO hd
                            have hW5 := bthen hW hd
                            clear p0 p1 u0 l0 b0 hd hws hrem hbb hDi hO hW
                            go_wp2_with fail
                            go_roundg (i - (k + 1))
                            case measure => go_light; omega
                            case rel => go_light; exact ⟨k + 1, _, by omega, rfl, by go_num, rfl, hO5, hW5, HP3⟩
                          · have hxl2 : x + l ≤ (T : Int) := of_decide_eq_true he2
                            go_upto_region 20 with fail
                            go_quiet (fail)
                            have hd : Below wr.heap.size wr (wr.drewN nq) := ⟨rfl, rfl, rfl, Nat.le_refl _, fun _ _ => rfl⟩
                            have hO5 := own_below hO hd
                            have hW5 := bthen hW hd
                            clear p0 p1 u0 l0 b0 hd hws hrem hbb hDi hO hW
                            go_wp2_with fail
                            go_roundg (i - (k + 1))
                            case measure => go_light; omega
                            case rel => go_light; exact ⟨k + 1, _, by omega, rfl, by go_num, rfl, hO5, hW5, HP3⟩
                    · have hab : (bb == 1) = false := by simpa using ha
                      have HP2 := hide (HPn.out ha)
                      clear ha HPn HPy
                      go_wp2_with fail
                      clear p0 p1 u0 l0 b0 hws hrem hbb hDi
                      go_roundg (i - (k + 1))
                      case measure => go_light; omega
                      case rel => go_light; exact ⟨k + 1, q, by omega, rfl, by go_num, rfl, hO, hW, HP2⟩
                  · obtain rfl : k = i := by omega
                    have hki' : ¬ (k : Int) < (k : Int) := by omega
                    cases q
                    · have HN := hide (hstay.out (fun hh => by
                        have h1 := HE.out
                        rw [hms2.out hh] at h1
                        unfold grOk at h1
                        rw [hh.2.1, decide_eq_true hh.2.2.1] at h1
                        cases h1))
                      go_wp2_with fail
                      go_roundg (xs.length - (j + 1))
                      case measure => go_light; omega
                      case rel => go_light; exact ⟨j + 1, b, by omega, rfl, by go_num, hO, hW, HN⟩
                    · have hall := HE.out
                      have h12 : ms = true ∧ grOk L F b (T : Int) k k = true := by simpa using hall
                      have h34 : frOk F b k k = true ∧ erl L F b k k ≤ (T : Int) := by
                        have := h12.2
                        unfold grOk at this
                        simpa using this
                      have h56 := hms3.out h12.1
                      have HN := hide (hgo.out h56.1 h34.1 h34.2 h56.2)
                      obtain ⟨hset, y0, yf⟩ := own_put (T : Int) Hbx.out hO hix
                      have hW8 := hW.setCell (p := ⟨g, k, none⟩) (hgW (by omega)) (.int .i64 (T : Int))
                      have Hset := hide hset
                      clear hset hall h12 h34 h56 p0 p1 hDi HE hO hW
                      go_wp2_with fail
                      go_roundg (xs.length - (j + 1))
                      case measure => go_light; omega
                      case rel => go_light; exact ⟨j + 1, b.set k (T : Int), by omega, rfl, by go_num, Hset.out, hW8, HN⟩
              · obtain ⟨ms, hms⟩ : ∃ ms, false = ms := ⟨_, rfl⟩
                have Hms : Hid (false = ms) := hms
                have hms2 : Hid (y = -1 ∧ frOk F b i i = true ∧ erl L F b i i ≤ (T : Int) ∧ (M : Int) < h → ms = true) := fun hh => by omega
                have hms3 : Hid (ms = true → y = -1 ∧ (M : Int) < h) := fun hh => by rw [← hms] at hh; cases hh
                clear hms hg hDi
                go_wp2_with fail
                clear hyn
                generalize wr = wg at hO hW ⊢
                clear x0 b0
                generalize wg = wv at hO hW ⊢
                go_loopg [13, 14] i (fun gh s13 s14 wi => ∃ (k : Nat) (q : Bool), k ≤ i ∧ gh = i - k ∧ s14 = .int .i64 k ∧ s13 = .bool q ∧ OwnI W.heap.size wi (.slice (some ⟨g, 0, none⟩) xs.length c) b ∧ Below W.heap.size W wi ∧ Hid ((ms && grOk L F b (T : Int) i k) = q))
                case atStart => exact ⟨0, _, Nat.zero_le _, rfl, rfl, rfl, hO, hW, by unfold Hid; rw [show grOk L F b (T : Int) i 0 = true by simp [grOk, frOk, erl]]; rw [Bool.and_true]; first | done | exact Hms.out.symm⟩
                case round =>
                  clear hO hW
                  obtain ⟨k, q, hk, rfl, rfl, rfl, hO, hW, HE⟩ := hrel
                  have hDi := hD.below hW
                  have p0 := hDi.c0
                  have p1 := hDi.c1
                  by_cases hki : k < i
                  · have hki' : (k : Int) < (i : Int) := by omega
                    have hiF : i < F.length := by have := Hle.out; omega
                    have hiF' : (i : Int) < (F.length : Int) := by omega
                    have hkx : (k : Int) < (xs.length : Int) := by omega
                    have hkL : (k : Int) < (L.length : Int) := by omega
                    have hkx2 : k < xs.length := by omega
                    have hk0 : ¬ (k : Int) < 0 := by omega
                    have hk64 : (k : Int) < 64 := by omega
                    have hbits := proj_bits Hp.out hiF
                    obtain rfl := hDi.rf.addr (by omega)
                    obtain rfl := hDi.rl.addr (by omega)
                    have u0 := hDi.rf.cell i hiF
                    have l0 := hDi.rl.cell k (by omega)
                    obtain ⟨-, b0, -⟩ := own_put 0 Hbx.out hO hkx2
                    have hbk := Hbv.out k (by omega)
                    have HPn : Hid (¬ F.getD i 0 / 2 ^ k % 2 = 1 → (ms && grOk L F b (T : Int) i (k + 1)) = q) := fun ha => by rw [grOk_off ha]; exact HE.out
                    have HPy : Hid (F.getD i 0 / 2 ^ k % 2 = 1 → (ms && grOk L F b (T : Int) i (k + 1)) = (q && (decide (0 ≤ b.getD k 0) && decide (b.getD k 0 + L.getD k 0 ≤ (T : Int))))) := fun ha => by rw [grOk_on ha, ← Bool.and_assoc, HE.out]
                    generalize F.getD i 0 = u at u0 hbits HPn HPy
                    generalize b.getD k 0 = x at b0 hbk HPy
                    generalize L.getD k 0 = l at l0 hbk HPy
                    obtain ⟨⟨l1, l2⟩, ⟨z1, z2⟩⟩ := hbk
                    have hws : IntKind.i64.wrap (x + l) = x + l := IntWalk.i64_in _ (by omega)
                    have hd0 : 0 ≤ u / 2 ^ k := Int.ediv_nonneg hbits.1 (Int.le_of_lt (Int.pow_pos (by omega)))
                    have hd1 : u / 2 ^ k ≤ 63 := Int.le_trans (Int.ediv_le_self _ hbits.1) hbits.2
                    obtain ⟨bb, hbb⟩ : ∃ bb, u / 2 ^ k % 2 = bb := ⟨_, rfl⟩
                    rw [hbb] at HPn HPy
                    have hrem : (u / 2 ^ k).tmod 2 = bb := by rw [← hbb]; exact Int.tmod_eq_emod_of_nonneg hd0
                    by_cases ha : bb = 1
                    · subst ha
                      have HP2 := hide (HPy.out rfl)
                      clear HPn HPy
                      obtain ⟨e1, he1⟩ : ∃ e1, decide (0 ≤ x) = e1 := ⟨_, rfl⟩
                      obtain ⟨e2, he2⟩ : ∃ e2, decide (x + l ≤ (T : Int)) = e2 := ⟨_, rfl⟩
                      rw [he1, he2] at HP2
                      cases q
                      · have HP3 : Hid ((ms && grOk L F b (T : Int) i (k + 1)) = false) := HP2.out
                        clear he1 he2
                        go_upto_region 20 with fail
                        go_quiet (fail)
                        have hd : Below wr.heap.size wr (wr.drewN nq) := ⟨rfl, rfl, rfl, Nat.le_refl _, fun _ _ => rfl⟩
                        have hO5 := own_below hO hd
                        have hW5 := bthen hW hd
                        clear p0 p1 u0 l0 b0 hd hws hrem hbb hDi hO hW
                        go_wp2_with fail
                        go_roundg (i - (k + 1))
                        case measure => go_light; omega
                        case rel => go_light; exact ⟨k + 1, _, by omega, rfl, by go_num, rfl, hO5, hW5, HP3⟩
                      · cases e1
                        · have HP3 : Hid ((ms && grOk L F b (T : Int) i (k + 1)) = false) := HP2.out
                          clear he2
                          go_upto_region 20 with fail
                          go_quiet (fail)
                          have hd : Below wr.heap.size wr (wr.drewN nq) := ⟨rfl, rfl, rfl, Nat.le_refl _, fun _ _ => rfl⟩
                          have hO5 := own_below hO hd
                          have hW5 := bthen hW hd
                          clear p0 p1 u0 l0 b0 hd hws hrem hbb hDi hO hW
                          go_wp2_with fail
                          go_roundg (i - (k + 1))
                          case measure => go_light; omega
                          case rel => go_light; exact ⟨k + 1, _, by omega, rfl, by go_num, rfl, hO5, hW5, HP3⟩
                        · have hx0 : 0 ≤ x := of_decide_eq_true he1
                          have HP3 : Hid ((ms && grOk L F b (T : Int) i (k + 1)) = e2) := by unfold Hid; rw [HP2.out]; rfl
                          cases e2
                          · go_upto_region 20 with fail
                            go_quiet (fail)
                            have hd : Below wr.heap.size wr (wr.drewN nq) := ⟨rfl, rfl, rfl, Nat.le_refl _, fun _ _ => rfl⟩
                            have hO5 := own_below hO hd
                            have hW5 := bthen hW hd
                            clear p0 p1 u0 l0 b0 hd hws hrem hbb hDi hO hW
                            go_wp2_with fail
                            go_roundg (i - (k + 1))
                            case measure => go_light; omega
                            case rel => go_light; exact ⟨k + 1, _, by omega, rfl, by go_num, rfl, hO5, hW5, HP3⟩
                          · have hxl2 : x + l ≤ (T : Int) := of_decide_eq_true he2
                            go_upto_region 20 with fail
                            go_quiet (fail)
                            have hd : Below wr.heap.size wr (wr.drewN nq) := ⟨rfl, rfl, rfl, Nat.le_refl _, fun _ _ => rfl⟩
                            have hO5 := own_below hO hd
                            have hW5 := bthen hW hd
                            clear p0 p1 u0 l0 b0 hd hws hrem hbb hDi hO hW
                            go_wp2_with fail
                            go_roundg (i - (k + 1))
                            case measure => go_light; omega
                            case rel => go_light; exact ⟨k + 1, _, by omega, rfl, by go_num, rfl, hO5, hW5, HP3⟩
                    · have hab : (bb == 1) = false := by simpa using ha
                      have HP2 := hide (HPn.out ha)
                      clear ha HPn HPy
                      go_wp2_with fail
                      clear p0 p1 u0 l0 b0 hws hrem hbb hDi
                      go_roundg (i - (k + 1))
                      case measure => go_light; omega
                      case rel => go_light; exact ⟨k + 1, q, by omega, rfl, by go_num, rfl, hO, hW, HP2⟩
                  · obtain rfl : k = i := by omega
                    have hki' : ¬ (k : Int) < (k : Int) := by omega
                    cases q
                    · have HN := hide (hstay.out (fun hh => by
                        have h1 := HE.out
                        rw [hms2.out hh] at h1
                        unfold grOk at h1
                        rw [hh.2.1, decide_eq_true hh.2.2.1] at h1
                        cases h1))
                      go_wp2_with fail
                      go_roundg (xs.length - (j + 1))
                      case measure => go_light; omega
                      case rel => go_light; exact ⟨j + 1, b, by omega, rfl, by go_num, hO, hW, HN⟩
                    · have hall := HE.out
                      have h12 : ms = true ∧ grOk L F b (T : Int) k k = true := by simpa using hall
                      have h34 : frOk F b k k = true ∧ erl L F b k k ≤ (T : Int) := by
                        have := h12.2
                        unfold grOk at this
                        simpa using this
                      have h56 := hms3.out h12.1
                      have HN := hide (hgo.out h56.1 h34.1 h34.2 h56.2)
                      obtain ⟨hset, y0, yf⟩ := own_put (T : Int) Hbx.out hO hix
                      have hW8 := hW.setCell (p := ⟨g, k, none⟩) (hgW (by omega)) (.int .i64 (T : Int))
                      have Hset := hide hset
                      clear hset hall h12 h34 h56 p0 p1 hDi HE hO hW
                      go_wp2_with fail
                      go_roundg (xs.length - (j + 1))
                      case measure => go_light; omega
                      case rel => go_light; exact ⟨j + 1, b.set k (T : Int), by omega, rfl, by go_num, Hset.out, hW8, HN⟩
            · have hbb : b = b' := by
                rw [← HS.out.2, List.drop_of_length_le (by omega)]; rfl
              subst hbb
              have hjlt' : ¬ (j : Int) < (xs.length : Int) := by omega
              go_wp2_with fail
              go_roundg (121 - (T + 1))
              case measure => go_light; omega
              case rel => go_light; exact ⟨T + 1, b, by omega, rfl, by go_num, hO, hW, HM2⟩
        · have hbR : b = R := by
            rw [← HR.out, ← HM.out, show T = 121 by omega]; rfl
          subst hbR
          have hT' : ¬ (T : Int) ≤ 120 := by omega
          have hbw := hD.bel.trans (hW.mono hD.bel.size)
          have hO5 := own_less hO hD.bel.size
          clear hG2
          go_wp2_with fail
          refine bodyPost_ret (v := .tuple #[.slice A xs.length c, .bool true]) (by simp [results, Try.results38, go_sem]) rfl ?_
          exact ⟨A, c, rfl, hO5, hbw⟩
end Go.Proofs.Ytmgikoaeomieeaa
