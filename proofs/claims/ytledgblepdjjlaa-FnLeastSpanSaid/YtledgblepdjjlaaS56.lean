/-
  spec.LeastSpan.
-/
import Derived.Test.YtledgblepdjjlaaS55
import Derived.Test.YtledgblepdjjlaaS3
namespace Go.Proofs.Ytledgblepdjjlaa
set_option linter.unusedVariables false
set_option linter.unusedSimpArgs false
open Go.RowKit Pp

theorem bestF_lt {F : List Int → Bool} {L : List Int → Int × Bool} (hl : ∀ ks, -100000 ≤ (L ks).1) (xs : List (List Int)) : -100000 ≤ bestF F L xs ∧ bestF F L xs ≤ 100000 := by
  have key : ∀ (xs : List (List Int)) (a : Int), (-100000 ≤ a ∧ a ≤ 100000) → (-100000 ≤ xs.foldl (fun a ks => min a (L ks).1) a ∧ xs.foldl (fun a ks => min a (L ks).1) a ≤ 100000) := by
    intro xs
    induction xs with
    | nil => intro a h; exact h
    | cons k t ih => intro a h; have := hl k; exact ih _ (by dsimp only; omega)
  exact key _ _ (by unfold Far; omega)
set_option maxHeartbeats 4000000 in
set_option maxRecDepth 100000 in
theorem sLeastSpan_c (n : Int) (bs : List Bd) (cs : List (List Bd)) (f t : Int) (q : Int) (r : Bool) (hq : leastSpan ⟨n, bs⟩ cs f t = (q, r)) (A A2 : Option Addr) (b o c b2 o2 c2 B : Nat) (w : World) (hn : bs.length ≤ 2000000) (hn2 : cs.length ≤ 2000000) (hn3 : ∀ l ∈ cs, l.length ≤ 2000000) (hB : B ≤ w.heap.size) (hR : BdsR w B b o A bs) (hC : ChR w B b2 o2 A2 cs) :
    Calls Try.prog 48 #[.agg #[.int .i64 n, .slice A bs.length c, .slice A2 cs.length c2], .int .i64 f, .int .i64 t] w fun e w' => e = .returned (.tuple #[.int .i64 q, .bool r]) ∧ Below w.heap.size w w' := by
  have hD := cc_new (n := n) (c := c) (c2 := c2) (t := 37) hB hR hC
  have H3 := hide hn3
  clear hR hC hB hn3
  cases hc : caseOk ⟨n, bs⟩ cs
  · have Hq : Hid (((0 : Int), false) = (q, r)) := by rw [← hq]; unfold Hid leastSpan Pp.ways; rw [hc]; rfl
    have H1 := hide hc
    clear hc hq
    go_enter Try.func48, Try.ntmps48
    go_upto_region 1 with fail
    generalize w.alloc (.cells #[.int .i64 n, .slice A bs.length c, .slice A2 cs.length c2] 37) = W at hD ⊢
    have p0 := hD.r.c0
    have p1 := hD.r.c1
    have p2 := hD.r.c2
    go_wp2_with (go_at_call 53; go_fit (sCaseOk_c n bs cs A A2 b o c b2 o2 c2 _ _ hn hn2 H3.out (Nat.le_refl _) hD.r.rd hD.r.rc); rintro e w2 ⟨rfl, hb⟩; rw [H1.out]; replace hD := hD.below hb; clear p0 p1 p2; have p0 := hD.r.c0; have p1 := hD.r.c1; have p2 := hD.r.c2)
    go_ret2
    obtain ⟨rfl, rfl⟩ : (0 : Int) = q ∧ false = r := ⟨(Prod.mk.inj Hq.out).1, (Prod.mk.inj Hq.out).2⟩
    exact ⟨rfl, hD.bel⟩
  · obtain ⟨h10, h12, h4, hlo⟩ := caseOk_iff.1 hc
    dsimp only at h12
    have hl3 : ∀ (i : Nat) (l : List Bd), cs[i]? = some l → l.length ≤ 3 := fun i l hi => (listOk_iff.1 (hlo l (List.mem_of_getElem? hi))).1.2
    obtain ⟨zs, hzs⟩ : ∃ zs, allB cs cs.length = zs := ⟨_, rfl⟩
    have hzl : zs.length ≤ 81 := by
      have h1 := allB_le (cs := cs) hl3 cs.length
      have h2 : (3 : Nat) ^ cs.length ≤ 3 ^ 4 := Nat.pow_le_pow_right (by omega) h4
      rw [← hzs]; omega
    obtain ⟨L, hL⟩ : ∃ L, (fun ks => Pp.leastOf (wayP ⟨n, bs⟩ cs ks) f t) = L := ⟨_, rfl⟩
    have hLlo : ∀ ks, -100000 ≤ (L ks).1 ∧ (L ks).1 ≤ 10000 := fun ks => by have := mostOf_abs (wayP ⟨n, bs⟩ cs ks) t f; rw [← hL]; unfold Pp.leastOf; dsimp only; omega
    obtain ⟨F, hF⟩ : ∃ F, fitsW ⟨n, bs⟩ cs = F := ⟨_, rfl⟩
    have Hq : Hid (leastW L (zs.filter F) = (q, r)) := by rw [← hq]; unfold Hid leastSpan; rw [ways_allB hc, hzs, hL, hF]
    have Hok : Hid (∀ ks ∈ zs, picksOk cs ks = true) := fun ks hk => allB_ok (by rw [hzs]; exact hk)
    have HFe : Hid (∀ ks, F ks = fits ⟨n, bs ++ picked cs ks⟩) := fun ks => by rw [← hF]; rfl
    have HLl : Hid (∀ ks, Pp.leastOf ⟨n, bs ++ picked cs ks⟩ f t = L ks) := fun ks => by rw [← hL]; rfl
    have HLlo := hide hLlo
    have H1 := hide hc
    have Hzs := hide hzs
    have HL3 := hide hl3
    clear hc hzs hl3 hlo h10 hq hL hF hLlo
    go_enter Try.func48, Try.ntmps48
    go_upto_region 1 with fail
    generalize w.alloc (.cells #[.int .i64 n, .slice A bs.length c, .slice A2 cs.length c2] 37) = W at hD ⊢
    have p0 := hD.r.c0
    have p1 := hD.r.c1
    have p2 := hD.r.c2
    go_upto_region 6 with (first
      | (go_at_call 53; go_fit (sCaseOk_c n bs cs A A2 b o c b2 o2 c2 _ _ hn hn2 H3.out (Nat.le_refl _) hD.r.rd hD.r.rc); rintro e w2 ⟨rfl, hb⟩; rw [H1.out]; replace hD := hD.below hb; clear p0 p1 p2; have p0 := hD.r.c0; have p1 := hD.r.c1; have p2 := hD.r.c2)
      | (go_at_call 98; go_fit (l7All_q n bs cs h4 HL3.out A A2 b o c b2 o2 c2 _ _ (Nat.le_refl _) hD.r.rd hD.r.rc zs Hzs.out); rintro e w4 ⟨A5, c5, g5, rfl, hKs, hb⟩; replace hD := hD.below hb; clear p0 p1 p2; have p0 := hD.r.c0; have p1 := hD.r.c1; have p2 := hD.r.c2))
    go_loopg [10, 8] zs.length (fun gh s10 s8 wr => ∃ k : Nat, k ≤ zs.length ∧ gh = zs.length - k ∧ s10 = .int .i64 k ∧ s8 = .int .i64 (bestF F L (zs.take k)) ∧ Hid (∀ ks ∈ (zs.take k).filter F, (L ks).2 = true) ∧ CC w wr w.heap.size b o n A c bs b2 o2 A2 c2 cs ∧ KsR wr wr.heap.size g5 0 A5 zs)
    case atStart => exact ⟨0, Nat.zero_le _, rfl, rfl, by simp [bestF, Far], by simp [Hid], hD, hKs⟩
    case round =>
      clear hD hKs p0 p1 p2 hb
      obtain ⟨k, hk, rfl, rfl, rfl, Hg, hD, hKs⟩ := hrel
      obtain ⟨p0, p1, p2⟩ : _ ∧ _ ∧ _ := ⟨hD.r.c0, hD.r.c1, hD.r.c2⟩
      by_cases hlt : k < zs.length
      · have hlt' : (k : Int) < (zs.length : Int) := by omega
        obtain rfl := hKs.addr (by omega)
        have hx := List.getElem?_eq_getElem hlt
        obtain ⟨A6, b6, o6, c6, r0, hrk⟩ := hKs.row _ _ hx
        simp only [Nat.zero_add] at r0
        have hpk := Hok.out _ (List.getElem_mem hlt)
        have HM : Hid (zs[k] ∈ zs) := List.getElem_mem hlt
        have HTk : Hid (zs.take (k + 1) = zs.take k ++ [zs[k]]) := List.take_succ_eq_append_getElem hlt
        have HT : Hid (bestF F L (zs.take (k + 1)) = if F zs[k] then min (bestF F L (zs.take k)) (L zs[k]).1 else bestF F L (zs.take k)) := by
          unfold Hid
          rw [List.take_succ_eq_append_getElem hlt, bestF_snoc]
        generalize zs[k] = ks at hx r0 hrk hpk HT HM HTk
        have hcl := bestF_lt (F := F) (fun ks => (HLlo.out ks).1) (zs.take k)
        obtain ⟨cn, hcn⟩ : ∃ cn, bestF F L (zs.take k) = cn := ⟨_, rfl⟩
        rw [hcn] at HT hcl ⊢
        obtain ⟨hcl1, hcl2⟩ := hcl
        clear hcn hx
        obtain ⟨rs, hrs⟩ : ∃ rs, bs ++ picked cs ks = rs := ⟨_, rfl⟩
        have hkl := (picksOk_iff.1 hpk).1
        have hlk : ks.length ≤ cs.length := by omega
        have hpl : rs.length ≤ 2000000 := by have := picked_length cs ks hlk; rw [← hrs, List.length_append]; omega
        have hfe := HFe.out ks
        have hle := HLl.out ks
        rw [hrs] at hfe hle
        have hll := HLlo.out ks
        generalize hlv : L ks = lv at hle HT hll
        have Hlv := hide hlv
        obtain ⟨l1, l2⟩ := lv
        dsimp only at HT hll
        obtain ⟨hll1, hll2⟩ := hll
        have HLe := hide hle
        have Hfe := hide hfe
        have Hpk := hide hpk
        have Hrs := hide hrs
        clear hrs hfe hpk hkl hle hlv
        have hDl := hD.r.ex
        have hgl := hKs.lt (by omega)
        go_upto_region 8 with fail
        have hdr : Below wr.heap.size wr wr.drew := by go_grown
        go_cut [11] from 19 to 45 (fun s wx => ∃ X A7 c7 g7, s = .pointer (some ⟨X, 0, none⟩) ∧ wx.cell? ⟨X, 0, none⟩ = some (.int .i64 n) ∧ wx.cell? ⟨X, 1, none⟩ = some (.slice A7 rs.length c7) ∧ BdsR wx wx.heap.size g7 0 A7 rs ∧ X < wx.heap.size ∧ Below wr.heap.size wr wx)
        case first =>
          refine wp_regionE (fun w' => w'.cell? ⟨w.heap.size, 0, none⟩ = some (.int .i64 n) ∧ w'.cell? ⟨w.heap.size, 1, none⟩ = some (.slice A bs.length c) ∧ w'.cell? ⟨w.heap.size, 2, none⟩ = some (.slice A2 cs.length c2) ∧ w'.cell? ⟨g5, k, none⟩ = some (.slice A6 ks.length c6)) 7 (by kernel_rfl) ?_
          change wpE _ _ _ _ _ _ 8 #[false, false, false, false, false, false, false, false] _ _
          have hS0 : wr.drew.cell? ⟨w.heap.size, 0, none⟩ = some (.int .i64 n) ∧ wr.drew.cell? ⟨w.heap.size, 1, none⟩ = some (.slice A bs.length c) ∧ wr.drew.cell? ⟨w.heap.size, 2, none⟩ = some (.slice A2 cs.length c2) ∧ wr.drew.cell? ⟨g5, k, none⟩ = some (.slice A6 ks.length c6) := ⟨p0, p1, p2, r0⟩
          refine wpE_take' (v := ?_) 0 [7] (of_decide_eq_true (by kernel_rfl)) (by kernel_rfl) (by kernel_rfl) (by kernel_rfl) (by kernel_rfl) (fun _ _ _ h => h) (by kernel_rfl) ?_ hS0 ?_
          rotate_left
          · intro w' hSw
            simp only [List.getElem_toArray, List.getElem_cons_succ, List.getElem_cons_zero]
            go_simp
            all_goals with_reducible rfl
          simp only [List.getElem_toArray, List.getElem_cons_succ, List.getElem_cons_zero, Act.put, List.setIfInBounds_toArray, List.set_cons_zero, List.set_cons_succ]
          refine wpE_take' (v := ?_) 1 [7] (of_decide_eq_true (by kernel_rfl)) (by kernel_rfl) (by kernel_rfl) (by kernel_rfl) (by kernel_rfl) (fun _ _ _ h => h) (by kernel_rfl) ?_ hS0 ?_
          rotate_left
          · intro w' hSw
            simp only [List.getElem_toArray, List.getElem_cons_succ, List.getElem_cons_zero]
            go_simp
            all_goals with_reducible rfl
          simp only [List.getElem_toArray, List.getElem_cons_succ, List.getElem_cons_zero, Act.put, List.setIfInBounds_toArray, List.set_cons_zero, List.set_cons_succ]
          refine wpE_take' (v := ?_) 2 [7] (of_decide_eq_true (by kernel_rfl)) (by kernel_rfl) (by kernel_rfl) (by kernel_rfl) (by kernel_rfl) (fun _ _ _ h => h) (by kernel_rfl) ?_ hS0 ?_
          rotate_left
          · intro w' hSw
            simp only [List.getElem_toArray, List.getElem_cons_succ, List.getElem_cons_zero]
            go_simp
            all_goals with_reducible rfl
          simp only [List.getElem_toArray, List.getElem_cons_succ, List.getElem_cons_zero, Act.put, List.setIfInBounds_toArray, List.set_cons_zero, List.set_cons_succ]
          refine wpE_take' (v := ?_) 3 [7] (of_decide_eq_true (by kernel_rfl)) (by kernel_rfl) (by kernel_rfl) (by kernel_rfl) (by kernel_rfl) (fun _ _ _ h => h) (by kernel_rfl) ?_ hS0 ?_
          rotate_left
          · intro w' hSw
            simp only [List.getElem_toArray, List.getElem_cons_succ, List.getElem_cons_zero]
            go_simp
            all_goals with_reducible rfl
          simp only [List.getElem_toArray, List.getElem_cons_succ, List.getElem_cons_zero, Act.put, List.setIfInBounds_toArray, List.set_cons_zero, List.set_cons_succ]
          refine wpE_take' (v := ?_) 4 [7] (of_decide_eq_true (by kernel_rfl)) (by kernel_rfl) (by kernel_rfl) (by kernel_rfl) (by kernel_rfl) (fun _ _ _ h => h) (by kernel_rfl) ?_ hS0 ?_
          rotate_left
          · intro w' hSw
            simp only [List.getElem_toArray, List.getElem_cons_succ, List.getElem_cons_zero]
            go_simp
            all_goals with_reducible rfl
          simp only [List.getElem_toArray, List.getElem_cons_succ, List.getElem_cons_zero, Act.put, List.setIfInBounds_toArray, List.set_cons_zero, List.set_cons_succ]
          refine wpE_two 5 6 (of_decide_eq_true (by kernel_rfl)) (of_decide_eq_true (by kernel_rfl)) (by kernel_rfl) (by kernel_rfl) (by kernel_rfl) (fun K hK => ?_) (fun K hK => ?_)
          · simp only [List.getElem_toArray, List.getElem_cons_succ, List.getElem_cons_zero]
            go_simp
            go_at_call 67
            go_fit (l7Way_q n bs cs ks h12 h4 hlk H3.out (picksOk_iff.1 Hpk.out).2 rs Hrs.out A A2 A6 b o c b2 o2 c2 b6 o6 c6 _ wr.drew (Nat.le_refl _) ((hD.below hdr).r.rd) ((hD.below hdr).r.rc) ((hrk.below hdr).more (hdr).size))
            rintro e w5 ⟨A7, c7, g7, rfl, hr7, own7, hb7a⟩
            have hb7 := bthen hdr hb7a
            refine hK.out _ _ (.inr ⟨((bcell hb7).1 _ _ hDl).trans p0, ((bcell hb7).1 _ _ hDl).trans p1, ((bcell hb7).1 _ _ hDl).trans p2, ((bcell hb7).1 _ _ hgl).trans r0⟩) ?_
            clear hK K
            simp only [Act.put, List.setIfInBounds_toArray, List.set_cons_zero, List.set_cons_succ]
            refine wpE_step' 6 (of_decide_eq_true (by kernel_rfl)) (by kernel_rfl) (by kernel_rfl) (fun K hK => ?_)
            simp only [List.getElem_toArray, List.getElem_cons_succ, List.getElem_cons_zero]
            go_simp
            have hal : Below w5.heap.size w5 (w5.alloc (.cells #[.int .i64 0, .slice none 0 0] 32)) := by go_grown
            have hb8 := bthen hb7 hal
            refine hK.out _ _ (.inr ⟨((bcell hb8).1 _ _ hDl).trans p0, ((bcell hb8).1 _ _ hDl).trans p1, ((bcell hb8).1 _ _ hDl).trans p2, ((bcell hb8).1 _ _ hgl).trans r0⟩) ?_
            clear hK K
            simp only [Act.put, List.setIfInBounds_toArray, List.set_cons_zero, List.set_cons_succ]
            refine wpE_step' 7 (of_decide_eq_true (by kernel_rfl)) (by kernel_rfl) (by kernel_rfl) (fun K hK => ?_)
            simp only [List.getElem_toArray, List.getElem_cons_succ, List.getElem_cons_zero]
            go_simp
            refine hK.out _ _ (.inl rfl) ?_
            clear hK K
            simp only [Act.put, List.setIfInBounds_toArray, List.set_cons_zero, List.set_cons_succ]
            refine wpE_done (by kernel_rfl) ?_ _
            go_wp2_with fail
            go_meet
            case rel =>
              have hal9 : Below w5.heap.size w5 (w5.alloc (.cells #[.int .i64 n, .slice A7 rs.length c7] 32)) := by go_grown
              exact ⟨w5.heap.size, A7, c7, g7, rfl, by simp [go_sem], by simp [go_sem], (hr7.below hal9).more hal9.size, by simp, bthen hb7 hal9⟩
          · simp only [List.getElem_toArray, List.getElem_cons_succ, List.getElem_cons_zero]
            go_simp
            have hal : Below wr.heap.size wr (wr.alloc (.cells #[.int .i64 0, .slice none 0 0] 32)).drew := by go_grown
            have hZ : ZB wr (wr.alloc (.cells #[.int .i64 0, .slice none 0 0] 32)).drew wr.heap.size := (zb_new (Nat.le_refl _)).drew
            refine hK.out _ _ (.inr ⟨((bcell hal).1 _ _ hDl).trans p0, ((bcell hal).1 _ _ hDl).trans p1, ((bcell hal).1 _ _ hDl).trans p2, ((bcell hal).1 _ _ hgl).trans r0⟩) ?_
            clear hK K
            simp only [Act.put, List.setIfInBounds_toArray, List.set_cons_zero, List.set_cons_succ]
            have HZ4 : Hid (wr.heap.size < (wr.alloc (.cells #[.int .i64 0, .slice none 0 0] 32)).drew.heap.size) := by simp [Hid]
            generalize (wr.alloc (.cells #[.int .i64 0, .slice none 0 0] 32)).drew = w4 at hal hZ HZ4 ⊢
            have hws4 := hal.size
            refine wpE_step' 5 (of_decide_eq_true (by kernel_rfl)) (by kernel_rfl) (by kernel_rfl) (fun K hK => ?_)
            simp only [List.getElem_toArray, List.getElem_cons_succ, List.getElem_cons_zero]
            go_simp
            go_at_call 67
            go_fit (l7Way_q n bs cs ks h12 h4 hlk H3.out (picksOk_iff.1 Hpk.out).2 rs Hrs.out A A2 A6 b o c b2 o2 c2 b6 o6 c6 _ w4 (Nat.le_refl _) ((hD.below hal).r.rd) ((hD.below hal).r.rc) ((hrk.below hal).more (hal).size))
            rintro e w5 ⟨A7, c7, g7, rfl, hr7, own7, hb7a⟩
            have hb7 := bthen hal hb7a
            replace hZ := hZ.below hb7a
            have z0 := hZ.z0
            have z1 := hZ.z1
            have zf0 := hZ.zf 0
            have zf1 := hZ.zf 1
            have hzx := hZ.ex
            refine hK.out _ _ (.inr ⟨((bcell hb7).1 _ _ hDl).trans p0, ((bcell hb7).1 _ _ hDl).trans p1, ((bcell hb7).1 _ _ hDl).trans p2, ((bcell hb7).1 _ _ hgl).trans r0⟩) ?_
            clear hK K
            simp only [Act.put, List.setIfInBounds_toArray, List.set_cons_zero, List.set_cons_succ]
            refine wpE_step' 7 (of_decide_eq_true (by kernel_rfl)) (by kernel_rfl) (by kernel_rfl) (fun K hK => ?_)
            simp only [List.getElem_toArray, List.getElem_cons_succ, List.getElem_cons_zero]
            go_simp
            refine hK.out _ _ (.inl rfl) ?_
            clear hK K
            simp only [Act.put, List.setIfInBounds_toArray, List.set_cons_zero, List.set_cons_succ]
            refine wpE_done (by kernel_rfl) ?_ _
            have hz4 : wr.heap.size < w4.heap.size := HZ4.out
            obtain ⟨u0, u1, uo, ub⟩ := hZ.fin (n := n) hb7 (own_less own7 hws4) (fun e => by have := (own7.lt _ e).1; omega)
            obtain ⟨g9, hr9⟩ := OwnB.readsA uo
            go_wp2_with fail
            go_meet
            case rel => exact ⟨wr.heap.size, A7, c7, g9, rfl, u0, u1, hr9, by simpa using hzx, ub⟩
        case rest =>
          obtain ⟨X, A7, c7, g7, rfl, x0, x1, hr7, hXl, hbc⟩ := hcut
          clear r0 hrk hdr
          have HFv : Hid (F ks = fits ⟨n, rs⟩) := Hfe
          cases hf : fits ⟨n, rs⟩
          · have HT2 : Hid (bestF F L (zs.take (k + 1)) = cn) := by unfold Hid; rw [HT.out, HFv.out, hf]; rfl
            have HgN : Hid (∀ ks ∈ (zs.take (k + 1)).filter F, (L ks).2 = true) := by
              intro x hx
              rw [HTk.out, List.filter_append, List.mem_append] at hx
              rcases hx with hx | hx
              · exact Hg.out x hx
              · rw [List.mem_filter, List.mem_singleton] at hx
                obtain ⟨rfl, h2⟩ := hx
                rw [HFv.out, hf] at h2; cases h2
            have Hf := hide hf
            clear hf
            go_wp2_with (go_at_call 80; go_fit (sFitsOk_c ⟨n, rs⟩ A7 g7 0 c7 _ _ hpl (Nat.le_refl _) hr7); rintro e w6 ⟨rfl, hb8⟩; rw [Hf.out]; have hb9 := bthen hbc hb8; have y0 := ((bcell hb8).1 X 0 hXl).trans x0; have y1 := ((bcell hb8).1 X 1 hXl).trans x1; have hr8 := (hr7.below hb8).more hb8.size)
            go_roundg (zs.length - (k + 1))
            case measure => go_light; omega
            case rel => go_light; exact ⟨k + 1, by omega, rfl, by go_num, by rw [HT2.out], HgN, hD.below hb9, (hKs.below hb9).more hb9.size⟩
          · have Hmem : Hid (ks ∈ zs.filter F) := List.mem_filter.2 ⟨HM.out, by rw [HFv.out, hf]⟩
            cases l2
            · have HE : Hid (((0 : Int), false) = (q, r)) := by
                rw [← Hq.out]
                exact (leastW_bad Hmem.out (by rw [Hlv.out])).symm
              have Hf := hide hf
              clear hf
              go_wp2_with (first | (go_at_call 80; go_fit (sFitsOk_c ⟨n, rs⟩ A7 g7 0 c7 _ _ hpl (Nat.le_refl _) hr7); rintro e w6 ⟨rfl, hb8⟩; rw [Hf.out]; have hb9 := bthen hbc hb8; have y0 := ((bcell hb8).1 X 0 hXl).trans x0; have y1 := ((bcell hb8).1 X 1 hXl).trans x1; have hr8 := (hr7.below hb8).more hb8.size) | (go_at_call 100; go_fit (sLeastOf_c ⟨n, rs⟩ f t A7 g7 0 c7 _ _ hpl (Nat.le_refl _) hr8); rw [HLe.out]; rintro e w9 ⟨rfl, hb10⟩; replace hb9 := bthen hb9 hb10))
              go_ret2
              obtain ⟨rfl, rfl⟩ : (0 : Int) = q ∧ false = r := ⟨(Prod.mk.inj HE.out).1, (Prod.mk.inj HE.out).2⟩
              exact ⟨rfl, (hD.below hb9).bel⟩
            · obtain ⟨mv, hmv⟩ : ∃ mv, min cn l1 = mv := ⟨_, rfl⟩
              have hmin : (if l1 < cn then l1 else cn) = mv := by rw [← hmv]; split <;> omega
              have HT2 : Hid (bestF F L (zs.take (k + 1)) = mv) := by unfold Hid; rw [HT.out, HFv.out, hf]; exact hmv
              have HgN : Hid (∀ ks ∈ (zs.take (k + 1)).filter F, (L ks).2 = true) := by
                intro x hx
                rw [HTk.out, List.filter_append, List.mem_append] at hx
                rcases hx with hx | hx
                · exact Hg.out x hx
                · rw [List.mem_filter, List.mem_singleton] at hx
                  obtain ⟨rfl, h2⟩ := hx
                  rw [Hlv.out]
              have Hf := hide hf
              clear hf hmv
              go_wp2_with (first | (go_at_call 80; go_fit (sFitsOk_c ⟨n, rs⟩ A7 g7 0 c7 _ _ hpl (Nat.le_refl _) hr7); rintro e w6 ⟨rfl, hb8⟩; rw [Hf.out]; have hb9 := bthen hbc hb8; have y0 := ((bcell hb8).1 X 0 hXl).trans x0; have y1 := ((bcell hb8).1 X 1 hXl).trans x1; have hr8 := (hr7.below hb8).more hb8.size) | (go_at_call 100; go_fit (sLeastOf_c ⟨n, rs⟩ f t A7 g7 0 c7 _ _ hpl (Nat.le_refl _) hr8); rw [HLe.out]; rintro e w9 ⟨rfl, hb10⟩; replace hb9 := bthen hb9 hb10))
              go_roundg (zs.length - (k + 1))
              case measure => go_light; omega
              case rel => go_light; exact ⟨k + 1, by omega, rfl, by go_num, by rw [HT2.out], HgN, hD.below hb9, (hKs.below hb9).more hb9.size⟩
      · obtain rfl : k = zs.length := by omega
        have hE : leastW L (zs.filter F) = (if bestF F L zs = Far then (0, false) else (bestF F L zs, true)) := by
          have h := Hg.out
          rw [List.take_length] at h
          rw [leastW_good h, spanW_best L (fun ks => by have := (HLlo.out ks).2; unfold Far; omega)]
          rfl
        rw [Hq.out] at hE
        have HE := hide hE
        clear hE
        have Ht : Hid (bestF F L (zs.take zs.length) = bestF F L zs) := by rw [List.take_length]; rfl
        rw [Ht.out]
        obtain ⟨m, hm⟩ : ∃ m, bestF F L zs = m := ⟨_, rfl⟩
        rw [hm] at HE ⊢
        clear hm
        by_cases hfar : m = 100000
        · have hb1 : (m == 100000) = true := by simp [hfar]
          have HE2 : Hid (((0 : Int), false) = (q, r)) := by unfold Hid; rw [HE.out, if_pos (by unfold Far; exact hfar)]
          clear hfar
          go_wp2_with fail
          go_ret2
          obtain ⟨rfl, rfl⟩ : (0 : Int) = q ∧ false = r := ⟨(Prod.mk.inj HE2.out).1, (Prod.mk.inj HE2.out).2⟩
          exact ⟨rfl, hD.bel⟩
        · have hb1 : (m == 100000) = false := by simp [hfar]
          have HE2 : Hid ((m, true) = (q, r)) := by unfold Hid; rw [HE.out, if_neg (by unfold Far; exact hfar)]
          clear hfar
          go_wp2_with fail
          go_ret2
          obtain ⟨rfl, rfl⟩ : m = q ∧ true = r := ⟨(Prod.mk.inj HE2.out).1, (Prod.mk.inj HE2.out).2⟩
          exact ⟨rfl, hD.bel⟩
end Go.Proofs.Ytledgblepdjjlaa
