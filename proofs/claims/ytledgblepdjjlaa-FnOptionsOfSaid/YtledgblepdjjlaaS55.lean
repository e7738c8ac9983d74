/-
  spec.CountWays.
-/
import Derived.Test.YtledgblepdjjlaaS54
import Derived.Test.YtledgblepdjjlaaS51
import Derived.Test.YtledgblepdjjlaaS2c
namespace Go.Proofs.Ytledgblepdjjlaa
set_option linter.unusedVariables false
set_option linter.unusedSimpArgs false
open Go.RowKit Pp

/-- How many of the first ones fit. -/
def cntF (p : Pl) (cs : List (List Bd)) (xs : List (List Int)) : Int := ((xs.filter (fitsW p cs)).length : Int)
theorem cntF_snoc (p : Pl) (cs : List (List Bd)) (xs : List (List Int)) (ks : List Int) : cntF p cs (xs ++ [ks]) = if fitsW p cs ks then cntF p cs xs + 1 else cntF p cs xs := by
  unfold cntF
  rw [List.filter_append, List.length_append]
  cases h : fitsW p cs ks <;> simp [h]
theorem cntF_le (p : Pl) (cs : List (List Bd)) (xs : List (List Int)) : 0 ≤ cntF p cs xs ∧ cntF p cs xs ≤ xs.length := by
  unfold cntF
  have := List.length_filter_le (fitsW p cs) xs
  omega
set_option maxHeartbeats 4000000 in
set_option maxRecDepth 100000 in
theorem sCountWays_c (n : Int) (bs : List Bd) (cs : List (List Bd)) (A A2 : Option Addr) (b o c b2 o2 c2 B : Nat) (w : World) (hn : bs.length ≤ 2000000) (hn2 : cs.length ≤ 2000000) (hn3 : ∀ l ∈ cs, l.length ≤ 2000000) (hB : B ≤ w.heap.size) (hR : BdsR w B b o A bs) (hC : ChR w B b2 o2 A2 cs) :
    Calls Try.prog 43 #[.agg #[.int .i64 n, .slice A bs.length c, .slice A2 cs.length c2]] w fun e w' => e = .returned (.int .i64 (countW ⟨n, bs⟩ cs)) ∧ Below w.heap.size w w' := by
  have hD := cc_new (n := n) (c := c) (c2 := c2) (t := 37) hB hR hC
  have H3 := hide hn3
  clear hR hC hB hn3
  cases hc : caseOk ⟨n, bs⟩ cs
  · have Hr : Hid (countW ⟨n, bs⟩ cs = -1) := by unfold Hid countW; rw [hc]; rfl
    have H1 := hide hc
    clear hc
    go_enter Try.func43, Try.ntmps43
    go_upto_region 1 with fail
    generalize w.alloc (.cells #[.int .i64 n, .slice A bs.length c, .slice A2 cs.length c2] 37) = W at hD ⊢
    have p0 := hD.r.c0
    have p1 := hD.r.c1
    have p2 := hD.r.c2
    go_wp2_with (go_at_call 53; go_fit (sCaseOk_c n bs cs A A2 b o c b2 o2 c2 _ _ hn hn2 H3.out (Nat.le_refl _) hD.r.rd hD.r.rc); rintro e w2 ⟨rfl, hb⟩; rw [H1.out]; replace hD := hD.below hb; clear p0 p1 p2; have p0 := hD.r.c0; have p1 := hD.r.c1; have p2 := hD.r.c2)
    go_ret
    exact ⟨by rw [Hr.out]; rfl, hD.bel⟩
  · obtain ⟨h10, h12, h4, hlo⟩ := caseOk_iff.1 hc
    dsimp only at h12
    have hl3 : ∀ (i : Nat) (l : List Bd), cs[i]? = some l → l.length ≤ 3 := fun i l hi => (listOk_iff.1 (hlo l (List.mem_of_getElem? hi))).1.2
    obtain ⟨zs, hzs⟩ : ∃ zs, allB cs cs.length = zs := ⟨_, rfl⟩
    have hzl : zs.length ≤ 81 := by
      have h1 := allB_le (cs := cs) hl3 cs.length
      have h2 : (3 : Nat) ^ cs.length ≤ 3 ^ 4 := Nat.pow_le_pow_right (by omega) h4
      rw [← hzs]; omega
    have Hr : Hid (countW ⟨n, bs⟩ cs = cntF ⟨n, bs⟩ cs zs) := by unfold Hid countW cntF; rw [if_pos hc, ways_allB hc, hzs]
    have Hok : Hid (∀ ks ∈ zs, picksOk cs ks = true) := fun ks hk => allB_ok (by rw [hzs]; exact hk)
    have H1 := hide hc
    have Hzs := hide hzs
    have HL3 := hide hl3
    clear hc hzs hl3 hlo h10
    go_enter Try.func43, Try.ntmps43
    go_upto_region 1 with fail
    generalize w.alloc (.cells #[.int .i64 n, .slice A bs.length c, .slice A2 cs.length c2] 37) = W at hD ⊢
    have p0 := hD.r.c0
    have p1 := hD.r.c1
    have p2 := hD.r.c2
    go_upto_region 6 with (first
      | (go_at_call 53; go_fit (sCaseOk_c n bs cs A A2 b o c b2 o2 c2 _ _ hn hn2 H3.out (Nat.le_refl _) hD.r.rd hD.r.rc); rintro e w2 ⟨rfl, hb⟩; rw [H1.out]; replace hD := hD.below hb; clear p0 p1 p2; have p0 := hD.r.c0; have p1 := hD.r.c1; have p2 := hD.r.c2)
      | (go_at_call 98; go_fit (l7All_q n bs cs h4 HL3.out A A2 b o c b2 o2 c2 _ _ (Nat.le_refl _) hD.r.rd hD.r.rc zs Hzs.out); rintro e w4 ⟨A5, c5, g5, rfl, hKs, hb⟩; replace hD := hD.below hb; clear p0 p1 p2; have p0 := hD.r.c0; have p1 := hD.r.c1; have p2 := hD.r.c2))
    go_loopg [5, 3] zs.length (fun gh s5 s3 wr => ∃ k : Nat, k ≤ zs.length ∧ gh = zs.length - k ∧ s5 = .int .i64 k ∧ s3 = .int .i64 (cntF ⟨n, bs⟩ cs (zs.take k)) ∧ CC w wr w.heap.size b o n A c bs b2 o2 A2 c2 cs ∧ KsR wr wr.heap.size g5 0 A5 zs)
    case atStart => exact ⟨0, Nat.zero_le _, rfl, rfl, by simp [cntF], hD, hKs⟩
    case round =>
      clear hD hKs p0 p1 p2 hb
      obtain ⟨k, hk, rfl, rfl, rfl, hD, hKs⟩ := hrel
      obtain ⟨p0, p1, p2⟩ : _ ∧ _ ∧ _ := ⟨hD.r.c0, hD.r.c1, hD.r.c2⟩
      by_cases hlt : k < zs.length
      · have hlt' : (k : Int) < (zs.length : Int) := by omega
        obtain rfl := hKs.addr (by omega)
        have hx := List.getElem?_eq_getElem hlt
        obtain ⟨A6, b6, o6, c6, r0, hrk⟩ := hKs.row _ _ hx
        simp only [Nat.zero_add] at r0
        have hpk := Hok.out _ (List.getElem_mem hlt)
        have HT : Hid (cntF ⟨n, bs⟩ cs (zs.take (k + 1)) = if fitsW ⟨n, bs⟩ cs zs[k] then cntF ⟨n, bs⟩ cs (zs.take k) + 1 else cntF ⟨n, bs⟩ cs (zs.take k)) := by
          unfold Hid
          rw [List.take_succ_eq_append_getElem hlt, cntF_snoc]
        generalize zs[k] = ks at hx r0 hrk hpk HT
        have hcl := cntF_le ⟨n, bs⟩ cs (zs.take k)
        obtain ⟨cn, hcn⟩ : ∃ cn, cntF ⟨n, bs⟩ cs (zs.take k) = cn := ⟨_, rfl⟩
        rw [hcn] at HT hcl ⊢
        rw [List.length_take] at hcl
        obtain ⟨hcl1, hcl2⟩ := hcl
        have hwr : IntKind.i64.wrap (cn + 1) = cn + 1 := IntWalk.i64_in _ (by omega)
        clear hcn hx
        obtain ⟨rs, hrs⟩ : ∃ rs, bs ++ picked cs ks = rs := ⟨_, rfl⟩
        have hkl := (picksOk_iff.1 hpk).1
        have hlk : ks.length ≤ cs.length := by omega
        have hpl : rs.length ≤ 2000000 := by have := picked_length cs ks hlk; rw [← hrs, List.length_append]; omega
        have hfe : fitsW ⟨n, bs⟩ cs ks = fits ⟨n, rs⟩ := by rw [← hrs]; rfl
        rw [hfe] at HT
        have Hpk := hide hpk
        have Hrs := hide hrs
        clear hrs hfe hpk hkl
        have hDl := hD.r.ex
        have hgl := hKs.lt (by omega)
        go_upto_region 8 with fail
        refine wp_regionE (fun w' => w'.cell? ⟨w.heap.size, 0, none⟩ = some (.int .i64 n) ∧ w'.cell? ⟨w.heap.size, 1, none⟩ = some (.slice A bs.length c) ∧ w'.cell? ⟨w.heap.size, 2, none⟩ = some (.slice A2 cs.length c2) ∧ w'.cell? ⟨g5, k, none⟩ = some (.slice A6 ks.length c6)) 6 (by kernel_rfl) ?_
        change wpE _ _ _ _ _ _ 7 #[false, false, false, false, false, false, false] _ _
        have hS0 : wr.drew.cell? ⟨w.heap.size, 0, none⟩ = some (.int .i64 n) ∧ wr.drew.cell? ⟨w.heap.size, 1, none⟩ = some (.slice A bs.length c) ∧ wr.drew.cell? ⟨w.heap.size, 2, none⟩ = some (.slice A2 cs.length c2) ∧ wr.drew.cell? ⟨g5, k, none⟩ = some (.slice A6 ks.length c6) := ⟨p0, p1, p2, r0⟩
        refine wpE_take' (v := ?_) 0 [5, 6] (of_decide_eq_true (by kernel_rfl)) (by kernel_rfl) (by kernel_rfl) (by kernel_rfl) (by kernel_rfl) (fun _ _ _ h => h) (by kernel_rfl) ?_ hS0 ?_
        rotate_left
        · intro w' hSw
          simp only [List.getElem_toArray, List.getElem_cons_succ, List.getElem_cons_zero]
          go_simp
          all_goals with_reducible rfl
        simp only [List.getElem_toArray, List.getElem_cons_succ, List.getElem_cons_zero, Act.put, List.setIfInBounds_toArray, List.set_cons_zero, List.set_cons_succ]
        refine wpE_take' (v := ?_) 1 [3, 4, 5, 6] (of_decide_eq_true (by kernel_rfl)) (by kernel_rfl) (by kernel_rfl) (by kernel_rfl) (by kernel_rfl) (fun _ _ _ h => h) (by kernel_rfl) ?_ hS0 ?_
        rotate_left
        · intro w' hSw
          simp only [List.getElem_toArray, List.getElem_cons_succ, List.getElem_cons_zero]
          go_simp
          all_goals with_reducible rfl
        simp only [List.getElem_toArray, List.getElem_cons_succ, List.getElem_cons_zero, Act.put, List.setIfInBounds_toArray, List.set_cons_zero, List.set_cons_succ]
        refine wpE_take' (v := ?_) 2 [3, 4, 5, 6] (of_decide_eq_true (by kernel_rfl)) (by kernel_rfl) (by kernel_rfl) (by kernel_rfl) (by kernel_rfl) (fun _ _ _ h => h) (by kernel_rfl) ?_ hS0 ?_
        rotate_left
        · intro w' hSw
          simp only [List.getElem_toArray, List.getElem_cons_succ, List.getElem_cons_zero]
          go_simp
          all_goals with_reducible rfl
        simp only [List.getElem_toArray, List.getElem_cons_succ, List.getElem_cons_zero, Act.put, List.setIfInBounds_toArray, List.set_cons_zero, List.set_cons_succ]
        refine wpE_take' (v := ?_) 3 [4, 5, 6] (of_decide_eq_true (by kernel_rfl)) (by kernel_rfl) (by kernel_rfl) (by kernel_rfl) (by kernel_rfl) (fun _ _ _ h => h) (by kernel_rfl) ?_ hS0 ?_
        rotate_left
        · intro w' hSw
          simp only [List.getElem_toArray, List.getElem_cons_succ, List.getElem_cons_zero]
          go_simp
          all_goals with_reducible rfl
        simp only [List.getElem_toArray, List.getElem_cons_succ, List.getElem_cons_zero, Act.put, List.setIfInBounds_toArray, List.set_cons_zero, List.set_cons_succ]
        refine wpE_take' (v := ?_) 4 [5, 6] (of_decide_eq_true (by kernel_rfl)) (by kernel_rfl) (by kernel_rfl) (by kernel_rfl) (by kernel_rfl) (fun _ _ _ h => h) (by kernel_rfl) ?_ hS0 ?_
        rotate_left
        · intro w' hSw
          simp only [List.getElem_toArray, List.getElem_cons_succ, List.getElem_cons_zero]
          go_simp
          all_goals with_reducible rfl
        simp only [List.getElem_toArray, List.getElem_cons_succ, List.getElem_cons_zero, Act.put, List.setIfInBounds_toArray, List.set_cons_zero, List.set_cons_succ]
        refine wpE_step' 5 (of_decide_eq_true (by kernel_rfl)) (by kernel_rfl) (by kernel_rfl) (fun K hK => ?_)
        simp only [List.getElem_toArray, List.getElem_cons_succ, List.getElem_cons_zero]
        go_simp
        have hdr : Below wr.heap.size wr wr.drew := by go_grown
        go_at_call 67
        go_fit (l7Way_q n bs cs ks h12 h4 hlk H3.out (picksOk_iff.1 Hpk.out).2 rs Hrs.out A A2 A6 b o c b2 o2 c2 b6 o6 c6 _ wr.drew (Nat.le_refl _) (hD.drew.r.rd) (hD.drew.r.rc) ((hrk.below hdr).more hdr.size))
        rintro e w5 ⟨A7, c7, g7, rfl, hr7, own7, hb7a⟩
        have hb7 := bthen hdr hb7a
        refine hK.out _ _ (.inr ⟨((bcell hb7).1 _ _ hDl).trans p0, ((bcell hb7).1 _ _ hDl).trans p1, ((bcell hb7).1 _ _ hDl).trans p2, ((bcell hb7).1 _ _ hgl).trans r0⟩) ?_
        clear hK K
        simp only [Act.put, List.setIfInBounds_toArray, List.set_cons_zero, List.set_cons_succ]
        refine wpE_step' 6 (of_decide_eq_true (by kernel_rfl)) (by kernel_rfl) (by kernel_rfl) (fun K hK => ?_)
        simp only [List.getElem_toArray, List.getElem_cons_succ, List.getElem_cons_zero]
        go_simp
        go_at_call 80
        go_fit (sFitsOk_c ⟨n, rs⟩ A7 g7 0 c7 _ _ hpl (Nat.le_refl _) hr7)
        rintro e w6 ⟨rfl, hb8a⟩
        have hb8 := bthen hb7 hb8a
        refine hK.out _ _ (.inl rfl) ?_
        clear hK K
        simp only [Act.put, List.setIfInBounds_toArray, List.set_cons_zero, List.set_cons_succ]
        refine wpE_done (by kernel_rfl) ?_ _
        replace hD := hD.below hb8
        replace hKs := (hKs.below hb8).more hb8.size
        cases hf : fits ⟨n, rs⟩
        · have HT2 : Hid (cntF ⟨n, bs⟩ cs (zs.take (k + 1)) = cn) := by unfold Hid; rw [HT.out, hf]; rfl
          clear hf
          go_wp2_with fail
          go_roundg (zs.length - (k + 1))
          case measure => go_light; omega
          case rel => go_light; exact ⟨k + 1, by omega, rfl, by go_num, by rw [HT2.out], hD, hKs⟩
        · have HT2 : Hid (cntF ⟨n, bs⟩ cs (zs.take (k + 1)) = cn + 1) := by unfold Hid; rw [HT.out, hf]; rfl
          clear hf
          go_wp2_with fail
          go_roundg (zs.length - (k + 1))
          case measure => go_light; omega
          case rel => go_light; exact ⟨k + 1, by omega, rfl, by go_num, by rw [HT2.out], hD, hKs⟩
      · obtain rfl : k = zs.length := by omega
        have HE : Hid (countW ⟨n, bs⟩ cs = cntF ⟨n, bs⟩ cs (zs.take zs.length)) := by unfold Hid; rw [Hr.out, List.take_length]
        go_wp2_with fail
        go_ret
        exact ⟨by rw [HE.out]; rfl, hD.bel⟩
end Go.Proofs.Ytledgblepdjjlaa
