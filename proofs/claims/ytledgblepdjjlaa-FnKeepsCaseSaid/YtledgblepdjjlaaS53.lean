/-
  spec.l7First, spec.FirstWay.
-/
import Derived.Test.YtledgblepdjjlaaS51
import Derived.Test.YtledgblepdjjlaaS2c
namespace Go.Proofs.Ytledgblepdjjlaa
set_option linter.unusedVariables false
set_option linter.unusedSimpArgs false
open Go.RowKit Pp

theorem own_IntsRL {w : World} {base c : Nat} {A : Option Addr} {xs : List Int} (h : OwnI base w (.slice A xs.length c) xs) : ∃ g, IntsR w w.heap.size g 0 A xs ∧ (0 < xs.length → base ≤ g) := by
  obtain ⟨g, hg⟩ := own_IntsR h
  refine ⟨g, hg, fun h0 => ?_⟩
  have e := hg.addr h0
  have e2 : (Value.slice A xs.length c).ownBlock = some g := by rw [e]; simp [Value.ownBlock]
  exact (h.lt g e2).1

set_option maxHeartbeats 4000000 in
set_option maxRecDepth 100000 in
theorem l7First_q (lo : Nat) (n : Int) (bs : List Bd) (cs : List (List Bd)) (hc : caseOk ⟨n, bs⟩ cs = true) (A A2 : Option Addr) (b o c b2 o2 c2 : Nat) : ∀ (m : Nat) (ks : List Int) (q : List Int) (r : Bool), headW (waysF ⟨n, bs⟩ cs m ks) = (q, r) → ∀ (A3 : Option Addr) (b3 o3 c3 B : Nat) (w : World), ks.length + m = cs.length → (∀ (i : Nat) (l : List Bd) (k : Int), cs[i]? = some l → ks[i]? = some k → 0 ≤ k ∧ k ≤ (l.length : Int) - 1) →
    B ≤ w.heap.size → BdsR w B b o A bs → ChR w B b2 o2 A2 cs → IntsR w B b3 o3 A3 ks → (0 < ks.length → lo ≤ b3) → lo ≤ w.heap.size →
    Calls Try.prog 108 #[.agg #[.int .i64 n, .slice A bs.length c, .slice A2 cs.length c2], .slice A3 ks.length c3] w fun e w' => ∃ A1 c1 b1 o1, e = .returned (.tuple #[.slice A1 q.length c1, .bool r]) ∧ IntsR w' w'.heap.size b1 o1 A1 q ∧ (0 < q.length → lo ≤ b1) ∧ Below w.heap.size w w' := by
  intro m
  induction m with
  | zero =>
    intro ks q r hq A3 b3 o3 c3 B w hm hv hB hR hC hK0 hlo3 hlow
    have Hlo3 := hide hlo3
    clear hlo3
    obtain ⟨_, h12, h4, hlo⟩ := caseOk_iff.1 hc
    dsimp only at h12
    have H3 : Hid (∀ l ∈ cs, l.length ≤ 2000000) := fun l hl => by have := (listOk_iff.1 (hlo l hl)).1; omega
    have hlk : ks.length ≤ cs.length := by omega
    have hD := cc_new (n := n) (c := c) (c2 := c2) (t := 37) hB hR hC
    have hpl : (bs ++ picked cs ks).length ≤ 2000000 := by have := picked_length cs ks hlk; rw [List.length_append]; omega
    have hF0 : waysF ⟨n, bs⟩ cs 0 ks = if fits ⟨n, bs ++ picked cs ks⟩ then [ks] else [] := by simp [waysF, allW, List.filter_cons, fitsW, wayP]; rfl
    have hlz : ((ks.length : Int) == (cs.length : Int)) = true := by simp; omega
    have Hv := hide hv
    clear hv hR hC hm hlo
    obtain ⟨rs, hrs⟩ : ∃ rs, bs ++ picked cs ks = rs := ⟨_, rfl⟩
    have Hrs := hide hrs
    rw [hrs] at hpl
    rw [hrs] at hF0
    clear hrs
    cases hf : fits ⟨n, rs⟩
    · rw [hF0, hf] at hq
      have Hq := hide hq
      have Hf := hide hf
      clear hf hF0 hq
      go_enter Try.func108, Try.ntmps108
      go_upto_region 1 with fail
      generalize w.alloc (.cells #[.int .i64 n, .slice A bs.length c, .slice A2 cs.length c2] 37) = W at hD ⊢
      have p0 := hD.r.c0
      have p1 := hD.r.c1
      have p2 := hD.r.c2
      have hK1 := ((hK0.more hB).below hD.bel).more hD.bel.size
      clear hK0 hB
      go_wp2_with (first | (go_at_call 67; go_fit (l7Way_q n bs cs ks h12 h4 hlk H3.out Hv.out rs Hrs.out A A2 A3 b o c b2 o2 c2 b3 o3 c3 _ _ (Nat.le_refl _) hD.r.rd hD.r.rc hK1); rintro e w2 ⟨A1, c1, g1, rfl, hr1, own1, hb⟩; replace hD := hD.below hb; clear p0 p1 p2; have p0 := hD.r.c0; have p1 := hD.r.c1; have p2 := hD.r.c2; replace hK1 := (hK1.below hb).more hb.size) | (go_at_call 80; go_fit (sFitsOk_c ⟨n, rs⟩ A1 g1 0 c1 _ _ hpl (Nat.le_refl _) hr1); rintro e w3 ⟨rfl, hb⟩; rw [Hf.out]; replace hD := hD.below hb; clear p0 p1 p2; have p0 := hD.r.c0; have p1 := hD.r.c1; have p2 := hD.r.c2; replace hK1 := (hK1.below hb).more hb.size))
      go_ret2
      obtain ⟨rfl, rfl⟩ : ([] : List Int) = q ∧ false = r := ⟨(Prod.mk.inj Hq.out).1, (Prod.mk.inj Hq.out).2⟩
      exact ⟨_, 0, 0, 0, rfl, IntsR.nil _ _ _, fun h => absurd h (by simp), (hD.alloc _).bel⟩
    · rw [hF0, hf] at hq
      have Hq := hide hq
      have Hf := hide hf
      clear hf hF0 hq
      go_enter Try.func108, Try.ntmps108
      go_upto_region 1 with fail
      generalize w.alloc (.cells #[.int .i64 n, .slice A bs.length c, .slice A2 cs.length c2] 37) = W at hD ⊢
      have p0 := hD.r.c0
      have p1 := hD.r.c1
      have p2 := hD.r.c2
      have hK1 := ((hK0.more hB).below hD.bel).more hD.bel.size
      clear hK0 hB
      go_wp2_with (first | (go_at_call 67; go_fit (l7Way_q n bs cs ks h12 h4 hlk H3.out Hv.out rs Hrs.out A A2 A3 b o c b2 o2 c2 b3 o3 c3 _ _ (Nat.le_refl _) hD.r.rd hD.r.rc hK1); rintro e w2 ⟨A1, c1, g1, rfl, hr1, own1, hb⟩; replace hD := hD.below hb; clear p0 p1 p2; have p0 := hD.r.c0; have p1 := hD.r.c1; have p2 := hD.r.c2; replace hK1 := (hK1.below hb).more hb.size) | (go_at_call 80; go_fit (sFitsOk_c ⟨n, rs⟩ A1 g1 0 c1 _ _ hpl (Nat.le_refl _) hr1); rintro e w3 ⟨rfl, hb⟩; rw [Hf.out]; replace hD := hD.below hb; clear p0 p1 p2; have p0 := hD.r.c0; have p1 := hD.r.c1; have p2 := hD.r.c2; replace hK1 := (hK1.below hb).more hb.size))
      go_ret2
      obtain ⟨rfl, rfl⟩ : ks = q ∧ true = r := ⟨(Prod.mk.inj Hq.out).1, (Prod.mk.inj Hq.out).2⟩
      exact ⟨A3, c3, b3, o3, rfl, hK1, Hlo3.out, hD.bel⟩
  | succ m ih =>
    intro ks q r hq A3 b3 o3 c3 B w hm hv hB hR hC hK0 hlo3 hlow
    have Hlo3 := hide hlo3
    clear hlo3
    obtain ⟨_, h12, h4, hlo⟩ := caseOk_iff.1 hc
    dsimp only at h12
    have H3 : Hid (∀ l ∈ cs, l.length ≤ 2000000) := fun l hl => by have := (listOk_iff.1 (hlo l hl)).1; omega
    have hlk : ks.length ≤ cs.length := by omega
    have hD := cc_new (n := n) (c := c) (c2 := c2) (t := 37) hB hR hC
    have hpl : (bs ++ picked cs ks).length ≤ 2000000 := by have := picked_length cs ks hlk; rw [List.length_append]; omega
    have hlz : ((ks.length : Int) == (cs.length : Int)) = false := by simp; omega
    obtain ⟨rs, hrs⟩ : ∃ rs, bs ++ picked cs ks = rs := ⟨_, rfl⟩
    have Hrs := hide hrs
    rw [hrs] at hpl
    clear hrs
    cases hf : fits ⟨n, rs⟩
    · rw [waysF_none hc hm hv (by rw [← Hrs.out] at hf; exact hf)] at hq
      have Hv := hide hv
      clear hv hR hC hm hlo
      have Hq := hide hq
      have Hf := hide hf
      clear hf hq
      go_enter Try.func108, Try.ntmps108
      go_upto_region 1 with fail
      generalize w.alloc (.cells #[.int .i64 n, .slice A bs.length c, .slice A2 cs.length c2] 37) = W at hD ⊢
      have p0 := hD.r.c0
      have p1 := hD.r.c1
      have p2 := hD.r.c2
      have hK1 := ((hK0.more hB).below hD.bel).more hD.bel.size
      clear hK0 hB
      go_wp2_with (first | (go_at_call 67; go_fit (l7Way_q n bs cs ks h12 h4 hlk H3.out Hv.out rs Hrs.out A A2 A3 b o c b2 o2 c2 b3 o3 c3 _ _ (Nat.le_refl _) hD.r.rd hD.r.rc hK1); rintro e w2 ⟨A1, c1, g1, rfl, hr1, own1, hb⟩; replace hD := hD.below hb; clear p0 p1 p2; have p0 := hD.r.c0; have p1 := hD.r.c1; have p2 := hD.r.c2; replace hK1 := (hK1.below hb).more hb.size) | (go_at_call 80; go_fit (sFitsOk_c ⟨n, rs⟩ A1 g1 0 c1 _ _ hpl (Nat.le_refl _) hr1); rintro e w3 ⟨rfl, hb⟩; rw [Hf.out]; replace hD := hD.below hb; clear p0 p1 p2; have p0 := hD.r.c0; have p1 := hD.r.c1; have p2 := hD.r.c2; replace hK1 := (hK1.below hb).more hb.size))
      go_ret2
      obtain ⟨rfl, rfl⟩ : ([] : List Int) = q ∧ false = r := ⟨(Prod.mk.inj Hq.out).1, (Prod.mk.inj Hq.out).2⟩
      exact ⟨_, 0, 0, 0, rfl, IntsR.nil _ _ _, fun h => absurd h (by simp), (hD.alloc _).bel⟩
    · obtain ⟨i0, hi0, hz0, hz1, hz2⟩ := info_parts infoI
      have hlt : ks.length < cs.length := by omega
      have hlt' : (ks.length : Int) < (cs.length : Int) := by omega
      have hx := List.getElem?_eq_getElem hlt
      have hl3 := (listOk_iff.1 (hlo _ (List.mem_of_getElem? hx))).1
      have hcF : Hid (waysF ⟨n, bs⟩ cs (m + 1) ks = waysK ⟨n, bs⟩ cs m ks cs[ks.length].length) := waysF_succ m hx
      generalize cs[ks.length] = l2 at hx hl3 hcF
      have Hx := hide hx
      have Hv := hide hv
      have Hq := hide hq
      have Hf := hide hf
      clear hx hv hR hC hlo hq hf
      go_enter Try.func108, Try.ntmps108
      go_upto_region 1 with fail
      generalize w.alloc (.cells #[.int .i64 n, .slice A bs.length c, .slice A2 cs.length c2] 37) = W at hD ⊢
      have p0 := hD.r.c0
      have p1 := hD.r.c1
      have p2 := hD.r.c2
      have hK1 := ((hK0.more hB).below hD.bel).more hD.bel.size
      clear hK0 hB
      go_upto_region 6 with (first | (go_at_call 67; go_fit (l7Way_q n bs cs ks h12 h4 hlk H3.out Hv.out rs Hrs.out A A2 A3 b o c b2 o2 c2 b3 o3 c3 _ _ (Nat.le_refl _) hD.r.rd hD.r.rc hK1); rintro e w2 ⟨A1, c1, g1, rfl, hr1, own1, hb⟩; replace hD := hD.below hb; clear p0 p1 p2; have p0 := hD.r.c0; have p1 := hD.r.c1; have p2 := hD.r.c2; replace hK1 := (hK1.below hb).more hb.size) | (go_at_call 80; go_fit (sFitsOk_c ⟨n, rs⟩ A1 g1 0 c1 _ _ hpl (Nat.le_refl _) hr1); rintro e w3 ⟨rfl, hb⟩; rw [Hf.out]; replace hD := hD.below hb; clear p0 p1 p2; have p0 := hD.r.c0; have p1 := hD.r.c1; have p2 := hD.r.c2; replace hK1 := (hK1.below hb).more hb.size))
      clear hlz
      go_loopg [6] l2.length (fun gh s wr => ∃ k : Nat, k ≤ l2.length ∧ gh = l2.length - k ∧ s = .int .i64 k ∧ Hid (waysK ⟨n, bs⟩ cs m ks k = []) ∧ CC w wr w.heap.size b o n A c bs b2 o2 A2 c2 cs ∧ IntsR wr wr.heap.size b3 o3 A3 ks)
      case atStart => exact ⟨0, Nat.zero_le _, rfl, rfl, by simp [Hid, waysK, allK], hD, hK1⟩
      case round =>
        clear hD hK1 p0 p1 p2
        obtain ⟨k, hk, rfl, rfl, HW, hD, hK1⟩ := hrel
        obtain rfl := hD.r.rc.addr (by omega)
        obtain ⟨p0, p1, p2⟩ : _ ∧ _ ∧ _ := ⟨hD.r.c0, hD.r.c1, hD.r.c2⟩
        obtain ⟨A8, b8, o8, c8, r0, hrd8⟩ := hD.r.rc.row _ _ Hx.out
        by_cases hlk2 : k < l2.length
        · have hc' : (k : Int) < (l2.length : Int) := by omega
          have HvN : Hid (∀ (i : Nat) (l : List Bd) (v : Int), cs[i]? = some l → (ks ++ [(k : Int)])[i]? = some v → 0 ≤ v ∧ v ≤ (l.length : Int) - 1) := by
            intro i l v hi hv2
            by_cases e : i < ks.length
            · rw [List.getElem?_append_left e] at hv2; exact Hv.out i l v hi hv2
            · rw [List.getElem?_append_right (by omega)] at hv2
              have e0 : i - ks.length = 0 := by
                have := (List.getElem?_eq_some_iff.1 hv2).1
                simpa using this
              rw [e0] at hv2
              simp at hv2
              have : i = ks.length := by omega
              subst this
              rw [Hx.out] at hi
              cases hi
              omega
          obtain ⟨q', r', hqr⟩ : ∃ q' r', headW (waysF ⟨n, bs⟩ cs m (ks ++ [(k : Int)])) = (q', r') := ⟨_, _, rfl⟩
          have Hqr := hide hqr
          clear hqr
          have hDl : w.heap.size < wr.heap.size := hD.r.ex
          go_upto_region 8 with fail
          clear r0
          refine wp_regionE (fun w' => w'.cell? ⟨w.heap.size, 0, none⟩ = some (.int .i64 n) ∧ w'.cell? ⟨w.heap.size, 1, none⟩ = some (.slice A bs.length c) ∧ w'.cell? ⟨w.heap.size, 2, none⟩ = some (.slice (some ⟨b2, o2, none⟩) cs.length c2)) 12 (by kernel_rfl) ?_
          change wpE _ _ _ _ _ _ 13 #[false, false, false, false, false, false, false, false, false, false, false, false, false] _ _
          have hS0 : wr.drew.cell? ⟨w.heap.size, 0, none⟩ = some (.int .i64 n) ∧ wr.drew.cell? ⟨w.heap.size, 1, none⟩ = some (.slice A bs.length c) ∧ wr.drew.cell? ⟨w.heap.size, 2, none⟩ = some (.slice (some ⟨b2, o2, none⟩) cs.length c2) := ⟨p0, p1, p2⟩
          refine wpE_take' (v := ?_) 0 [12] (of_decide_eq_true (by kernel_rfl)) (by kernel_rfl) (by kernel_rfl) (by kernel_rfl) (by kernel_rfl) (fun _ _ _ h => h) (by kernel_rfl) ?_ hS0 ?_
          rotate_left
          · intro w' hSw
            simp only [List.getElem_toArray, List.getElem_cons_succ, List.getElem_cons_zero]
            go_simp
            all_goals with_reducible rfl
          simp only [List.getElem_toArray, List.getElem_cons_succ, List.getElem_cons_zero, Act.put, List.setIfInBounds_toArray, List.set_cons_zero, List.set_cons_succ]
          refine wpE_take' (v := ?_) 2 [12] (of_decide_eq_true (by kernel_rfl)) (by kernel_rfl) (by kernel_rfl) (by kernel_rfl) (by kernel_rfl) (fun _ _ _ h => h) (by kernel_rfl) ?_ hS0 ?_
          rotate_left
          · intro w' hSw
            simp only [List.getElem_toArray, List.getElem_cons_succ, List.getElem_cons_zero]
            go_simp
            all_goals with_reducible rfl
          simp only [List.getElem_toArray, List.getElem_cons_succ, List.getElem_cons_zero, Act.put, List.setIfInBounds_toArray, List.set_cons_zero, List.set_cons_succ]
          refine wpE_take' (v := ?_) 4 [12] (of_decide_eq_true (by kernel_rfl)) (by kernel_rfl) (by kernel_rfl) (by kernel_rfl) (by kernel_rfl) (fun _ _ _ h => h) (by kernel_rfl) ?_ hS0 ?_
          rotate_left
          · intro w' hSw
            simp only [List.getElem_toArray, List.getElem_cons_succ, List.getElem_cons_zero]
            go_simp
            all_goals with_reducible rfl
          simp only [List.getElem_toArray, List.getElem_cons_succ, List.getElem_cons_zero, Act.put, List.setIfInBounds_toArray, List.set_cons_zero, List.set_cons_succ]
          refine wpE_two 1 5 (of_decide_eq_true (by kernel_rfl)) (of_decide_eq_true (by kernel_rfl)) (by kernel_rfl) (by kernel_rfl) (by kernel_rfl) (fun K hK => ?_) (fun K hK => ?_)
          · simp only [List.getElem_toArray, List.getElem_cons_succ, List.getElem_cons_zero]
            go_simp
            have hb1 : Below wr.heap.size wr (wr.alloc (.cells #[] 3)).drew := by go_grown
            have hE1 : (wr.alloc (.cells #[] 3)).drew.heap[wr.heap.size]? = some (.cells #[] 3 (0, 0)) := at_new (w := wr) rfl
            have hs1 : wr.heap.size < (wr.alloc (.cells #[] 3)).drew.heap.size := by simp
            refine hK.out _ _ (.inr ⟨((bcell hb1).1 _ _ hDl).trans p0, ((bcell hb1).1 _ _ hDl).trans p1, ((bcell hb1).1 _ _ hDl).trans p2⟩) ?_
            clear hK K
            simp only [Act.put, List.setIfInBounds_toArray, List.set_cons_zero, List.set_cons_succ]
            generalize (wr.alloc (.cells #[] 3)).drew = W1 at hb1 hE1 hs1 ⊢
            refine wpE_two 3 5 (of_decide_eq_true (by kernel_rfl)) (of_decide_eq_true (by kernel_rfl)) (by kernel_rfl) (by kernel_rfl) (by kernel_rfl) (fun K hK => ?_) (fun K hK => ?_)
            · simp only [List.getElem_toArray, List.getElem_cons_succ, List.getElem_cons_zero]
              have own0 := own_empty (base := wr.heap.size) (size := 1) hE1 (Nat.le_refl _)
              refine app_wp _ (.tmp 35) (.tmp 36) _ rfl wr.heap.size 3 i0 _ 1 8 Try.underlying28 hi0 hz0 hz1 hz2 rfl (by omega) (.slice (some ⟨wr.heap.size, 0, none⟩) 0 0) 0 [] rfl own0 A3 ks.length c3 (ks.map (Value.int .i64)) rfl (by simp) ((hK1.below hb1).news) (ints_one ks) (by omega) (by omega) (Below.size hb1) ?_
              intro A4 c4 w4 hown4 hg4 hat4
              simp only [Nat.zero_add, List.nil_append] at hown4 ⊢
              have hb4 : Below wr.heap.size wr w4 := below_app hb1 own0 hg4 (Nat.le_refl _) (Below.size hb1)
              refine hK.out _ _ (.inr ⟨((bcell hb4).1 _ _ hDl).trans p0, ((bcell hb4).1 _ _ hDl).trans p1, ((bcell hb4).1 _ _ hDl).trans p2⟩) ?_
              clear hK K
              simp only [Act.put, List.setIfInBounds_toArray, List.set_cons_zero, List.set_cons_succ]
              refine wpE_step' 5 (of_decide_eq_true (by kernel_rfl)) (by kernel_rfl) (by kernel_rfl) (fun K hK => ?_)
              simp only [List.getElem_toArray, List.getElem_cons_succ, List.getElem_cons_zero]
              go_simp
              have hq : (w4.alloc (.cells #[.int .i64 (k : Int)] 3)).heap[w4.heap.size]? = some (.cells #[.int .i64 (k : Int)] 3 (0, 0)) := at_new rfl
              have hb6 : Below wr.heap.size wr (w4.alloc (.cells #[.int .i64 (k : Int)] 3)) := bthen hb4 (by go_grown)
              have own6 := hown4.alloc (.cells #[.int .i64 (k : Int)] 3)
              refine hK.out _ _ (.inr ⟨((bcell hb6).1 _ _ hDl).trans p0, ((bcell hb6).1 _ _ hDl).trans p1, ((bcell hb6).1 _ _ hDl).trans p2⟩) ?_
              clear hK K
              simp only [Act.put, List.setIfInBounds_toArray, List.set_cons_zero, List.set_cons_succ]
              refine wpE_step' 6 (of_decide_eq_true (by kernel_rfl)) (by kernel_rfl) (by kernel_rfl) (fun K hK => ?_)
              simp only [List.getElem_toArray, List.getElem_cons_succ, List.getElem_cons_zero]
              refine app_wp _ (.tmp 37) (.tmp 39) _ rfl wr.heap.size 3 i0 _ 1 8 Try.underlying28 hi0 hz0 hz1 hz2 rfl (by omega) (.slice A4 ks.length c4) ks.length (ks.map (Value.int .i64)) rfl own6 _ 1 _ [.int .i64 (k : Int)] rfl rfl (NewsAt.block (cs := #[.int .i64 (k : Int)]) hq) (by simp [Value.oneCell']) (by omega) (by omega) hb6.size ?_
              intro A5 c5 w5 hown5 hg5 hat5
              have hb5 : Below wr.heap.size wr w5 := below_app hb6 own6 hg5 (Nat.le_refl _) hb6.size
              have hlen5 : (ks ++ [(k : Int)]).length = ks.length + 1 := by simp
              have hI9 : OwnI wr.heap.size w5 (.slice A5 (ks ++ [(k : Int)]).length c5) (ks ++ [(k : Int)]) := by unfold OwnI; rw [hlen5, List.map_append]; exact hown5
              obtain ⟨g5, hr5, hl5⟩ := own_IntsRL hI9
              have hD5 := hD.below hb5
              have hlw := hD.bel.size
              have Hl5 := hide (show 0 < (ks ++ [(k : Int)]).length → lo ≤ g5 from fun h0 => by have := hl5 h0; omega)
              clear hl5
              refine hK.out _ _ (.inr ⟨((bcell hb5).1 _ _ hDl).trans p0, ((bcell hb5).1 _ _ hDl).trans p1, ((bcell hb5).1 _ _ hDl).trans p2⟩) ?_
              clear hK K
              simp only [Act.put, List.setIfInBounds_toArray, List.set_cons_zero, List.set_cons_succ]
              refine wpE_step' 7 (of_decide_eq_true (by kernel_rfl)) (by kernel_rfl) (by kernel_rfl) (fun K hK => ?_)
              simp only [List.getElem_toArray, List.getElem_cons_succ, List.getElem_cons_zero]
              go_simp
              go_at_call 108
              have hcall := ih (ks ++ [(k : Int)]) q' r' Hqr.out A5 g5 0 c5 _ w5 (by simp; omega) HvN.out (Nat.le_refl _) hD5.r.rd hD5.r.rc hr5 Hl5.out (by have := hb5.size; omega)
              rw [hlen5] at hcall
              refine hcall.mono ?_
              clear hcall
              rintro e w7 ⟨A7, c7, b7, o7, rfl, hr7, hl7, hb7⟩
              have Hl7 := hide hl7
              clear hl7
              have hb8 := bthen hb5 hb7
              refine hK.out _ _ (.inr ⟨((bcell hb8).1 _ _ hDl).trans p0, ((bcell hb8).1 _ _ hDl).trans p1, ((bcell hb8).1 _ _ hDl).trans p2⟩) ?_
              clear hK K
              simp only [Act.put, List.setIfInBounds_toArray, List.set_cons_zero, List.set_cons_succ]
              clear hS0
              have hS0 : w7.cell? ⟨w.heap.size, 0, none⟩ = some (.int .i64 n) ∧ w7.cell? ⟨w.heap.size, 1, none⟩ = some (.slice A bs.length c) ∧ w7.cell? ⟨w.heap.size, 2, none⟩ = some (.slice (some ⟨b2, o2, none⟩) cs.length c2) := ⟨((bcell hb8).1 _ _ hDl).trans p0, ((bcell hb8).1 _ _ hDl).trans p1, ((bcell hb8).1 _ _ hDl).trans p2⟩
              refine wpE_take' (v := ?_) 8 [12] (of_decide_eq_true (by kernel_rfl)) (by kernel_rfl) (by kernel_rfl) (by kernel_rfl) (by kernel_rfl) (fun _ _ _ h => h) (by kernel_rfl) ?_ hS0 ?_
              rotate_left
              · intro w' hSw
                simp only [List.getElem_toArray, List.getElem_cons_succ, List.getElem_cons_zero]
                go_simp
                all_goals with_reducible rfl
              simp only [List.getElem_toArray, List.getElem_cons_succ, List.getElem_cons_zero, Act.put, List.setIfInBounds_toArray, List.set_cons_zero, List.set_cons_succ]
              refine wpE_take' (v := ?_) 9 [12] (of_decide_eq_true (by kernel_rfl)) (by kernel_rfl) (by kernel_rfl) (by kernel_rfl) (by kernel_rfl) (fun _ _ _ h => h) (by kernel_rfl) ?_ hS0 ?_
              rotate_left
              · intro w' hSw
                simp only [List.getElem_toArray, List.getElem_cons_succ, List.getElem_cons_zero]
                go_simp
                all_goals with_reducible rfl
              simp only [List.getElem_toArray, List.getElem_cons_succ, List.getElem_cons_zero, Act.put, List.setIfInBounds_toArray, List.set_cons_zero, List.set_cons_succ]
              refine wpE_take' (v := ?_) 10 [12] (of_decide_eq_true (by kernel_rfl)) (by kernel_rfl) (by kernel_rfl) (by kernel_rfl) (by kernel_rfl) (fun _ _ _ h => h) (by kernel_rfl) ?_ hS0 ?_
              rotate_left
              · intro w' hSw
                simp only [List.getElem_toArray, List.getElem_cons_succ, List.getElem_cons_zero]
                go_simp
                all_goals with_reducible rfl
              simp only [List.getElem_toArray, List.getElem_cons_succ, List.getElem_cons_zero, Act.put, List.setIfInBounds_toArray, List.set_cons_zero, List.set_cons_succ]
              refine wpE_take' (v := ?_) 11 [12] (of_decide_eq_true (by kernel_rfl)) (by kernel_rfl) (by kernel_rfl) (by kernel_rfl) (by kernel_rfl) (fun _ _ _ h => h) (by kernel_rfl) ?_ hS0 ?_
              rotate_left
              · intro w' hSw
                simp only [List.getElem_toArray, List.getElem_cons_succ, List.getElem_cons_zero]
                go_simp
                all_goals with_reducible rfl
              simp only [List.getElem_toArray, List.getElem_cons_succ, List.getElem_cons_zero, Act.put, List.setIfInBounds_toArray, List.set_cons_zero, List.set_cons_succ]
              refine wpE_step' 12 (of_decide_eq_true (by kernel_rfl)) (by kernel_rfl) (by kernel_rfl) (fun K hK => ?_)
              simp only [List.getElem_toArray, List.getElem_cons_succ, List.getElem_cons_zero]
              go_simp
              refine hK.out _ _ (.inl rfl) ?_
              clear hK K
              simp only [Act.put, List.setIfInBounds_toArray, List.set_cons_zero, List.set_cons_succ]
              refine wpE_done (by kernel_rfl) ?_ _
              replace hD := hD.below hb8
              replace hK1 := (hK1.below hb8).more hb8.size
              cases r'
              · have HN : Hid (waysK ⟨n, bs⟩ cs m ks (k + 1) = []) := by
                  unfold Hid
                  rw [waysK_succ, HW.out, (headW_no Hqr.out).1]; rfl
                go_wp2_with fail
                go_roundg (l2.length - (k + 1))
                case measure => go_light; omega
                case rel => go_light; exact ⟨k + 1, by omega, rfl, by go_num, HN, hD, hK1⟩
              · have HE : Hid ((q', true) = (q, r)) := by
                  have h1 : headW (waysK ⟨n, bs⟩ cs m ks (k + 1)) = (q', true) := by rw [waysK_succ, HW.out, List.nil_append]; exact Hqr.out
                  have h2 := headW_pre (waysK_le ⟨n, bs⟩ cs m ks (k + 1) l2.length (by omega)) h1
                  rw [← hcF.out, Hq.out] at h2
                  exact h2.symm
                go_wp2_with fail
                go_ret2
                obtain ⟨rfl, rfl⟩ : q' = q ∧ true = r := ⟨(Prod.mk.inj HE.out).1, (Prod.mk.inj HE.out).2⟩
                exact ⟨A7, c7, b7, o7, rfl, hr7, Hl7.out, hD.bel⟩
            · simp only [List.getElem_toArray, List.getElem_cons_succ, List.getElem_cons_zero]
              go_simp
              have hb2 : Below wr.heap.size wr (W1.alloc (.cells #[.int .i64 (k : Int)] 3)) := bthen hb1 (by go_grown)
              have hE2 : (W1.alloc (.cells #[.int .i64 (k : Int)] 3)).heap[wr.heap.size]? = some (.cells #[] 3 (0, 0)) := at_old hE1
              have hV2 : (W1.alloc (.cells #[.int .i64 (k : Int)] 3)).heap[W1.heap.size]? = some (.cells #[.int .i64 (k : Int)] 3 (0, 0)) := at_new rfl
              have hs2 : W1.heap.size < (W1.alloc (.cells #[.int .i64 (k : Int)] 3)).heap.size := by simp
              refine hK.out _ _ (.inr ⟨((bcell hb2).1 _ _ hDl).trans p0, ((bcell hb2).1 _ _ hDl).trans p1, ((bcell hb2).1 _ _ hDl).trans p2⟩) ?_
              clear hK K
              simp only [Act.put, List.setIfInBounds_toArray, List.set_cons_zero, List.set_cons_succ]
              generalize (W1.alloc (.cells #[.int .i64 (k : Int)] 3)) = W2 at hb2 hE2 hV2 hs2 ⊢
              refine wpE_step' 3 (of_decide_eq_true (by kernel_rfl)) (by kernel_rfl) (by kernel_rfl) (fun K hK => ?_)
              simp only [List.getElem_toArray, List.getElem_cons_succ, List.getElem_cons_zero]
              have own0 := own_empty (base := wr.heap.size) (size := 1) hE2 (Nat.le_refl _)
              refine app_wp _ (.tmp 35) (.tmp 36) _ rfl wr.heap.size 3 i0 _ 1 8 Try.underlying28 hi0 hz0 hz1 hz2 rfl (by omega) (.slice (some ⟨wr.heap.size, 0, none⟩) 0 0) 0 [] rfl own0 A3 ks.length c3 (ks.map (Value.int .i64)) rfl (by simp) ((hK1.below hb2).news) (ints_one ks) (by omega) (by omega) (Below.size hb2) ?_
              intro A4 c4 w4 hown4 hg4 hat4
              simp only [Nat.zero_add, List.nil_append] at hown4 ⊢
              have hb4 : Below wr.heap.size wr w4 := below_app hb2 own0 hg4 (Nat.le_refl _) (Below.size hb2)
              have hq : w4.heap[W1.heap.size]? = some (.cells #[.int .i64 (k : Int)] 3 (0, 0)) := (hg4.block _ hs2 (by simp [Value.ownBlock]; omega)).trans hV2
              have hb6 := hb4
              have own6 := hown4
              refine hK.out _ _ (.inr ⟨((bcell hb6).1 _ _ hDl).trans p0, ((bcell hb6).1 _ _ hDl).trans p1, ((bcell hb6).1 _ _ hDl).trans p2⟩) ?_
              clear hK K
              simp only [Act.put, List.setIfInBounds_toArray, List.set_cons_zero, List.set_cons_succ]
              refine wpE_step' 6 (of_decide_eq_true (by kernel_rfl)) (by kernel_rfl) (by kernel_rfl) (fun K hK => ?_)
              simp only [List.getElem_toArray, List.getElem_cons_succ, List.getElem_cons_zero]
              refine app_wp _ (.tmp 37) (.tmp 39) _ rfl wr.heap.size 3 i0 _ 1 8 Try.underlying28 hi0 hz0 hz1 hz2 rfl (by omega) (.slice A4 ks.length c4) ks.length (ks.map (Value.int .i64)) rfl own6 _ 1 _ [.int .i64 (k : Int)] rfl rfl (NewsAt.block (cs := #[.int .i64 (k : Int)]) hq) (by simp [Value.oneCell']) (by omega) (by omega) hb6.size ?_
              intro A5 c5 w5 hown5 hg5 hat5
              have hb5 : Below wr.heap.size wr w5 := below_app hb6 own6 hg5 (Nat.le_refl _) hb6.size
              have hlen5 : (ks ++ [(k : Int)]).length = ks.length + 1 := by simp
              have hI9 : OwnI wr.heap.size w5 (.slice A5 (ks ++ [(k : Int)]).length c5) (ks ++ [(k : Int)]) := by unfold OwnI; rw [hlen5, List.map_append]; exact hown5
              obtain ⟨g5, hr5, hl5⟩ := own_IntsRL hI9
              have hD5 := hD.below hb5
              have hlw := hD.bel.size
              have Hl5 := hide (show 0 < (ks ++ [(k : Int)]).length → lo ≤ g5 from fun h0 => by have := hl5 h0; omega)
              clear hl5
              refine hK.out _ _ (.inr ⟨((bcell hb5).1 _ _ hDl).trans p0, ((bcell hb5).1 _ _ hDl).trans p1, ((bcell hb5).1 _ _ hDl).trans p2⟩) ?_
              clear hK K
              simp only [Act.put, List.setIfInBounds_toArray, List.set_cons_zero, List.set_cons_succ]
              refine wpE_step' 7 (of_decide_eq_true (by kernel_rfl)) (by kernel_rfl) (by kernel_rfl) (fun K hK => ?_)
              simp only [List.getElem_toArray, List.getElem_cons_succ, List.getElem_cons_zero]
              go_simp
              go_at_call 108
              have hcall := ih (ks ++ [(k : Int)]) q' r' Hqr.out A5 g5 0 c5 _ w5 (by simp; omega) HvN.out (Nat.le_refl _) hD5.r.rd hD5.r.rc hr5 Hl5.out (by have := hb5.size; omega)
              rw [hlen5] at hcall
              refine hcall.mono ?_
              clear hcall
              rintro e w7 ⟨A7, c7, b7, o7, rfl, hr7, hl7, hb7⟩
              have Hl7 := hide hl7
              clear hl7
              have hb8 := bthen hb5 hb7
              refine hK.out _ _ (.inr ⟨((bcell hb8).1 _ _ hDl).trans p0, ((bcell hb8).1 _ _ hDl).trans p1, ((bcell hb8).1 _ _ hDl).trans p2⟩) ?_
              clear hK K
              simp only [Act.put, List.setIfInBounds_toArray, List.set_cons_zero, List.set_cons_succ]
              clear hS0
              have hS0 : w7.cell? ⟨w.heap.size, 0, none⟩ = some (.int .i64 n) ∧ w7.cell? ⟨w.heap.size, 1, none⟩ = some (.slice A bs.length c) ∧ w7.cell? ⟨w.heap.size, 2, none⟩ = some (.slice (some ⟨b2, o2, none⟩) cs.length c2) := ⟨((bcell hb8).1 _ _ hDl).trans p0, ((bcell hb8).1 _ _ hDl).trans p1, ((bcell hb8).1 _ _ hDl).trans p2⟩
              refine wpE_take' (v := ?_) 8 [12] (of_decide_eq_true (by kernel_rfl)) (by kernel_rfl) (by kernel_rfl) (by kernel_rfl) (by kernel_rfl) (fun _ _ _ h => h) (by kernel_rfl) ?_ hS0 ?_
              rotate_left
              · intro w' hSw
                simp only [List.getElem_toArray, List.getElem_cons_succ, List.getElem_cons_zero]
                go_simp
                all_goals with_reducible rfl
              simp only [List.getElem_toArray, List.getElem_cons_succ, List.getElem_cons_zero, Act.put, List.setIfInBounds_toArray, List.set_cons_zero, List.set_cons_succ]
              refine wpE_take' (v := ?_) 9 [12] (of_decide_eq_true (by kernel_rfl)) (by kernel_rfl) (by kernel_rfl) (by kernel_rfl) (by kernel_rfl) (fun _ _ _ h => h) (by kernel_rfl) ?_ hS0 ?_
              rotate_left
              · intro w' hSw
                simp only [List.getElem_toArray, List.getElem_cons_succ, List.getElem_cons_zero]
                go_simp
                all_goals with_reducible rfl
              simp only [List.getElem_toArray, List.getElem_cons_succ, List.getElem_cons_zero, Act.put, List.setIfInBounds_toArray, List.set_cons_zero, List.set_cons_succ]
              refine wpE_take' (v := ?_) 10 [12] (of_decide_eq_true (by kernel_rfl)) (by kernel_rfl) (by kernel_rfl) (by kernel_rfl) (by kernel_rfl) (fun _ _ _ h => h) (by kernel_rfl) ?_ hS0 ?_
              rotate_left
              · intro w' hSw
                simp only [List.getElem_toArray, List.getElem_cons_succ, List.getElem_cons_zero]
                go_simp
                all_goals with_reducible rfl
              simp only [List.getElem_toArray, List.getElem_cons_succ, List.getElem_cons_zero, Act.put, List.setIfInBounds_toArray, List.set_cons_zero, List.set_cons_succ]
              refine wpE_take' (v := ?_) 11 [12] (of_decide_eq_true (by kernel_rfl)) (by kernel_rfl) (by kernel_rfl) (by kernel_rfl) (by kernel_rfl) (fun _ _ _ h => h) (by kernel_rfl) ?_ hS0 ?_
              rotate_left
              · intro w' hSw
                simp only [List.getElem_toArray, List.getElem_cons_succ, List.getElem_cons_zero]
                go_simp
                all_goals with_reducible rfl
              simp only [List.getElem_toArray, List.getElem_cons_succ, List.getElem_cons_zero, Act.put, List.setIfInBounds_toArray, List.set_cons_zero, List.set_cons_succ]
              refine wpE_step' 12 (of_decide_eq_true (by kernel_rfl)) (by kernel_rfl) (by kernel_rfl) (fun K hK => ?_)
              simp only [List.getElem_toArray, List.getElem_cons_succ, List.getElem_cons_zero]
              go_simp
              refine hK.out _ _ (.inl rfl) ?_
              clear hK K
              simp only [Act.put, List.setIfInBounds_toArray, List.set_cons_zero, List.set_cons_succ]
              refine wpE_done (by kernel_rfl) ?_ _
              replace hD := hD.below hb8
              replace hK1 := (hK1.below hb8).more hb8.size
              cases r'
              · have HN : Hid (waysK ⟨n, bs⟩ cs m ks (k + 1) = []) := by
                  unfold Hid
                  rw [waysK_succ, HW.out, (headW_no Hqr.out).1]; rfl
                go_wp2_with fail
                go_roundg (l2.length - (k + 1))
                case measure => go_light; omega
                case rel => go_light; exact ⟨k + 1, by omega, rfl, by go_num, HN, hD, hK1⟩
              · have HE : Hid ((q', true) = (q, r)) := by
                  have h1 : headW (waysK ⟨n, bs⟩ cs m ks (k + 1)) = (q', true) := by rw [waysK_succ, HW.out, List.nil_append]; exact Hqr.out
                  have h2 := headW_pre (waysK_le ⟨n, bs⟩ cs m ks (k + 1) l2.length (by omega)) h1
                  rw [← hcF.out, Hq.out] at h2
                  exact h2.symm
                go_wp2_with fail
                go_ret2
                obtain ⟨rfl, rfl⟩ : q' = q ∧ true = r := ⟨(Prod.mk.inj HE.out).1, (Prod.mk.inj HE.out).2⟩
                exact ⟨A7, c7, b7, o7, rfl, hr7, Hl7.out, hD.bel⟩
          · simp only [List.getElem_toArray, List.getElem_cons_succ, List.getElem_cons_zero]
            go_simp
            have hb1 : Below wr.heap.size wr (wr.alloc (.cells #[.int .i64 (k : Int)] 3)).drew := by go_grown
            have hV1 : (wr.alloc (.cells #[.int .i64 (k : Int)] 3)).drew.heap[wr.heap.size]? = some (.cells #[.int .i64 (k : Int)] 3 (0, 0)) := at_new (w := wr) rfl
            have hs1 : wr.heap.size < (wr.alloc (.cells #[.int .i64 (k : Int)] 3)).drew.heap.size := by simp
            refine hK.out _ _ (.inr ⟨((bcell hb1).1 _ _ hDl).trans p0, ((bcell hb1).1 _ _ hDl).trans p1, ((bcell hb1).1 _ _ hDl).trans p2⟩) ?_
            clear hK K
            simp only [Act.put, List.setIfInBounds_toArray, List.set_cons_zero, List.set_cons_succ]
            generalize (wr.alloc (.cells #[.int .i64 (k : Int)] 3)).drew = W1 at hb1 hV1 hs1 ⊢
            refine wpE_step' 1 (of_decide_eq_true (by kernel_rfl)) (by kernel_rfl) (by kernel_rfl) (fun K hK => ?_)
            simp only [List.getElem_toArray, List.getElem_cons_succ, List.getElem_cons_zero]
            go_simp
            have hb2 : Below wr.heap.size wr (W1.alloc (.cells #[] 3)) := bthen hb1 (by go_grown)
            have hE2 : (W1.alloc (.cells #[] 3)).heap[W1.heap.size]? = some (.cells #[] 3 (0, 0)) := at_new rfl
            have hV2 : (W1.alloc (.cells #[] 3)).heap[wr.heap.size]? = some (.cells #[.int .i64 (k : Int)] 3 (0, 0)) := at_old hV1
            have hs2 : wr.heap.size < (W1.alloc (.cells #[] 3)).heap.size := by simp; omega
            refine hK.out _ _ (.inr ⟨((bcell hb2).1 _ _ hDl).trans p0, ((bcell hb2).1 _ _ hDl).trans p1, ((bcell hb2).1 _ _ hDl).trans p2⟩) ?_
            clear hK K
            simp only [Act.put, List.setIfInBounds_toArray, List.set_cons_zero, List.set_cons_succ]
            generalize (W1.alloc (.cells #[] 3)) = W2 at hb2 hE2 hV2 hs2 ⊢
            refine wpE_step' 3 (of_decide_eq_true (by kernel_rfl)) (by kernel_rfl) (by kernel_rfl) (fun K hK => ?_)
            simp only [List.getElem_toArray, List.getElem_cons_succ, List.getElem_cons_zero]
            have own0 := own_empty (base := wr.heap.size) (size := 1) hE2 (Nat.le_of_lt hs1)
            refine app_wp _ (.tmp 35) (.tmp 36) _ rfl wr.heap.size 3 i0 _ 1 8 Try.underlying28 hi0 hz0 hz1 hz2 rfl (by omega) (.slice (some ⟨W1.heap.size, 0, none⟩) 0 0) 0 [] rfl own0 A3 ks.length c3 (ks.map (Value.int .i64)) rfl (by simp) ((hK1.below hb2).news) (ints_one ks) (by omega) (by omega) (Below.size hb2) ?_
            intro A4 c4 w4 hown4 hg4 hat4
            simp only [Nat.zero_add, List.nil_append] at hown4 ⊢
            have hb4 : Below wr.heap.size wr w4 := below_app hb2 own0 hg4 (Nat.le_refl _) (Below.size hb2)
            have hq : w4.heap[wr.heap.size]? = some (.cells #[.int .i64 (k : Int)] 3 (0, 0)) := (hg4.block _ hs2 (by simp [Value.ownBlock]; omega)).trans hV2
            have hb6 := hb4
            have own6 := hown4
            refine hK.out _ _ (.inr ⟨((bcell hb6).1 _ _ hDl).trans p0, ((bcell hb6).1 _ _ hDl).trans p1, ((bcell hb6).1 _ _ hDl).trans p2⟩) ?_
            clear hK K
            simp only [Act.put, List.setIfInBounds_toArray, List.set_cons_zero, List.set_cons_succ]
            refine wpE_step' 6 (of_decide_eq_true (by kernel_rfl)) (by kernel_rfl) (by kernel_rfl) (fun K hK => ?_)
            simp only [List.getElem_toArray, List.getElem_cons_succ, List.getElem_cons_zero]
            refine app_wp _ (.tmp 37) (.tmp 39) _ rfl wr.heap.size 3 i0 _ 1 8 Try.underlying28 hi0 hz0 hz1 hz2 rfl (by omega) (.slice A4 ks.length c4) ks.length (ks.map (Value.int .i64)) rfl own6 _ 1 _ [.int .i64 (k : Int)] rfl rfl (NewsAt.block (cs := #[.int .i64 (k : Int)]) hq) (by simp [Value.oneCell']) (by omega) (by omega) hb6.size ?_
            intro A5 c5 w5 hown5 hg5 hat5
            have hb5 : Below wr.heap.size wr w5 := below_app hb6 own6 hg5 (Nat.le_refl _) hb6.size
            have hlen5 : (ks ++ [(k : Int)]).length = ks.length + 1 := by simp
            have hI9 : OwnI wr.heap.size w5 (.slice A5 (ks ++ [(k : Int)]).length c5) (ks ++ [(k : Int)]) := by unfold OwnI; rw [hlen5, List.map_append]; exact hown5
            obtain ⟨g5, hr5, hl5⟩ := own_IntsRL hI9
            have hD5 := hD.below hb5
            have hlw := hD.bel.size
            have Hl5 := hide (show 0 < (ks ++ [(k : Int)]).length → lo ≤ g5 from fun h0 => by have := hl5 h0; omega)
            clear hl5
            refine hK.out _ _ (.inr ⟨((bcell hb5).1 _ _ hDl).trans p0, ((bcell hb5).1 _ _ hDl).trans p1, ((bcell hb5).1 _ _ hDl).trans p2⟩) ?_
            clear hK K
            simp only [Act.put, List.setIfInBounds_toArray, List.set_cons_zero, List.set_cons_succ]
            refine wpE_step' 7 (of_decide_eq_true (by kernel_rfl)) (by kernel_rfl) (by kernel_rfl) (fun K hK => ?_)
            simp only [List.getElem_toArray, List.getElem_cons_succ, List.getElem_cons_zero]
            go_simp
            go_at_call 108
            have hcall := ih (ks ++ [(k : Int)]) q' r' Hqr.out A5 g5 0 c5 _ w5 (by simp; omega) HvN.out (Nat.le_refl _) hD5.r.rd hD5.r.rc hr5 Hl5.out (by have := hb5.size; omega)
            rw [hlen5] at hcall
            refine hcall.mono ?_
            clear hcall
            rintro e w7 ⟨A7, c7, b7, o7, rfl, hr7, hl7, hb7⟩
            have Hl7 := hide hl7
            clear hl7
            have hb8 := bthen hb5 hb7
            refine hK.out _ _ (.inr ⟨((bcell hb8).1 _ _ hDl).trans p0, ((bcell hb8).1 _ _ hDl).trans p1, ((bcell hb8).1 _ _ hDl).trans p2⟩) ?_
            clear hK K
            simp only [Act.put, List.setIfInBounds_toArray, List.set_cons_zero, List.set_cons_succ]
            clear hS0
            have hS0 : w7.cell? ⟨w.heap.size, 0, none⟩ = some (.int .i64 n) ∧ w7.cell? ⟨w.heap.size, 1, none⟩ = some (.slice A bs.length c) ∧ w7.cell? ⟨w.heap.size, 2, none⟩ = some (.slice (some ⟨b2, o2, none⟩) cs.length c2) := ⟨((bcell hb8).1 _ _ hDl).trans p0, ((bcell hb8).1 _ _ hDl).trans p1, ((bcell hb8).1 _ _ hDl).trans p2⟩
            refine wpE_take' (v := ?_) 8 [12] (of_decide_eq_true (by kernel_rfl)) (by kernel_rfl) (by kernel_rfl) (by kernel_rfl) (by kernel_rfl) (fun _ _ _ h => h) (by kernel_rfl) ?_ hS0 ?_
            rotate_left
            · intro w' hSw
              simp only [List.getElem_toArray, List.getElem_cons_succ, List.getElem_cons_zero]
              go_simp
              all_goals with_reducible rfl
            simp only [List.getElem_toArray, List.getElem_cons_succ, List.getElem_cons_zero, Act.put, List.setIfInBounds_toArray, List.set_cons_zero, List.set_cons_succ]
            refine wpE_take' (v := ?_) 9 [12] (of_decide_eq_true (by kernel_rfl)) (by kernel_rfl) (by kernel_rfl) (by kernel_rfl) (by kernel_rfl) (fun _ _ _ h => h) (by kernel_rfl) ?_ hS0 ?_
            rotate_left
            · intro w' hSw
              simp only [List.getElem_toArray, List.getElem_cons_succ, List.getElem_cons_zero]
              go_simp
              all_goals with_reducible rfl
            simp only [List.getElem_toArray, List.getElem_cons_succ, List.getElem_cons_zero, Act.put, List.setIfInBounds_toArray, List.set_cons_zero, List.set_cons_succ]
            refine wpE_take' (v := ?_) 10 [12] (of_decide_eq_true (by kernel_rfl)) (by kernel_rfl) (by kernel_rfl) (by kernel_rfl) (by kernel_rfl) (fun _ _ _ h => h) (by kernel_rfl) ?_ hS0 ?_
            rotate_left
            · intro w' hSw
              simp only [List.getElem_toArray, List.getElem_cons_succ, List.getElem_cons_zero]
              go_simp
              all_goals with_reducible rfl
            simp only [List.getElem_toArray, List.getElem_cons_succ, List.getElem_cons_zero, Act.put, List.setIfInBounds_toArray, List.set_cons_zero, List.set_cons_succ]
            refine wpE_take' (v := ?_) 11 [12] (of_decide_eq_true (by kernel_rfl)) (by kernel_rfl) (by kernel_rfl) (by kernel_rfl) (by kernel_rfl) (fun _ _ _ h => h) (by kernel_rfl) ?_ hS0 ?_
            rotate_left
            · intro w' hSw
              simp only [List.getElem_toArray, List.getElem_cons_succ, List.getElem_cons_zero]
              go_simp
              all_goals with_reducible rfl
            simp only [List.getElem_toArray, List.getElem_cons_succ, List.getElem_cons_zero, Act.put, List.setIfInBounds_toArray, List.set_cons_zero, List.set_cons_succ]
            refine wpE_step' 12 (of_decide_eq_true (by kernel_rfl)) (by kernel_rfl) (by kernel_rfl) (fun K hK => ?_)
            simp only [List.getElem_toArray, List.getElem_cons_succ, List.getElem_cons_zero]
            go_simp
            refine hK.out _ _ (.inl rfl) ?_
            clear hK K
            simp only [Act.put, List.setIfInBounds_toArray, List.set_cons_zero, List.set_cons_succ]
            refine wpE_done (by kernel_rfl) ?_ _
            replace hD := hD.below hb8
            replace hK1 := (hK1.below hb8).more hb8.size
            cases r'
            · have HN : Hid (waysK ⟨n, bs⟩ cs m ks (k + 1) = []) := by
                unfold Hid
                rw [waysK_succ, HW.out, (headW_no Hqr.out).1]; rfl
              go_wp2_with fail
              go_roundg (l2.length - (k + 1))
              case measure => go_light; omega
              case rel => go_light; exact ⟨k + 1, by omega, rfl, by go_num, HN, hD, hK1⟩
            · have HE : Hid ((q', true) = (q, r)) := by
                have h1 : headW (waysK ⟨n, bs⟩ cs m ks (k + 1)) = (q', true) := by rw [waysK_succ, HW.out, List.nil_append]; exact Hqr.out
                have h2 := headW_pre (waysK_le ⟨n, bs⟩ cs m ks (k + 1) l2.length (by omega)) h1
                rw [← hcF.out, Hq.out] at h2
                exact h2.symm
              go_wp2_with fail
              go_ret2
              obtain ⟨rfl, rfl⟩ : q' = q ∧ true = r := ⟨(Prod.mk.inj HE.out).1, (Prod.mk.inj HE.out).2⟩
              exact ⟨A7, c7, b7, o7, rfl, hr7, Hl7.out, hD.bel⟩
        · obtain rfl : k = l2.length := by omega
          have HE : Hid (([], false) = (q, r)) := by
            have e := Hq.out
            rw [hcF.out, HW.out] at e
            exact e
          go_wp2_with fail
          go_ret2
          obtain ⟨rfl, rfl⟩ : ([] : List Int) = q ∧ false = r := ⟨(Prod.mk.inj HE.out).1, (Prod.mk.inj HE.out).2⟩
          exact ⟨_, 0, 0, 0, rfl, IntsR.nil _ _ _, fun h => absurd h (by simp), (hD.alloc _).bel⟩

set_option maxHeartbeats 2000000 in
set_option maxRecDepth 100000 in
theorem sFirstWayL_q (n : Int) (bs : List Bd) (cs : List (List Bd)) (q : List Int) (r : Bool) (hq : firstW ⟨n, bs⟩ cs = (q, r)) (A A2 : Option Addr) (b o c b2 o2 c2 B : Nat) (w : World) (hn : bs.length ≤ 2000000) (hn2 : cs.length ≤ 2000000) (hn3 : ∀ l ∈ cs, l.length ≤ 2000000) (hB : B ≤ w.heap.size) (hR : BdsR w B b o A bs) (hC : ChR w B b2 o2 A2 cs) :
    Calls Try.prog 55 #[.agg #[.int .i64 n, .slice A bs.length c, .slice A2 cs.length c2]] w fun e w' => ∃ A1 c1 b1 o1, e = .returned (.tuple #[.slice A1 q.length c1, .bool r]) ∧ IntsR w' w'.heap.size b1 o1 A1 q ∧ (0 < q.length → w.heap.size ≤ b1) ∧ Below w.heap.size w w' := by
  have hD := cc_new (n := n) (c := c) (c2 := c2) (t := 37) hB hR hC
  have H3 := hide hn3
  clear hR hC hB hn3
  unfold firstW Pp.ways at hq
  cases hc : caseOk ⟨n, bs⟩ cs
  · rw [hc] at hq
    have Hq : Hid ((([] : List Int), false) = (q, r)) := hq
    have H1 := hide hc
    clear hq hc
    go_enter Try.func55, Try.ntmps55
    go_upto_region 1 with fail
    generalize w.alloc (.cells #[.int .i64 n, .slice A bs.length c, .slice A2 cs.length c2] 37) = W at hD ⊢
    have p0 := hD.r.c0
    have p1 := hD.r.c1
    have p2 := hD.r.c2
    go_wp2_with (go_at_call 53; go_fit (sCaseOk_c n bs cs A A2 b o c b2 o2 c2 _ _ hn hn2 H3.out (Nat.le_refl _) hD.r.rd hD.r.rc); rintro e w2 ⟨rfl, hb⟩; rw [H1.out]; replace hD := hD.below hb; clear p0 p1 p2; have p0 := hD.r.c0; have p1 := hD.r.c1; have p2 := hD.r.c2)
    go_ret2
    obtain ⟨rfl, rfl⟩ : ([] : List Int) = q ∧ false = r := ⟨(Prod.mk.inj Hq.out).1, (Prod.mk.inj Hq.out).2⟩
    exact ⟨_, 0, 0, 0, rfl, IntsR.nil _ _ _, fun h => absurd h (by simp), (hD.alloc _).bel⟩
  · rw [hc, if_pos rfl] at hq
    have H1 := hide hc
    have hcall := fun (A3 : Option Addr) (c3 : Nat) (w1 : World) (h1 : RC w1 w.heap.size b o n A c bs b2 o2 A2 c2 cs) => l7First_q w.heap.size n bs cs hc A A2 b o c b2 o2 c2 cs.length [] q r hq A3 0 0 c3 _ w1 (by simp) (by simp) (Nat.le_refl _) h1.rd h1.rc
    clear hq hc
    go_enter Try.func55, Try.ntmps55
    go_upto_region 1 with fail
    generalize w.alloc (.cells #[.int .i64 n, .slice A bs.length c, .slice A2 cs.length c2] 37) = W at hD ⊢
    have p0 := hD.r.c0
    have p1 := hD.r.c1
    have p2 := hD.r.c2
    go_wp2_with (first
      | (go_at_call 53; go_fit (sCaseOk_c n bs cs A A2 b o c b2 o2 c2 _ _ hn hn2 H3.out (Nat.le_refl _) hD.r.rd hD.r.rc); rintro e w2 ⟨rfl, hb⟩; rw [H1.out]; replace hD := hD.below hb; clear p0 p1 p2; have p0 := hD.r.c0; have p1 := hD.r.c1; have p2 := hD.r.c2; have hx := hD.r.ex)
      | (go_at_call 108; replace hD := hD.alloc (.cells #[] 3); go_fit (hcall (some ⟨w2.heap.size, 0, none⟩) 0 _ hD.r ⟨fun h => absurd h (by simp), fun h => absurd h (by simp), fun j hj => absurd hj (by simp)⟩ (fun h => absurd h (by simp)) (Nat.le_of_lt hD.r.ex)); rintro e w3 ⟨A1, c1, b1, o1, rfl, hr1, hl1, hb⟩; have Hl1 := hide hl1; clear hl1; replace hD := hD.below hb; clear p0 p1 p2; have p0 := hD.r.c0; have p1 := hD.r.c1; have p2 := hD.r.c2))
    go_ret2
    exact ⟨A1, c1, b1, o1, rfl, hr1, Hl1.out, hD.bel⟩
theorem sFirstWay_q (n : Int) (bs : List Bd) (cs : List (List Bd)) (q : List Int) (r : Bool) (hq : firstW ⟨n, bs⟩ cs = (q, r)) (A A2 : Option Addr) (b o c b2 o2 c2 B : Nat) (w : World) (hn : bs.length ≤ 2000000) (hn2 : cs.length ≤ 2000000) (hn3 : ∀ l ∈ cs, l.length ≤ 2000000) (hB : B ≤ w.heap.size) (hR : BdsR w B b o A bs) (hC : ChR w B b2 o2 A2 cs) :
    Calls Try.prog 55 #[.agg #[.int .i64 n, .slice A bs.length c, .slice A2 cs.length c2]] w fun e w' => ∃ A1 c1 b1 o1, e = .returned (.tuple #[.slice A1 q.length c1, .bool r]) ∧ IntsR w' w'.heap.size b1 o1 A1 q ∧ Below w.heap.size w w' := by
  refine (sFirstWayL_q n bs cs q r hq A A2 b o c b2 o2 c2 B w hn hn2 hn3 hB hR hC).mono ?_
  rintro e w' ⟨A1, c1, b1, o1, h1, h2, _, h3⟩
  exact ⟨A1, c1, b1, o1, h1, h2, h3⟩
end Go.Proofs.Ytledgblepdjjlaa
