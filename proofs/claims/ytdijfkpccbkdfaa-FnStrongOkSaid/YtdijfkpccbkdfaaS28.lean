/-
  spec.l8Count, spec.CountFit.
-/
import Derived.Test.YtdijfkpccbkdfaaS24
import Derived.Test.YtdijfkpccbkdfaaS21
import Derived.Test.YtdijfkpccbkdfaaS2c
import Derived.Test.YtdijfkpccbkdfaaZ1
import Derived.Test.YtdijfkpccbkdfaaL24
import Derived.Test.YtdijfkpccbkdfaaI3
namespace Go.Proofs.Ytdijfkpccbkdfaa
set_option linter.unusedVariables false
set_option linter.unusedSimpArgs false
open Go.RowKit Pp

theorem countF_bound (p : Pl) (ps : List Pr) (hok : ∀ (i : Nat) (x : Pr), ps[i]? = some x → 0 ≤ x.l ∧ x.l ≤ x.h ∧ x.h ≤ 12) : ∀ (m : Nat) (ls : List Int), 0 ≤ countF p ps m ls ∧ countF p ps m ls ≤ (13 : Int) ^ m := by
  intro m
  induction m with
  | zero => intro ls; unfold countF; split <;> simp
  | succ m ih =>
    intro ls
    rw [countF]
    cases hx : ps[ls.length]? with
    | none => exact ⟨Int.le_refl _, Int.pow_nonneg (by omega)⟩
    | some x =>
      obtain ⟨h1, h2, h3⟩ := hok _ _ hx
      obtain ⟨N, hN⟩ : ∃ N, (x.h - x.l + 1).toNat = N := ⟨_, rfl⟩
      simp only [hN]
      have hN13 : (N : Int) ≤ 13 := by omega
      have hs : ∀ k : Nat, 0 ≤ ((List.range k).map fun (i : Nat) => countF p ps m (ls ++ [x.l + (i : Int)])).sum ∧ ((List.range k).map fun (i : Nat) => countF p ps m (ls ++ [x.l + (i : Int)])).sum ≤ k * (13 : Int) ^ m := by
        intro k
        induction k with
        | zero => simp
        | succ k ihk =>
          have h := ih (ls ++ [x.l + (k : Int)])
          have e : ((k + 1 : Nat) : Int) * (13 : Int) ^ m = k * (13 : Int) ^ m + (13 : Int) ^ m := by rw [Int.natCast_succ, Int.add_mul, Int.one_mul]
          rw [List.range_succ, List.map_append, List.sum_append, e]
          simp only [List.map_cons, List.map_nil, List.sum_cons, List.sum_nil]
          omega
      have h := hs N
      refine ⟨h.1, Int.le_trans h.2 ?_⟩
      rw [Int.pow_succ, Int.mul_comm]
      exact Int.mul_le_mul_of_nonneg_left hN13 (Int.pow_nonneg (by omega))
/-- The first k numbers' ways. -/
noncomputable def countK (p : Pl) (ps : List Pr) (m : Nat) (ls : List Int) (x : Pr) (k : Nat) : Int := ((List.range k).map fun (i : Nat) => countF p ps m (ls ++ [x.l + (i : Int)])).sum
theorem countK_succ (p : Pl) (ps : List Pr) (m : Nat) (ls : List Int) (x : Pr) (k : Nat) : countK p ps m ls x (k + 1) = countK p ps m ls x k + countF p ps m (ls ++ [x.l + (k : Int)]) := by
  simp [countK, List.range_succ]
theorem countK_bound (p : Pl) (ps : List Pr) (hok : ∀ (i : Nat) (x : Pr), ps[i]? = some x → 0 ≤ x.l ∧ x.l ≤ x.h ∧ x.h ≤ 12) (m : Nat) (ls : List Int) (x : Pr) (k : Nat) : 0 ≤ countK p ps m ls x k ∧ countK p ps m ls x k ≤ k * (13 : Int) ^ m := by
  induction k with
  | zero => simp [countK]
  | succ k ih =>
    have h := countF_bound p ps hok m (ls ++ [x.l + (k : Int)])
    have e : ((k + 1 : Nat) : Int) * (13 : Int) ^ m = k * (13 : Int) ^ m + (13 : Int) ^ m := by rw [Int.natCast_succ, Int.add_mul, Int.one_mul]
    rw [countK_succ, e]
    omega

set_option maxHeartbeats 2000000 in
set_option maxRecDepth 100000 in
theorem l8Count0_c (n : Int) (bs : List Bd) (ps : List Pr) (h12 : bs.length ≤ 12) (h2 : ps.length ≤ 2) (ls : List Int) (hm : ls.length = ps.length) (hsm : ∀ (i : Nat) (l : Int), ls[i]? = some l → 0 ≤ l ∧ l ≤ 12)
    (A A2 A3 : Option Addr) (b o c b2 o2 c2 b3 o3 c3 B : Nat) (w : World) (hB : B ≤ w.heap.size) (hR : BdsR w B b o A bs) (hP : CsR w B b2 o2 A2 ps.length (prCs ps)) (hL : IntsR w B b3 o3 A3 ls) :
    Calls Try.prog 87 #[.agg #[.int .i64 n, .slice A bs.length c, .slice A2 ps.length c2], .slice A3 ls.length c3] w fun e w' => e = .returned (.int .i64 (countF ⟨n, bs⟩ ps 0 ls)) ∧ Below w.heap.size w w' := by
  have hD := pd_new (n := n) (c := c) (c2 := c2) (t := 28) hB hR hP
  replace hL := hL.more hB
  clear hR hP hB
  obtain ⟨rs, hrs⟩ : ∃ rs, bs ++ forBs ps ls = rs := ⟨_, rfl⟩
  have hpl := fun (w1 : World) (h1 : RD w1 w.heap.size b o n A c bs b2 o2 A2 c2 ps) (h3 : IntsR w1 w1.heap.size b3 o3 A3 ls) => l8Plan_q n bs ps ls h12 h2 (by omega) hsm rs hrs A A2 A3 b o c b2 o2 c2 b3 o3 c3 _ w1 (Nat.le_refl _) h1.rd h1.rp h3
  have hrl : rs.length ≤ 2000000 := by have := forBs_length ps ls; rw [← hrs, List.length_append]; omega
  have hfe : Hid (countF ⟨n, bs⟩ ps 0 ls = if fits ⟨n, rs⟩ then 1 else 0) := by unfold Hid; rw [← hrs]; rfl
  clear hrs
  rw [hm] at hpl ⊢
  cases hf : fits ⟨n, rs⟩
  · have Hf := hide hf
    have Hr : Hid (countF ⟨n, bs⟩ ps 0 ls = 0) := by unfold Hid; rw [hfe.out, hf]; rfl
    clear hf hfe
    go_enter Try.func87, Try.ntmps87
    go_upto_region 1 with fail
    generalize w.alloc (.cells #[.int .i64 n, .slice A bs.length c, .slice A2 ps.length c2] 28) = W at hD ⊢
    have p0 := hD.r.c0
    have p1 := hD.r.c1
    have p2 := hD.r.c2
    go_wp2_with (first
      | (go_at_call 59; go_fit (hpl _ hD.r ((hL.below hD.bel).more hD.bel.size)); rintro e w2 ⟨A1, c1, g1, rfl, hr1, own1, hb⟩; replace hD := hD.below hb; clear p0 p1 p2; have p0 := hD.r.c0; have p1 := hD.r.c1; have p2 := hD.r.c2)
      | (go_at_call 85; go_fit (sFitsOk_c ⟨n, rs⟩ A1 g1 0 c1 _ _ hrl (Nat.le_refl _) hr1); rintro e w3 ⟨rfl, hb⟩; rw [Hf.out]; replace hD := hD.below hb; clear p0 p1 p2; have p0 := hD.r.c0; have p1 := hD.r.c1; have p2 := hD.r.c2))
    go_ret
    exact ⟨by rw [Hr.out]; rfl, hD.bel⟩
  · have Hf := hide hf
    have Hr : Hid (countF ⟨n, bs⟩ ps 0 ls = 1) := by unfold Hid; rw [hfe.out, hf]; rfl
    clear hf hfe
    go_enter Try.func87, Try.ntmps87
    go_upto_region 1 with fail
    generalize w.alloc (.cells #[.int .i64 n, .slice A bs.length c, .slice A2 ps.length c2] 28) = W at hD ⊢
    have p0 := hD.r.c0
    have p1 := hD.r.c1
    have p2 := hD.r.c2
    go_wp2_with (first
      | (go_at_call 59; go_fit (hpl _ hD.r ((hL.below hD.bel).more hD.bel.size)); rintro e w2 ⟨A1, c1, g1, rfl, hr1, own1, hb⟩; replace hD := hD.below hb; clear p0 p1 p2; have p0 := hD.r.c0; have p1 := hD.r.c1; have p2 := hD.r.c2)
      | (go_at_call 85; go_fit (sFitsOk_c ⟨n, rs⟩ A1 g1 0 c1 _ _ hrl (Nat.le_refl _) hr1); rintro e w3 ⟨rfl, hb⟩; rw [Hf.out]; replace hD := hD.below hb; clear p0 p1 p2; have p0 := hD.r.c0; have p1 := hD.r.c1; have p2 := hD.r.c2))
    go_ret
    exact ⟨by rw [Hr.out]; rfl, hD.bel⟩

set_option maxHeartbeats 4000000 in
set_option maxRecDepth 100000 in
theorem l8Count_q (n : Int) (bs : List Bd) (ps : List Pr) (h12 : bs.length ≤ 12) (h2 : ps.length ≤ 2) (hok : ∀ (i : Nat) (x : Pr), ps[i]? = some x → 0 ≤ x.l ∧ x.l ≤ x.h ∧ x.h ≤ 12) (A A2 : Option Addr) (b o c b2 o2 c2 : Nat) : ∀ (m : Nat) (ls : List Int) (A3 : Option Addr) (b3 o3 c3 B : Nat) (w : World), ls.length + m = ps.length → (∀ (i : Nat) (l : Int), ls[i]? = some l → 0 ≤ l ∧ l ≤ 12) →
    B ≤ w.heap.size → BdsR w B b o A bs → CsR w B b2 o2 A2 ps.length (prCs ps) → IntsR w B b3 o3 A3 ls →
    Calls Try.prog 87 #[.agg #[.int .i64 n, .slice A bs.length c, .slice A2 ps.length c2], .slice A3 ls.length c3] w fun e w' => e = .returned (.int .i64 (countF ⟨n, bs⟩ ps m ls)) ∧ Below w.heap.size w w' := by
  intro m
  induction m with
  | zero =>
    intro ls A3 b3 o3 c3 B w hm hsm hB hR hP hL
    exact l8Count0_c n bs ps h12 h2 ls (by omega) hsm A A2 A3 b o c b2 o2 c2 b3 o3 c3 B w hB hR hP hL
  | succ m ih =>
    intro ls A3 b3 o3 c3 B w hm hsm hB hR hP hL
    obtain ⟨i0, hi0, hz0, hz1, hz2⟩ := info_parts infoI
    have hlt : ls.length < ps.length := by omega
    have hz : ¬ (ls.length : Int) = (ps.length : Int) := by omega
    have hlt' : (ls.length : Int) < (ps.length : Int) := by omega
    have hl0 : (0 : Int) ≤ (ls.length : Int) := by omega
    obtain rfl := hP.addr (by omega)
    have hx := List.getElem?_eq_getElem hlt
    have hxo := hok _ _ hx
    have hcF : Hid (countF ⟨n, bs⟩ ps (m + 1) ls = countK ⟨n, bs⟩ ps m ls ps[ls.length] (ps[ls.length].h - ps[ls.length].l + 1).toNat) := by unfold Hid countK; rw [countF, hx]
    have hD := pd_new (n := n) (c := c) (c2 := c2) (t := 28) hB hR hP
    have hL1 := ((hL.more hB).below hD.bel).more hD.bel.size
    clear hR hP hB hL
    obtain ⟨d0, d1, d2', d3⟩ := pr_cells hD.r.rp hx
    generalize ps[ls.length] = x at hx hxo d0 d1 d2' d3 hcF
    obtain ⟨hx1, hx2, hx3⟩ := hxo
    clear hx
    obtain ⟨N, hN⟩ : ∃ N, (x.h - x.l + 1).toNat = N := ⟨_, rfl⟩
    rw [hN] at hcF
    have hN2 : (N : Int) = x.h - x.l + 1 := by omega
    clear hN
    go_enter Try.func87, Try.ntmps87
    go_upto_region 7 with fail
    try (rename ((ls.length : Int) == (ps.length : Int)) = false => hee; clear hee)
    clear hz
    have hWs : (w.alloc (.cells #[.int .i64 n, .slice A bs.length c, .slice (some ⟨b2, o2, none⟩) ps.length c2] 28)).heap.size = w.heap.size + 1 := by simp
    generalize w.alloc (.cells #[.int .i64 n, .slice A bs.length c, .slice (some ⟨b2, o2, none⟩) ps.length c2] 28) = W at hD hL1 d0 d1 d2' d3 hWs ⊢
    have hQ := cb_new W [.int .i64 x.f, .int .i64 x.t, .int .i64 x.l, .int .i64 x.h] 40
    rw [hWs] at hQ
    have hal : Below W.heap.size W (W.alloc (.cells #[.int .i64 x.f, .int .i64 x.t, .int .i64 x.l, .int .i64 x.h] 40)) := by go_grown
    replace hD := hD.below hal
    replace hL1 := (hL1.below hal).more hal.size
    clear d0 d1 d2' d3 hWs hal
    generalize W.alloc (.cells #[.int .i64 x.f, .int .i64 x.t, .int .i64 x.l, .int .i64 x.h] 40) = W1 at hD hL1 hQ ⊢
    generalize w.heap.size + 1 = Xb at hQ ⊢
    have q2 := hQ.c 2 _ rfl
    go_wp2_with fail
    go_loopg [7, 5] N (fun gh s t wr => ∃ k : Nat, k ≤ N ∧ gh = N - k ∧ s = .int .i64 (x.l + k) ∧ t = .int .i64 (countK ⟨n, bs⟩ ps m ls x k) ∧ PD w wr w.heap.size b o n A c bs b2 o2 (some ⟨b2, o2, none⟩) c2 ps ∧ IntsR wr wr.heap.size b3 o3 A3 ls ∧ CB wr Xb [.int .i64 x.f, .int .i64 x.t, .int .i64 x.l, .int .i64 x.h])
    case atStart => exact ⟨0, Nat.zero_le _, rfl, by simp, by simp [countK], hD, hL1, hQ⟩
    case round =>
      clear hQ hD hL1 q2
      obtain ⟨k, hk, rfl, rfl, rfl, hD, hL1, hQ⟩ := hrel
      have q3 := hQ.c 3 _ rfl
      obtain ⟨p0, p1, p2⟩ : _ ∧ _ ∧ _ := ⟨hD.r.c0, hD.r.c1, hD.r.c2⟩
      by_cases hlk : k < N
      · have hc : x.l + (k : Int) ≤ x.h := by omega
        obtain ⟨v, hv⟩ : ∃ v : Int, x.l + (k : Int) = v := ⟨_, rfl⟩
        have Hv := hide hv
        have Hv2 : Hid (v + 1 = x.l + ((k + 1 : Nat) : Int)) := by unfold Hid; omega
        rw [hv] at hc ⊢
        have hv1 : 0 ≤ v ∧ v ≤ 12 := by omega
        obtain ⟨hv2, hv3⟩ := hv1
        clear hv
        obtain ⟨t, ht⟩ : ∃ t, countK ⟨n, bs⟩ ps m ls x k = t := ⟨_, rfl⟩
        have Ht := hide ht
        rw [ht]
        have h13 : (13 : Int) ^ m = 1 ∨ (13 : Int) ^ m = 13 := by
          have : m = 0 ∨ m = 1 := by omega
          rcases this with rfl | rfl <;> simp
        have ht2 : 0 ≤ t ∧ t ≤ 1000 := by
          have h := countK_bound ⟨n, bs⟩ ps hok m ls x k
          rw [ht] at h
          rcases h13 with e | e <;> rw [e] at h <;> omega
        obtain ⟨r, hrc⟩ : ∃ r, countF ⟨n, bs⟩ ps m (ls ++ [v]) = r := ⟨_, rfl⟩
        have hr2 : 0 ≤ r ∧ r ≤ 13 := by
          have h := countF_bound ⟨n, bs⟩ ps hok m (ls ++ [v])
          rw [hrc] at h
          rcases h13 with e | e <;> rw [e] at h <;> omega
        obtain ⟨ht0, ht1⟩ := ht2
        obtain ⟨hr0, hr1⟩ := hr2
        replace hrc := hide hrc
        have hsm5 : ∀ (i : Nat) (l : Int), (ls ++ [v])[i]? = some l → 0 ≤ l ∧ l ≤ 12 := by
          intro i l hi
          rw [List.getElem?_append] at hi
          split at hi
          · exact hsm i l hi
          · have : l = v := by
              cases h0 : i - ls.length with
              | zero => rw [h0] at hi; simpa [eq_comm] using hi
              | succ j => rw [h0] at hi; simp at hi
            omega
        have hDl : w.heap.size < wr.heap.size := hD.r.ex
        have hwr : Hid (IntKind.i64.wrap (t + r) = t + r) := by unfold Hid; rw [IntWalk.i64_left, IntWalk.wrap64_in _ (by omega)]
        clear ht h13
        go_upto_region 10 with fail
        refine wp_regionE (fun w' => w'.cell? ⟨w.heap.size, 0, none⟩ = some (.int .i64 n) ∧ w'.cell? ⟨w.heap.size, 1, none⟩ = some (.slice A bs.length c) ∧ w'.cell? ⟨w.heap.size, 2, none⟩ = some (.slice (some ⟨b2, o2, none⟩) ps.length c2)) 10 (by kernel_rfl) ?_
        change wpE _ _ _ _ _ _ 11 #[false, false, false, false, false, false, false, false, false, false, false] _ _
        have hS0 : wr.drew.cell? ⟨w.heap.size, 0, none⟩ = some (.int .i64 n) ∧ wr.drew.cell? ⟨w.heap.size, 1, none⟩ = some (.slice A bs.length c) ∧ wr.drew.cell? ⟨w.heap.size, 2, none⟩ = some (.slice (some ⟨b2, o2, none⟩) ps.length c2) := ⟨p0, p1, p2⟩
        refine wpE_take' (v := ?_) 0 [9, 10] (of_decide_eq_true (by kernel_rfl)) (by kernel_rfl) (by kernel_rfl) (by kernel_rfl) (by kernel_rfl) (fun _ _ _ h => h) (by kernel_rfl) ?_ hS0 ?_
        rotate_left
        · intro w' hSw
          simp only [List.getElem_toArray, List.getElem_cons_succ, List.getElem_cons_zero]
          go_simp
          all_goals with_reducible rfl
        simp only [List.getElem_toArray, List.getElem_cons_succ, List.getElem_cons_zero, Act.put, List.setIfInBounds_toArray, List.set_cons_zero, List.set_cons_succ]
        refine wpE_take' (v := ?_) 1 [8, 9, 10] (of_decide_eq_true (by kernel_rfl)) (by kernel_rfl) (by kernel_rfl) (by kernel_rfl) (by kernel_rfl) (fun _ _ _ h => h) (by kernel_rfl) ?_ hS0 ?_
        rotate_left
        · intro w' hSw
          simp only [List.getElem_toArray, List.getElem_cons_succ, List.getElem_cons_zero]
          go_simp
          all_goals with_reducible rfl
        simp only [List.getElem_toArray, List.getElem_cons_succ, List.getElem_cons_zero, Act.put, List.setIfInBounds_toArray, List.set_cons_zero, List.set_cons_succ]
        refine wpE_take' (v := ?_) 3 [4, 7, 8, 9, 10] (of_decide_eq_true (by kernel_rfl)) (by kernel_rfl) (by kernel_rfl) (by kernel_rfl) (by kernel_rfl) (fun _ _ _ h => h) (by kernel_rfl) ?_ hS0 ?_
        rotate_left
        · intro w' hSw
          simp only [List.getElem_toArray, List.getElem_cons_succ, List.getElem_cons_zero]
          go_simp
          all_goals with_reducible rfl
        simp only [List.getElem_toArray, List.getElem_cons_succ, List.getElem_cons_zero, Act.put, List.setIfInBounds_toArray, List.set_cons_zero, List.set_cons_succ]
        refine wpE_take' (v := ?_) 5 [6, 7, 8, 9, 10] (of_decide_eq_true (by kernel_rfl)) (by kernel_rfl) (by kernel_rfl) (by kernel_rfl) (by kernel_rfl) (fun _ _ _ h => h) (by kernel_rfl) ?_ hS0 ?_
        rotate_left
        · intro w' hSw
          simp only [List.getElem_toArray, List.getElem_cons_succ, List.getElem_cons_zero]
          go_simp
          all_goals with_reducible rfl
        simp only [List.getElem_toArray, List.getElem_cons_succ, List.getElem_cons_zero, Act.put, List.setIfInBounds_toArray, List.set_cons_zero, List.set_cons_succ]
        refine wpE_two 2 6 (of_decide_eq_true (by kernel_rfl)) (of_decide_eq_true (by kernel_rfl)) (by kernel_rfl) (by kernel_rfl) (by kernel_rfl) (fun K hK => ?_) (fun K hK => ?_)
        · simp only [List.getElem_toArray, List.getElem_cons_succ, List.getElem_cons_zero]
          go_simp
          have hb1 : Below wr.heap.size wr (wr.alloc (.cells #[] 3)).drew := by go_grown
          have hE1 : (wr.alloc (.cells #[] 3)).drew.heap[wr.heap.size]? = some (.cells #[] 3 (0, 0)) := at_new (w := wr) rfl
          have hs1 : wr.heap.size < (wr.alloc (.cells #[] 3)).drew.heap.size := by simp
          refine hK.out _ _ (.inr ⟨((bcell hb1).1 _ _ hDl).trans p0, ((bcell hb1).1 _ _ hDl).trans p1, ((bcell hb1).1 _ _ hDl).trans p2⟩) ?_
          clear hK K
          simp only [Act.put, List.setIfInBounds_toArray, List.set_cons_zero, List.set_cons_succ]
          generalize (wr.alloc (.cells #[] 3)).drew = W1 at hb1 hE1 hs1 ⊢
          refine wpE_two 4 6 (of_decide_eq_true (by kernel_rfl)) (of_decide_eq_true (by kernel_rfl)) (by kernel_rfl) (by kernel_rfl) (by kernel_rfl) (fun K hK => ?_) (fun K hK => ?_)
          · simp only [List.getElem_toArray, List.getElem_cons_succ, List.getElem_cons_zero]
            have own0 := own_empty (base := wr.heap.size) (size := 1) hE1 (Nat.le_refl _)
            refine app_wp _ (.tmp 34) (.tmp 35) _ rfl wr.heap.size 3 i0 _ 1 8 Try.underlying29 hi0 hz0 hz1 hz2 rfl (by omega) (.slice (some ⟨wr.heap.size, 0, none⟩) 0 0) 0 [] rfl own0 A3 ls.length c3 (ls.map (Value.int .i64)) rfl (by simp) ((hL1.below hb1).news) (ints_one ls) (by omega) (by omega) (Below.size hb1) ?_
            intro A4 c4 w4 hown4 hg4 hat4
            simp only [Nat.zero_add, List.nil_append] at hown4 ⊢
            have hb4 : Below wr.heap.size wr w4 := below_app hb1 own0 hg4 (Nat.le_refl _) (Below.size hb1)
            refine hK.out _ _ (.inr ⟨((bcell hb4).1 _ _ hDl).trans p0, ((bcell hb4).1 _ _ hDl).trans p1, ((bcell hb4).1 _ _ hDl).trans p2⟩) ?_
            clear hK K
            simp only [Act.put, List.setIfInBounds_toArray, List.set_cons_zero, List.set_cons_succ]
            refine wpE_step' 6 (of_decide_eq_true (by kernel_rfl)) (by kernel_rfl) (by kernel_rfl) (fun K hK => ?_)
            simp only [List.getElem_toArray, List.getElem_cons_succ, List.getElem_cons_zero]
            go_simp
            have hq : (w4.alloc (.cells #[.int .i64 v] 3)).heap[w4.heap.size]? = some (.cells #[.int .i64 v] 3 (0, 0)) := at_new rfl
            have hb6 : Below wr.heap.size wr (w4.alloc (.cells #[.int .i64 v] 3)) := bthen hb4 (by go_grown)
            have own6 := hown4.alloc (.cells #[.int .i64 v] 3)
            refine hK.out _ _ (.inr ⟨((bcell hb6).1 _ _ hDl).trans p0, ((bcell hb6).1 _ _ hDl).trans p1, ((bcell hb6).1 _ _ hDl).trans p2⟩) ?_
            clear hK K
            simp only [Act.put, List.setIfInBounds_toArray, List.set_cons_zero, List.set_cons_succ]
            refine wpE_step' 7 (of_decide_eq_true (by kernel_rfl)) (by kernel_rfl) (by kernel_rfl) (fun K hK => ?_)
            simp only [List.getElem_toArray, List.getElem_cons_succ, List.getElem_cons_zero]
            refine app_wp _ (.tmp 36) (.tmp 38) _ rfl wr.heap.size 3 i0 _ 1 8 Try.underlying29 hi0 hz0 hz1 hz2 rfl (by omega) (.slice A4 ls.length c4) ls.length (ls.map (Value.int .i64)) rfl own6 _ 1 _ [.int .i64 v] rfl rfl (NewsAt.block (cs := #[.int .i64 v]) hq) (by simp [Value.oneCell']) (by omega) (by omega) hb6.size ?_
            intro A5 c5 w5 hown5 hg5 hat5
            have hb5 : Below wr.heap.size wr w5 := below_app hb6 own6 hg5 (Nat.le_refl _) hb6.size
            have hlen5 : (ls ++ [v]).length = ls.length + 1 := by simp
            have hI9 : OwnI wr.heap.size w5 (.slice A5 (ls ++ [v]).length c5) (ls ++ [v]) := by unfold OwnI; rw [hlen5, List.map_append]; exact hown5
            obtain ⟨g5, hr5⟩ := own_IntsR hI9
            have hD5 := hD.below hb5
            refine hK.out _ _ (.inr ⟨((bcell hb5).1 _ _ hDl).trans p0, ((bcell hb5).1 _ _ hDl).trans p1, ((bcell hb5).1 _ _ hDl).trans p2⟩) ?_
            clear hK K
            simp only [Act.put, List.setIfInBounds_toArray, List.set_cons_zero, List.set_cons_succ]
            refine wpE_step' 8 (of_decide_eq_true (by kernel_rfl)) (by kernel_rfl) (by kernel_rfl) (fun K hK => ?_)
            simp only [List.getElem_toArray, List.getElem_cons_succ, List.getElem_cons_zero]
            go_simp
            go_at_call 87
            have hcall := ih (ls ++ [v]) A5 g5 0 c5 _ w5 (by simp; omega) hsm5 (Nat.le_refl _) hD5.r.rd hD5.r.rp hr5
            rw [hlen5, hrc.out] at hcall
            refine hcall.mono ?_
            clear hcall
            rintro e w7 ⟨rfl, hb7⟩
            have hb8 := bthen hb5 hb7
            refine hK.out _ _ (.inr ⟨((bcell hb8).1 _ _ hDl).trans p0, ((bcell hb8).1 _ _ hDl).trans p1, ((bcell hb8).1 _ _ hDl).trans p2⟩) ?_
            clear hK K
            simp only [Act.put, List.setIfInBounds_toArray, List.set_cons_zero, List.set_cons_succ]
            refine wpE_step' 9 (of_decide_eq_true (by kernel_rfl)) (by kernel_rfl) (by kernel_rfl) (fun K hK => ?_)
            simp only [List.getElem_toArray, List.getElem_cons_succ, List.getElem_cons_zero]
            go_simp
            refine hK.out _ _ (.inr ⟨((bcell hb8).1 _ _ hDl).trans p0, ((bcell hb8).1 _ _ hDl).trans p1, ((bcell hb8).1 _ _ hDl).trans p2⟩) ?_
            clear hK K
            simp only [Act.put, List.setIfInBounds_toArray, List.set_cons_zero, List.set_cons_succ]
            refine wpE_step' 10 (of_decide_eq_true (by kernel_rfl)) (by kernel_rfl) (by kernel_rfl) (fun K hK => ?_)
            simp only [List.getElem_toArray, List.getElem_cons_succ, List.getElem_cons_zero]
            go_simp
            refine hK.out _ _ (.inl rfl) ?_
            clear hK K
            simp only [Act.put, List.setIfInBounds_toArray, List.set_cons_zero, List.set_cons_succ]
            refine wpE_done (by kernel_rfl) ?_ _
            replace hD := hD.below hb8
            replace hL1 := (hL1.below hb8).more hb8.size
            replace hQ := hQ.below hb8
            go_wp2_with fail
            go_roundg (N - (k + 1))
            case measure => go_light; omega
            case rel => go_light; exact ⟨k + 1, by omega, rfl, by rw [← Hv2.out], by rw [countK_succ, Hv.out, hrc.out, Ht.out, hwr.out], hD, hL1, hQ⟩
          · simp only [List.getElem_toArray, List.getElem_cons_succ, List.getElem_cons_zero]
            go_simp
            have hb2 : Below wr.heap.size wr (W1.alloc (.cells #[.int .i64 v] 3)) := bthen hb1 (by go_grown)
            have hE2 : (W1.alloc (.cells #[.int .i64 v] 3)).heap[wr.heap.size]? = some (.cells #[] 3 (0, 0)) := at_old hE1
            have hV2 : (W1.alloc (.cells #[.int .i64 v] 3)).heap[W1.heap.size]? = some (.cells #[.int .i64 v] 3 (0, 0)) := at_new rfl
            have hs2 : W1.heap.size < (W1.alloc (.cells #[.int .i64 v] 3)).heap.size := by simp
            refine hK.out _ _ (.inr ⟨((bcell hb2).1 _ _ hDl).trans p0, ((bcell hb2).1 _ _ hDl).trans p1, ((bcell hb2).1 _ _ hDl).trans p2⟩) ?_
            clear hK K
            simp only [Act.put, List.setIfInBounds_toArray, List.set_cons_zero, List.set_cons_succ]
            generalize (W1.alloc (.cells #[.int .i64 v] 3)) = W2 at hb2 hE2 hV2 hs2 ⊢
            refine wpE_step' 4 (of_decide_eq_true (by kernel_rfl)) (by kernel_rfl) (by kernel_rfl) (fun K hK => ?_)
            simp only [List.getElem_toArray, List.getElem_cons_succ, List.getElem_cons_zero]
            have own0 := own_empty (base := wr.heap.size) (size := 1) hE2 (Nat.le_refl _)
            refine app_wp _ (.tmp 34) (.tmp 35) _ rfl wr.heap.size 3 i0 _ 1 8 Try.underlying29 hi0 hz0 hz1 hz2 rfl (by omega) (.slice (some ⟨wr.heap.size, 0, none⟩) 0 0) 0 [] rfl own0 A3 ls.length c3 (ls.map (Value.int .i64)) rfl (by simp) ((hL1.below hb2).news) (ints_one ls) (by omega) (by omega) (Below.size hb2) ?_
            intro A4 c4 w4 hown4 hg4 hat4
            simp only [Nat.zero_add, List.nil_append] at hown4 ⊢
            have hb4 : Below wr.heap.size wr w4 := below_app hb2 own0 hg4 (Nat.le_refl _) (Below.size hb2)
            have hq : w4.heap[W1.heap.size]? = some (.cells #[.int .i64 v] 3 (0, 0)) := (hg4.block _ hs2 (by simp [Value.ownBlock]; omega)).trans hV2
            have hb6 := hb4
            have own6 := hown4
            refine hK.out _ _ (.inr ⟨((bcell hb6).1 _ _ hDl).trans p0, ((bcell hb6).1 _ _ hDl).trans p1, ((bcell hb6).1 _ _ hDl).trans p2⟩) ?_
            clear hK K
            simp only [Act.put, List.setIfInBounds_toArray, List.set_cons_zero, List.set_cons_succ]
            refine wpE_step' 7 (of_decide_eq_true (by kernel_rfl)) (by kernel_rfl) (by kernel_rfl) (fun K hK => ?_)
            simp only [List.getElem_toArray, List.getElem_cons_succ, List.getElem_cons_zero]
            refine app_wp _ (.tmp 36) (.tmp 38) _ rfl wr.heap.size 3 i0 _ 1 8 Try.underlying29 hi0 hz0 hz1 hz2 rfl (by omega) (.slice A4 ls.length c4) ls.length (ls.map (Value.int .i64)) rfl own6 _ 1 _ [.int .i64 v] rfl rfl (NewsAt.block (cs := #[.int .i64 v]) hq) (by simp [Value.oneCell']) (by omega) (by omega) hb6.size ?_
            intro A5 c5 w5 hown5 hg5 hat5
            have hb5 : Below wr.heap.size wr w5 := below_app hb6 own6 hg5 (Nat.le_refl _) hb6.size
            have hlen5 : (ls ++ [v]).length = ls.length + 1 := by simp
            have hI9 : OwnI wr.heap.size w5 (.slice A5 (ls ++ [v]).length c5) (ls ++ [v]) := by unfold OwnI; rw [hlen5, List.map_append]; exact hown5
            obtain ⟨g5, hr5⟩ := own_IntsR hI9
            have hD5 := hD.below hb5
            refine hK.out _ _ (.inr ⟨((bcell hb5).1 _ _ hDl).trans p0, ((bcell hb5).1 _ _ hDl).trans p1, ((bcell hb5).1 _ _ hDl).trans p2⟩) ?_
            clear hK K
            simp only [Act.put, List.setIfInBounds_toArray, List.set_cons_zero, List.set_cons_succ]
            refine wpE_step' 8 (of_decide_eq_true (by kernel_rfl)) (by kernel_rfl) (by kernel_rfl) (fun K hK => ?_)
            simp only [List.getElem_toArray, List.getElem_cons_succ, List.getElem_cons_zero]
            go_simp
            go_at_call 87
            have hcall := ih (ls ++ [v]) A5 g5 0 c5 _ w5 (by simp; omega) hsm5 (Nat.le_refl _) hD5.r.rd hD5.r.rp hr5
            rw [hlen5, hrc.out] at hcall
            refine hcall.mono ?_
            clear hcall
            rintro e w7 ⟨rfl, hb7⟩
            have hb8 := bthen hb5 hb7
            refine hK.out _ _ (.inr ⟨((bcell hb8).1 _ _ hDl).trans p0, ((bcell hb8).1 _ _ hDl).trans p1, ((bcell hb8).1 _ _ hDl).trans p2⟩) ?_
            clear hK K
            simp only [Act.put, List.setIfInBounds_toArray, List.set_cons_zero, List.set_cons_succ]
            refine wpE_step' 9 (of_decide_eq_true (by kernel_rfl)) (by kernel_rfl) (by kernel_rfl) (fun K hK => ?_)
            simp only [List.getElem_toArray, List.getElem_cons_succ, List.getElem_cons_zero]
            go_simp
            refine hK.out _ _ (.inr ⟨((bcell hb8).1 _ _ hDl).trans p0, ((bcell hb8).1 _ _ hDl).trans p1, ((bcell hb8).1 _ _ hDl).trans p2⟩) ?_
            clear hK K
            simp only [Act.put, List.setIfInBounds_toArray, List.set_cons_zero, List.set_cons_succ]
            refine wpE_step' 10 (of_decide_eq_true (by kernel_rfl)) (by kernel_rfl) (by kernel_rfl) (fun K hK => ?_)
            simp only [List.getElem_toArray, List.getElem_cons_succ, List.getElem_cons_zero]
            go_simp
            refine hK.out _ _ (.inl rfl) ?_
            clear hK K
            simp only [Act.put, List.setIfInBounds_toArray, List.set_cons_zero, List.set_cons_succ]
            refine wpE_done (by kernel_rfl) ?_ _
            replace hD := hD.below hb8
            replace hL1 := (hL1.below hb8).more hb8.size
            replace hQ := hQ.below hb8
            go_wp2_with fail
            go_roundg (N - (k + 1))
            case measure => go_light; omega
            case rel => go_light; exact ⟨k + 1, by omega, rfl, by rw [← Hv2.out], by rw [countK_succ, Hv.out, hrc.out, Ht.out, hwr.out], hD, hL1, hQ⟩
        · simp only [List.getElem_toArray, List.getElem_cons_succ, List.getElem_cons_zero]
          go_simp
          have hb1 : Below wr.heap.size wr (wr.alloc (.cells #[.int .i64 v] 3)).drew := by go_grown
          have hV1 : (wr.alloc (.cells #[.int .i64 v] 3)).drew.heap[wr.heap.size]? = some (.cells #[.int .i64 v] 3 (0, 0)) := at_new (w := wr) rfl
          have hs1 : wr.heap.size < (wr.alloc (.cells #[.int .i64 v] 3)).drew.heap.size := by simp
          refine hK.out _ _ (.inr ⟨((bcell hb1).1 _ _ hDl).trans p0, ((bcell hb1).1 _ _ hDl).trans p1, ((bcell hb1).1 _ _ hDl).trans p2⟩) ?_
          clear hK K
          simp only [Act.put, List.setIfInBounds_toArray, List.set_cons_zero, List.set_cons_succ]
          generalize (wr.alloc (.cells #[.int .i64 v] 3)).drew = W1 at hb1 hV1 hs1 ⊢
          refine wpE_step' 2 (of_decide_eq_true (by kernel_rfl)) (by kernel_rfl) (by kernel_rfl) (fun K hK => ?_)
          simp only [List.getElem_toArray, List.getElem_cons_succ, List.getElem_cons_zero]
          go_simp
          have hb2 : Below wr.heap.size wr (W1.alloc (.cells #[] 3)) := bthen hb1 (by go_grown)
          have hE2 : (W1.alloc (.cells #[] 3)).heap[W1.heap.size]? = some (.cells #[] 3 (0, 0)) := at_new rfl
          have hV2 : (W1.alloc (.cells #[] 3)).heap[wr.heap.size]? = some (.cells #[.int .i64 v] 3 (0, 0)) := at_old hV1
          have hs2 : wr.heap.size < (W1.alloc (.cells #[] 3)).heap.size := by simp; omega
          refine hK.out _ _ (.inr ⟨((bcell hb2).1 _ _ hDl).trans p0, ((bcell hb2).1 _ _ hDl).trans p1, ((bcell hb2).1 _ _ hDl).trans p2⟩) ?_
          clear hK K
          simp only [Act.put, List.setIfInBounds_toArray, List.set_cons_zero, List.set_cons_succ]
          generalize (W1.alloc (.cells #[] 3)) = W2 at hb2 hE2 hV2 hs2 ⊢
          refine wpE_step' 4 (of_decide_eq_true (by kernel_rfl)) (by kernel_rfl) (by kernel_rfl) (fun K hK => ?_)
          simp only [List.getElem_toArray, List.getElem_cons_succ, List.getElem_cons_zero]
          have own0 := own_empty (base := wr.heap.size) (size := 1) hE2 (Nat.le_of_lt hs1)
          refine app_wp _ (.tmp 34) (.tmp 35) _ rfl wr.heap.size 3 i0 _ 1 8 Try.underlying29 hi0 hz0 hz1 hz2 rfl (by omega) (.slice (some ⟨W1.heap.size, 0, none⟩) 0 0) 0 [] rfl own0 A3 ls.length c3 (ls.map (Value.int .i64)) rfl (by simp) ((hL1.below hb2).news) (ints_one ls) (by omega) (by omega) (Below.size hb2) ?_
          intro A4 c4 w4 hown4 hg4 hat4
          simp only [Nat.zero_add, List.nil_append] at hown4 ⊢
          have hb4 : Below wr.heap.size wr w4 := below_app hb2 own0 hg4 (Nat.le_refl _) (Below.size hb2)
          have hq : w4.heap[wr.heap.size]? = some (.cells #[.int .i64 v] 3 (0, 0)) := (hg4.block _ hs2 (by simp [Value.ownBlock]; omega)).trans hV2
          have hb6 := hb4
          have own6 := hown4
          refine hK.out _ _ (.inr ⟨((bcell hb6).1 _ _ hDl).trans p0, ((bcell hb6).1 _ _ hDl).trans p1, ((bcell hb6).1 _ _ hDl).trans p2⟩) ?_
          clear hK K
          simp only [Act.put, List.setIfInBounds_toArray, List.set_cons_zero, List.set_cons_succ]
          refine wpE_step' 7 (of_decide_eq_true (by kernel_rfl)) (by kernel_rfl) (by kernel_rfl) (fun K hK => ?_)
          simp only [List.getElem_toArray, List.getElem_cons_succ, List.getElem_cons_zero]
          refine app_wp _ (.tmp 36) (.tmp 38) _ rfl wr.heap.size 3 i0 _ 1 8 Try.underlying29 hi0 hz0 hz1 hz2 rfl (by omega) (.slice A4 ls.length c4) ls.length (ls.map (Value.int .i64)) rfl own6 _ 1 _ [.int .i64 v] rfl rfl (NewsAt.block (cs := #[.int .i64 v]) hq) (by simp [Value.oneCell']) (by omega) (by omega) hb6.size ?_
          intro A5 c5 w5 hown5 hg5 hat5
          have hb5 : Below wr.heap.size wr w5 := below_app hb6 own6 hg5 (Nat.le_refl _) hb6.size
          have hlen5 : (ls ++ [v]).length = ls.length + 1 := by simp
          have hI9 : OwnI wr.heap.size w5 (.slice A5 (ls ++ [v]).length c5) (ls ++ [v]) := by unfold OwnI; rw [hlen5, List.map_append]; exact hown5
          obtain ⟨g5, hr5⟩ := own_IntsR hI9
          have hD5 := hD.below hb5
          refine hK.out _ _ (.inr ⟨((bcell hb5).1 _ _ hDl).trans p0, ((bcell hb5).1 _ _ hDl).trans p1, ((bcell hb5).1 _ _ hDl).trans p2⟩) ?_
          clear hK K
          simp only [Act.put, List.setIfInBounds_toArray, List.set_cons_zero, List.set_cons_succ]
          refine wpE_step' 8 (of_decide_eq_true (by kernel_rfl)) (by kernel_rfl) (by kernel_rfl) (fun K hK => ?_)
          simp only [List.getElem_toArray, List.getElem_cons_succ, List.getElem_cons_zero]
          go_simp
          go_at_call 87
          have hcall := ih (ls ++ [v]) A5 g5 0 c5 _ w5 (by simp; omega) hsm5 (Nat.le_refl _) hD5.r.rd hD5.r.rp hr5
          rw [hlen5, hrc.out] at hcall
          refine hcall.mono ?_
          clear hcall
          rintro e w7 ⟨rfl, hb7⟩
          have hb8 := bthen hb5 hb7
          refine hK.out _ _ (.inr ⟨((bcell hb8).1 _ _ hDl).trans p0, ((bcell hb8).1 _ _ hDl).trans p1, ((bcell hb8).1 _ _ hDl).trans p2⟩) ?_
          clear hK K
          simp only [Act.put, List.setIfInBounds_toArray, List.set_cons_zero, List.set_cons_succ]
          refine wpE_step' 9 (of_decide_eq_true (by kernel_rfl)) (by kernel_rfl) (by kernel_rfl) (fun K hK => ?_)
          simp only [List.getElem_toArray, List.getElem_cons_succ, List.getElem_cons_zero]
          go_simp
          refine hK.out _ _ (.inr ⟨((bcell hb8).1 _ _ hDl).trans p0, ((bcell hb8).1 _ _ hDl).trans p1, ((bcell hb8).1 _ _ hDl).trans p2⟩) ?_
          clear hK K
          simp only [Act.put, List.setIfInBounds_toArray, List.set_cons_zero, List.set_cons_succ]
          refine wpE_step' 10 (of_decide_eq_true (by kernel_rfl)) (by kernel_rfl) (by kernel_rfl) (fun K hK => ?_)
          simp only [List.getElem_toArray, List.getElem_cons_succ, List.getElem_cons_zero]
          go_simp
          refine hK.out _ _ (.inl rfl) ?_
          clear hK K
          simp only [Act.put, List.setIfInBounds_toArray, List.set_cons_zero, List.set_cons_succ]
          refine wpE_done (by kernel_rfl) ?_ _
          replace hD := hD.below hb8
          replace hL1 := (hL1.below hb8).more hb8.size
          replace hQ := hQ.below hb8
          go_wp2_with fail
          go_roundg (N - (k + 1))
          case measure => go_light; omega
          case rel => go_light; exact ⟨k + 1, by omega, rfl, by rw [← Hv2.out], by rw [countK_succ, Hv.out, hrc.out, Ht.out, hwr.out], hD, hL1, hQ⟩
      · obtain rfl : k = N := by omega
        have hc : ¬ x.l + (k : Int) ≤ x.h := by omega
        have Hr : Hid (countF ⟨n, bs⟩ ps (m + 1) ls = countK ⟨n, bs⟩ ps m ls x k) := hcF
        go_wp2_with fail
        go_ret
        exact ⟨by rw [Hr.out]; rfl, hD.bel⟩

set_option maxHeartbeats 2000000 in
set_option maxRecDepth 100000 in
theorem sCountFit_q (n : Int) (bs : List Bd) (ps : List Pr) (A A2 : Option Addr) (b o c b2 o2 c2 B : Nat) (w : World) (hn : bs.length ≤ 2000000) (hn2 : ps.length ≤ 2000000) (hB : B ≤ w.heap.size) (hR : BdsR w B b o A bs) (hP : CsR w B b2 o2 A2 ps.length (prCs ps)) :
    Calls Try.prog 44 #[.agg #[.int .i64 n, .slice A bs.length c, .slice A2 ps.length c2]] w fun e w' => e = .returned (.int .i64 (if dealOk ⟨n, bs⟩ ps then countF ⟨n, bs⟩ ps ps.length [] else -1)) ∧ Below w.heap.size w w' := by
  have hD := pd_new (n := n) (c := c) (c2 := c2) (t := 28) hB hR hP
  clear hR hP hB
  cases hd : dealOk ⟨n, bs⟩ ps
  · have Hd := hide hd
    clear hd
    go_enter Try.func44, Try.ntmps44
    go_upto_region 1 with fail
    generalize w.alloc (.cells #[.int .i64 n, .slice A bs.length c, .slice A2 ps.length c2] 28) = W at hD ⊢
    have p0 := hD.r.c0
    have p1 := hD.r.c1
    have p2 := hD.r.c2
    go_wp2_with (go_at_call 41; go_fit (sDealOk_c n bs ps A A2 b o c b2 o2 c2 _ _ hn hn2 (Nat.le_refl _) hD.r.rd hD.r.rp); rintro e w2 ⟨rfl, hb⟩; rw [Hd.out]; replace hD := hD.below hb; clear p0 p1 p2; have p0 := hD.r.c0; have p1 := hD.r.c1; have p2 := hD.r.c2)
    go_ret
    exact ⟨rfl, hD.bel⟩
  · have hdl := dealOk_iff.1 hd
    have hok : ∀ (i : Nat) (x : Pr), ps[i]? = some x → 0 ≤ x.l ∧ x.l ≤ x.h ∧ x.h ≤ 12 := by
      intro i x hx
      have h := hdl.2.2.2 i x (List.getElem?_eq_some_iff.1 hx).1 hx
      exact ⟨h.1.2.2.2.1, h.1.2.2.2.2.1, h.1.2.2.2.2.2⟩
    have hcall := fun (A3 : Option Addr) (c3 : Nat) (w1 : World) (h1 : RD w1 w.heap.size b o n A c bs b2 o2 A2 c2 ps) => l8Count_q n bs ps hdl.2.1 hdl.2.2.1 hok A A2 b o c b2 o2 c2 ps.length [] A3 0 0 c3 _ w1 (by simp) (by simp) (Nat.le_refl _) h1.rd h1.rp
    have Hd := hide hd
    clear hd hdl hok
    go_enter Try.func44, Try.ntmps44
    go_upto_region 1 with fail
    generalize w.alloc (.cells #[.int .i64 n, .slice A bs.length c, .slice A2 ps.length c2] 28) = W at hD ⊢
    have p0 := hD.r.c0
    have p1 := hD.r.c1
    have p2 := hD.r.c2
    go_wp2_with (first
      | (go_at_call 41; go_fit (sDealOk_c n bs ps A A2 b o c b2 o2 c2 _ _ hn hn2 (Nat.le_refl _) hD.r.rd hD.r.rp); rintro e w2 ⟨rfl, hb⟩; rw [Hd.out]; replace hD := hD.below hb; clear p0 p1 p2; have p0 := hD.r.c0; have p1 := hD.r.c1; have p2 := hD.r.c2; have hx := hD.r.ex)
      | (go_at_call 87; replace hD := hD.alloc (.cells #[] 3); go_fit (hcall (some ⟨w2.heap.size, 0, none⟩) 0 _ hD.r ⟨fun h => absurd h (by simp), fun h => absurd h (by simp), fun j hj => absurd hj (by simp)⟩); rintro e w3 ⟨rfl, hb⟩; replace hD := hD.below hb; clear p0 p1 p2; have p0 := hD.r.c0; have p1 := hD.r.c1; have p2 := hD.r.c2))
    go_ret
    exact ⟨rfl, hD.bel⟩
end Go.Proofs.Ytdijfkpccbkdfaa
