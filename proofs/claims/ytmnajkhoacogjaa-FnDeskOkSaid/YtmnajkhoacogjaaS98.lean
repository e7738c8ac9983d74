/-
  spec: PlanText.
-/
import Derived.Test.YtmnajkhoacogjaaS90
import Derived.Test.YtmnajkhoacogjaaZ1
namespace Go.Proofs.Ytmnajkhoacogjaa
set_option linter.unusedVariables false
set_option linter.unusedSimpArgs false
open Go Go.RowKit Pp

theorem bsTxt_snoc : ∀ (bs : List Bd) (b : Bd), bsTxt (bs ++ [b]) = bsTxt bs ++ bTxt b
  | [], b => by simp [bsTxt]
  | x :: bs, b => by simp [bsTxt, bsTxt_snoc bs b]
theorem bsTxt_len : ∀ (bs : List Bd), (∀ b ∈ bs, bdSm b) → (bsTxt bs).length ≤ 12 * bs.length
  | [], _ => by simp [bsTxt]
  | x :: bs, h => by
    have ih := bsTxt_len bs (fun b hb => h b (by simp [hb]))
    obtain ⟨h1, h2, h3⟩ := h x (by simp)
    have := num_len x.f h1
    have := num_len x.t h2
    have := num_len x.m h3
    simp only [bsTxt, bTxt, List.length_append, List.length_cons]
    omega
/-- A bound in a box. -/
structure BB3 (W : World) (V : Nat) (x : Bd) : Prop where
  ex : V < W.heap.size
  c0 : W.cell? ⟨V, 0, none⟩ = some (.int .i64 x.f)
  c1 : W.cell? ⟨V, 1, none⟩ = some (.int .i64 x.t)
  c2 : W.cell? ⟨V, 2, none⟩ = some (.int .i64 x.m)
theorem BB3.below {W W' : World} {V : Nat} {x : Bd} (h : BB3 W V x) (hb : Below W.heap.size W W') : BB3 W' V x :=
  ⟨Nat.lt_of_lt_of_le h.ex hb.size, ((bcell hb).1 _ _ h.ex).trans h.c0, ((bcell hb).1 _ _ h.ex).trans h.c1, ((bcell hb).1 _ _ h.ex).trans h.c2⟩
theorem bb3_new (W : World) (x : Bd) (t : TypeId) : BB3 (W.alloc (.cells #[.int .i64 x.f, .int .i64 x.t, .int .i64 x.m] t)) W.heap.size x :=
  ⟨by simp, by simp [go_sem], by simp [go_sem], by simp [go_sem]⟩
set_option maxHeartbeats 4000000 in
set_option maxRecDepth 100000 in
theorem sPlanText_c (p : Pl) (hp : planOk p = true) (A : Option Addr) (b o c B : Nat) (w : World) (hB : B ≤ w.heap.size) (hR : BdsR w B b o A p.bs) :
    Calls Try.prog 28 #[.agg #[.int .i64 p.n, .slice A p.bs.length c]] w fun e w' => e = .returned (txt (planText p)) ∧ Below w.heap.size w w' := by
  obtain ⟨hn, hbs⟩ := planOk_sm hp
  have h16 : p.bs.length ≤ 16 := (planOk_iff.1 hp).2.1
  obtain ⟨n, bs⟩ := p
  dsimp only at *
  have hP := po_new (t := 25) (n := n) (c := c) (Below.refl w.heap.size w) (hR.more hB)
  have hcn := fun wq => num_c n hn wq
  have hln := num_len n hn
  obtain ⟨nt, hnt⟩ : ∃ nt, num n = nt := ⟨_, rfl⟩
  rw [hnt] at hcn hln
  have htx : planText ⟨n, bs⟩ = nt ++ bsTxt bs := by unfold planText; rw [hnt]
  rw [htx]
  have Hbs := hide hbs
  have Hp := hide hp
  have Hcn := hide hcn
  clear hR hbs hp hcn hnt htx
  go_enter Try.func28, Try.ntmps28
  go_upto_region 1 with fail
  generalize w.alloc (.cells #[.int .i64 n, .slice A bs.length c] 25) = W at hP ⊢
  have p0 := hP.c0
  have p1 := hP.c1
  go_upto_region 3 with (go_at_call 11; (go_fit (sPlanOk_c ⟨n, bs⟩ A b o c _ _ (show bs.length ≤ 2000000 by omega) (Nat.le_refl _) hP.rd); rintro e w2 ⟨rfl, hb2⟩; rw [Hp.out]; have hP2 := hP.below hb2))
  clear p0 p1 hb2 hP
  have p0 := hP2.c0
  have p1 := hP2.c1
  go_upto_region 4 with (go_at_call 38; refine (Hcn.out _).mono ?_; rintro e w3 ⟨rfl, hb3⟩; unfold txt; have hP3 := hP2.below hb3)
  clear p0 p1 hb3 hP2
  go_wp2_with fail
  go_loopg [3, 4, 5] bs.length (fun gh s3 s4 s5 wr => ∃ (k : Nat) (xs : List UInt8), k ≤ bs.length ∧ gh = bs.length - k ∧ s4 = .int .i64 k ∧ s3 = .string ⟨xs.toArray⟩ ∧ Hid (xs = nt ++ bsTxt (bs.take k)) ∧ PO w wr w.heap.size b o n A c bs)
  case atStart => exact ⟨0, nt, Nat.zero_le _, rfl, rfl, rfl, by unfold Hid; simp [bsTxt], hP3⟩
  case round =>
    clear hP3
    obtain ⟨k, xs, hk, rfl, rfl, rfl, Hxs, hP⟩ := hrel
    have p0 := hP.c0
    have p1 := hP.c1
    have hxl : xs.length ≤ 300 := by
      rw [Hxs.out]
      have := bsTxt_len (bs.take k) (fun b hb => Hbs.out b (List.mem_of_mem_take hb))
      rw [List.length_append]
      rw [List.length_take] at this
      omega
    by_cases hlt : k < bs.length
    · have hx := List.getElem?_eq_getElem hlt
      obtain rfl := hP.rd.addr (by omega)
      have hlt2 := hP.rd.lt (by omega)
      have d0 := hP.rd.c0 k _ hx
      have d1 := hP.rd.c1 k _ hx
      have d2 := hP.rd.c2 k _ hx
      obtain ⟨x1, x2, x3⟩ := Hbs.out _ (List.mem_of_getElem? hx)
      have htk : bs.take (k + 1) = bs.take k ++ [bs[k]] := by rw [List.take_add_one, hx]; rfl
      have Hxs2 : Hid (xs ++ bTxt bs[k] = nt ++ bsTxt (bs.take (k + 1))) := by unfold Hid; rw [htk, bsTxt_snoc, Hxs.out, List.append_assoc]
      have hkz : (k : Int) < (bs.length : Int) := by omega
      clear htk hx
      generalize bs[k] = x at d0 d1 d2 x1 x2 x3 Hxs2
      have hl1 := num_len x.f x1
      have hl2 := num_len x.t x2
      have hl3 := num_len x.m x3
      have hc1 := fun wq => num_c x.f x1 wq
      have hc2 := fun wq => num_c x.t x2 wq
      have hc3 := fun wq => num_c x.m x3 wq
      have hbt : bTxt x = 32 :: (num x.f ++ 58 :: (num x.t ++ 58 :: num x.m)) := rfl
      rw [hbt] at Hxs2
      generalize num x.f = nf at hl1 hc1 Hxs2
      generalize num x.t = nt' at hl2 hc2 Hxs2
      generalize num x.m = nm at hl3 hc3 Hxs2
      have Hc1 := hide hc1
      have Hc2 := hide hc2
      have Hc3 := hide hc3
      clear hc1 hc2 hc3 hbt
      have hal : Below wr.heap.size wr (wr.alloc (.cells #[.int .i64 x.f, .int .i64 x.t, .int .i64 x.m] 51)) := by go_grown
      have hB3 := bb3_new wr x 51
      have hP2 := hP.below hal
      go_upto_region 8 with fail
      generalize wr.alloc (.cells #[.int .i64 x.f, .int .i64 x.t, .int .i64 x.m] 51) = W2 at hB3 hP2 hal ⊢
      generalize wr.heap.size = V at hB3 ⊢
      clear p0 p1 d0 d1 d2 hP hal
      refine wp_regionE (fun w' => w'.cell? ⟨V, 0, none⟩ = some (.int .i64 x.f) ∧ w'.cell? ⟨V, 1, none⟩ = some (.int .i64 x.t) ∧ w'.cell? ⟨V, 2, none⟩ = some (.int .i64 x.m)) 16 (by kernel_rfl) ?_
      change wpE _ _ _ _ _ _ 17 #[false, false, false, false, false, false, false, false, false, false, false, false, false, false, false, false, false] _ _
      have hdr : Below W2.heap.size W2 W2.drew := by go_grown
      replace hB3 := hB3.below hdr
      generalize W2.drew = wd at hdr hB3 ⊢
      have hS0 : wd.cell? ⟨V, 0, none⟩ = some (.int .i64 x.f) ∧ wd.cell? ⟨V, 1, none⟩ = some (.int .i64 x.t) ∧ wd.cell? ⟨V, 2, none⟩ = some (.int .i64 x.m) := ⟨hB3.c0, hB3.c1, hB3.c2⟩
      refine wpE_take' (v := ?_) 0 [16] (of_decide_eq_true (by kernel_rfl)) (by kernel_rfl) (by kernel_rfl) (by kernel_rfl) (by kernel_rfl) (fun _ _ _ h => h) (by kernel_rfl) ?_ hS0 ?_
      rotate_left
      · intro w' hSw
        obtain ⟨hs0, hs1, hs2⟩ := hSw
        simp only [List.getElem_toArray, List.getElem_cons_succ, List.getElem_cons_zero]
        go_simp
        try rw [if_neg (by omega)]
        all_goals with_reducible rfl
      simp only [List.getElem_toArray, List.getElem_cons_succ, List.getElem_cons_zero, Act.put, List.setIfInBounds_toArray, List.set_cons_zero, List.set_cons_succ]
      refine wpE_take' (v := ?_) 1 [16] (of_decide_eq_true (by kernel_rfl)) (by kernel_rfl) (by kernel_rfl) (by kernel_rfl) (by kernel_rfl) (fun _ _ _ h => h) (by kernel_rfl) ?_ hS0 ?_
      rotate_left
      · intro w' hSw
        obtain ⟨hs0, hs1, hs2⟩ := hSw
        simp only [List.getElem_toArray, List.getElem_cons_succ, List.getElem_cons_zero]
        go_simp
        try rw [if_neg (by omega)]
        all_goals with_reducible rfl
      simp only [List.getElem_toArray, List.getElem_cons_succ, List.getElem_cons_zero, Act.put, List.setIfInBounds_toArray, List.set_cons_zero, List.set_cons_succ]
      refine wpE_take' (v := ?_) 2 [16] (of_decide_eq_true (by kernel_rfl)) (by kernel_rfl) (by kernel_rfl) (by kernel_rfl) (by kernel_rfl) (fun _ _ _ h => h) (by kernel_rfl) ?_ hS0 ?_
      rotate_left
      · intro w' hSw
        obtain ⟨hs0, hs1, hs2⟩ := hSw
        simp only [List.getElem_toArray, List.getElem_cons_succ, List.getElem_cons_zero]
        go_simp
        try rw [if_neg (by omega)]
        all_goals with_reducible rfl
      simp only [List.getElem_toArray, List.getElem_cons_succ, List.getElem_cons_zero, Act.put, List.setIfInBounds_toArray, List.set_cons_zero, List.set_cons_succ]
      refine wpE_take' (v := ?_) 3 [16] (of_decide_eq_true (by kernel_rfl)) (by kernel_rfl) (by kernel_rfl) (by kernel_rfl) (by kernel_rfl) (fun _ _ _ h => h) (by kernel_rfl) ?_ hS0 ?_
      rotate_left
      · intro w' hSw
        obtain ⟨hs0, hs1, hs2⟩ := hSw
        simp only [List.getElem_toArray, List.getElem_cons_succ, List.getElem_cons_zero]
        go_simp
        try rw [if_neg (by omega)]
        all_goals with_reducible rfl
      simp only [List.getElem_toArray, List.getElem_cons_succ, List.getElem_cons_zero, Act.put, List.setIfInBounds_toArray, List.set_cons_zero, List.set_cons_succ]
      refine wpE_take' (v := ?_) 7 [16] (of_decide_eq_true (by kernel_rfl)) (by kernel_rfl) (by kernel_rfl) (by kernel_rfl) (by kernel_rfl) (fun _ _ _ h => h) (by kernel_rfl) ?_ hS0 ?_
      rotate_left
      · intro w' hSw
        obtain ⟨hs0, hs1, hs2⟩ := hSw
        simp only [List.getElem_toArray, List.getElem_cons_succ, List.getElem_cons_zero]
        go_simp
        try rw [if_neg (by omega)]
        all_goals with_reducible rfl
      simp only [List.getElem_toArray, List.getElem_cons_succ, List.getElem_cons_zero, Act.put, List.setIfInBounds_toArray, List.set_cons_zero, List.set_cons_succ]
      refine wpE_take' (v := ?_) 8 [16] (of_decide_eq_true (by kernel_rfl)) (by kernel_rfl) (by kernel_rfl) (by kernel_rfl) (by kernel_rfl) (fun _ _ _ h => h) (by kernel_rfl) ?_ hS0 ?_
      rotate_left
      · intro w' hSw
        obtain ⟨hs0, hs1, hs2⟩ := hSw
        simp only [List.getElem_toArray, List.getElem_cons_succ, List.getElem_cons_zero]
        go_simp
        try rw [if_neg (by omega)]
        all_goals with_reducible rfl
      simp only [List.getElem_toArray, List.getElem_cons_succ, List.getElem_cons_zero, Act.put, List.setIfInBounds_toArray, List.set_cons_zero, List.set_cons_succ]
      refine wpE_take' (v := ?_) 12 [16] (of_decide_eq_true (by kernel_rfl)) (by kernel_rfl) (by kernel_rfl) (by kernel_rfl) (by kernel_rfl) (fun _ _ _ h => h) (by kernel_rfl) ?_ hS0 ?_
      rotate_left
      · intro w' hSw
        obtain ⟨hs0, hs1, hs2⟩ := hSw
        simp only [List.getElem_toArray, List.getElem_cons_succ, List.getElem_cons_zero]
        go_simp
        try rw [if_neg (by omega)]
        all_goals with_reducible rfl
      simp only [List.getElem_toArray, List.getElem_cons_succ, List.getElem_cons_zero, Act.put, List.setIfInBounds_toArray, List.set_cons_zero, List.set_cons_succ]
      refine wpE_take' (v := ?_) 13 [16] (of_decide_eq_true (by kernel_rfl)) (by kernel_rfl) (by kernel_rfl) (by kernel_rfl) (by kernel_rfl) (fun _ _ _ h => h) (by kernel_rfl) ?_ hS0 ?_
      rotate_left
      · intro w' hSw
        obtain ⟨hs0, hs1, hs2⟩ := hSw
        simp only [List.getElem_toArray, List.getElem_cons_succ, List.getElem_cons_zero]
        go_simp
        try rw [if_neg (by omega)]
        all_goals with_reducible rfl
      simp only [List.getElem_toArray, List.getElem_cons_succ, List.getElem_cons_zero, Act.put, List.setIfInBounds_toArray, List.set_cons_zero, List.set_cons_succ]
      refine wpE_step' 4 (of_decide_eq_true (by kernel_rfl)) (by kernel_rfl) (by kernel_rfl) (fun K hK => ?_)
      simp only [List.getElem_toArray, List.getElem_cons_succ, List.getElem_cons_zero]
      go_simp
      go_at_call 38
      refine (Hc1.out _).mono ?_
      rintro e w2 ⟨rfl, hb2⟩
      unfold txt
      replace hB3 := hB3.below hb2
      replace hdr := bthen hdr hb2
      refine hK.out _ _ (.inr ⟨hB3.c0, hB3.c1, hB3.c2⟩) ?_
      clear hK K hS0 hb2
      simp only [Act.put, List.setIfInBounds_toArray, List.set_cons_zero, List.set_cons_succ]
      have hS0 : w2.cell? ⟨V, 0, none⟩ = some (.int .i64 x.f) ∧ w2.cell? ⟨V, 1, none⟩ = some (.int .i64 x.t) ∧ w2.cell? ⟨V, 2, none⟩ = some (.int .i64 x.m) := ⟨hB3.c0, hB3.c1, hB3.c2⟩
      refine wpE_take' (v := ?_) 5 [16] (of_decide_eq_true (by kernel_rfl)) (by kernel_rfl) (by kernel_rfl) (by kernel_rfl) (by kernel_rfl) (fun _ _ _ h => h) (by kernel_rfl) ?_ hS0 ?_
      rotate_left
      · intro w' hSw
        obtain ⟨hs0, hs1, hs2⟩ := hSw
        simp only [List.getElem_toArray, List.getElem_cons_succ, List.getElem_cons_zero]
        go_simp
        try rw [if_neg (by omega)]
        all_goals with_reducible rfl
      simp only [List.getElem_toArray, List.getElem_cons_succ, List.getElem_cons_zero, Act.put, List.setIfInBounds_toArray, List.set_cons_zero, List.set_cons_succ]
      refine wpE_take' (v := ?_) 6 [16] (of_decide_eq_true (by kernel_rfl)) (by kernel_rfl) (by kernel_rfl) (by kernel_rfl) (by kernel_rfl) (fun _ _ _ h => h) (by kernel_rfl) ?_ hS0 ?_
      rotate_left
      · intro w' hSw
        obtain ⟨hs0, hs1, hs2⟩ := hSw
        simp only [List.getElem_toArray, List.getElem_cons_succ, List.getElem_cons_zero]
        go_simp
        try rw [if_neg (by omega)]
        all_goals with_reducible rfl
      simp only [List.getElem_toArray, List.getElem_cons_succ, List.getElem_cons_zero, Act.put, List.setIfInBounds_toArray, List.set_cons_zero, List.set_cons_succ]
      refine wpE_step' 9 (of_decide_eq_true (by kernel_rfl)) (by kernel_rfl) (by kernel_rfl) (fun K hK => ?_)
      simp only [List.getElem_toArray, List.getElem_cons_succ, List.getElem_cons_zero]
      go_simp
      go_at_call 38
      refine (Hc2.out _).mono ?_
      rintro e w2 ⟨rfl, hb2⟩
      unfold txt
      replace hB3 := hB3.below hb2
      replace hdr := bthen hdr hb2
      refine hK.out _ _ (.inr ⟨hB3.c0, hB3.c1, hB3.c2⟩) ?_
      clear hK K hS0 hb2
      simp only [Act.put, List.setIfInBounds_toArray, List.set_cons_zero, List.set_cons_succ]
      have hS0 : w2.cell? ⟨V, 0, none⟩ = some (.int .i64 x.f) ∧ w2.cell? ⟨V, 1, none⟩ = some (.int .i64 x.t) ∧ w2.cell? ⟨V, 2, none⟩ = some (.int .i64 x.m) := ⟨hB3.c0, hB3.c1, hB3.c2⟩
      refine wpE_take' (v := ?_) 10 [16] (of_decide_eq_true (by kernel_rfl)) (by kernel_rfl) (by kernel_rfl) (by kernel_rfl) (by kernel_rfl) (fun _ _ _ h => h) (by kernel_rfl) ?_ hS0 ?_
      rotate_left
      · intro w' hSw
        obtain ⟨hs0, hs1, hs2⟩ := hSw
        simp only [List.getElem_toArray, List.getElem_cons_succ, List.getElem_cons_zero]
        go_simp
        try rw [if_neg (by omega)]
        all_goals with_reducible rfl
      simp only [List.getElem_toArray, List.getElem_cons_succ, List.getElem_cons_zero, Act.put, List.setIfInBounds_toArray, List.set_cons_zero, List.set_cons_succ]
      refine wpE_take' (v := ?_) 11 [16] (of_decide_eq_true (by kernel_rfl)) (by kernel_rfl) (by kernel_rfl) (by kernel_rfl) (by kernel_rfl) (fun _ _ _ h => h) (by kernel_rfl) ?_ hS0 ?_
      rotate_left
      · intro w' hSw
        obtain ⟨hs0, hs1, hs2⟩ := hSw
        simp only [List.getElem_toArray, List.getElem_cons_succ, List.getElem_cons_zero]
        go_simp
        try rw [if_neg (by omega)]
        all_goals with_reducible rfl
      simp only [List.getElem_toArray, List.getElem_cons_succ, List.getElem_cons_zero, Act.put, List.setIfInBounds_toArray, List.set_cons_zero, List.set_cons_succ]
      refine wpE_step' 14 (of_decide_eq_true (by kernel_rfl)) (by kernel_rfl) (by kernel_rfl) (fun K hK => ?_)
      simp only [List.getElem_toArray, List.getElem_cons_succ, List.getElem_cons_zero]
      go_simp
      go_at_call 38
      refine (Hc3.out _).mono ?_
      rintro e w2 ⟨rfl, hb2⟩
      unfold txt
      replace hB3 := hB3.below hb2
      replace hdr := bthen hdr hb2
      refine hK.out _ _ (.inr ⟨hB3.c0, hB3.c1, hB3.c2⟩) ?_
      clear hK K hS0 hb2
      simp only [Act.put, List.setIfInBounds_toArray, List.set_cons_zero, List.set_cons_succ]
      have hS0 : w2.cell? ⟨V, 0, none⟩ = some (.int .i64 x.f) ∧ w2.cell? ⟨V, 1, none⟩ = some (.int .i64 x.t) ∧ w2.cell? ⟨V, 2, none⟩ = some (.int .i64 x.m) := ⟨hB3.c0, hB3.c1, hB3.c2⟩
      refine wpE_take' (v := ?_) 15 [16] (of_decide_eq_true (by kernel_rfl)) (by kernel_rfl) (by kernel_rfl) (by kernel_rfl) (by kernel_rfl) (fun _ _ _ h => h) (by kernel_rfl) ?_ hS0 ?_
      rotate_left
      · intro w' hSw
        obtain ⟨hs0, hs1, hs2⟩ := hSw
        simp only [List.getElem_toArray, List.getElem_cons_succ, List.getElem_cons_zero]
        go_simp
        try rw [if_neg (by omega)]
        all_goals with_reducible rfl
      simp only [List.getElem_toArray, List.getElem_cons_succ, List.getElem_cons_zero, Act.put, List.setIfInBounds_toArray, List.set_cons_zero, List.set_cons_succ]
      refine wpE_step' 16 (of_decide_eq_true (by kernel_rfl)) (by kernel_rfl) (by kernel_rfl) (fun K hK => ?_)
      simp only [List.getElem_toArray, List.getElem_cons_succ, List.getElem_cons_zero]
      go_simp
      refine hK.out _ _ (.inl rfl) ?_
      clear hK K
      simp only [Act.put, List.setIfInBounds_toArray, List.set_cons_zero, List.set_cons_succ]
      refine wpE_done (by kernel_rfl) ?_ _
      rw [show (⟨#[32]⟩ : ByteArray) = ⟨[(32 : UInt8)].toArray⟩ from rfl, show (⟨#[58]⟩ : ByteArray) = ⟨[(58 : UInt8)].toArray⟩ from rfl]
      simp only [bytes_app]
      have hP3 := hP2.below hdr
      clear hS0 hB3 hdr hP2
      obtain ⟨ys, hys⟩ : ∃ ys, xs ++ [(32 : UInt8)] ++ nf ++ [(58 : UInt8)] ++ nt' ++ [(58 : UInt8)] ++ nm = ys := ⟨_, rfl⟩
      rw [hys]
      have Hys : Hid (ys = nt ++ bsTxt (bs.take (k + 1))) := by unfold Hid; rw [← Hxs2.out, ← hys]; simp
      clear hys
      go_wp2_with fail
      go_roundg (bs.length - (k + 1))
      case measure => go_light; omega
      case rel => go_light; exact ⟨k + 1, ys, by omega, rfl, by go_num, rfl, Hys, hP3⟩
    · obtain rfl : k = bs.length := by omega
      have Hxs2 : Hid (xs = nt ++ bsTxt bs) := by unfold Hid; rw [Hxs.out, List.take_length]
      go_wp2_with fail
      go_ret
      exact ⟨by rw [← Hxs2.out]; rfl, hP.bel⟩
end Go.Proofs.Ytmnajkhoacogjaa
