/-
 spec: l20Deed.
-/
import Derived.Test.YtmnajkhoacogjaaGreatDoorR75
import Derived.Test.YtmnajkhoacogjaaGreatDoorD70
import Derived.Test.YtmnajkhoacogjaaGreatDoorS91
namespace Go.Proofs.YtmnajkhoacogjaaGreatDoor
set_option linter.unusedVariables false
set_option linter.unusedSimpArgs false
open Go Go.RowKit Pp

theorem deed_two {w5 w6 : World} {g vn : Nat} {t : TypeId} (hg : (w5.alloc (.cells #[.int .i64 (-1), .int .i64 100] t)).grownBy w6 (some g)) (hne : w5.heap.size ≠ g) (hv : (vn : Int) < 2) : ∃ x : Int, w6.cell? ⟨w5.heap.size, vn, none⟩ = some (.int .i64 x) := by
 have : vn = 0 ∨ vn = 1 := by omega
 rcases this with rfl | rfl
 ·exact ⟨-1, far_cell hg (by simp [go_sem]) hne⟩
 ·exact ⟨100, far_cell hg (by simp [go_sem]) hne⟩
set_option maxHeartbeats 4000000 in
set_option maxRecDepth 100000 in
theorem deed_c (g : Nat) (K0 n : Int) (A : Option Addr) (L c : Nat) (w : World) (hK : 0 ≤ K0 ∧ K0 ≤ 100000) (hn : -1000000 ≤ n ∧ n ≤ 1000000) (hL : L ≤ 1000000) (hR : RdO w g K0) :
  Calls Tryz.prog 61 #[.pointer (some ⟨g, 0, none⟩), .agg #[.int .i64 n, .slice A L c]] w fun e w' => ∃ k a1 a2 a3 s, e = .returned (.agg #[.int .i64 k, .int .i64 a1, .int .i64 a2, .int .i64 a3, .string s]) ∧ RdO w' g (K0 + 200) ∧ w.grownBy w' (some g) := by
 obtain ⟨hK0, hK1⟩ := hK
 obtain ⟨hn0, hn1⟩ := hn
 have hgl := hR.lt
 have hJ0 : DJ w ((w.alloc (.cells #[.int .i64 n, .slice A L c] 34)).alloc (.cells #[.int .i64 0, .int .i64 0, .int .i64 0, .int .i64 0, .string ⟨#[]⟩] 41)) g K0 w.heap.size n A L c (w.heap.size + 1) := by
  refine ⟨(hR.alloc _).alloc _, gr_alloc (gr_new w _ _) _, hgl, Nat.le_refl _, by simp; omega, by simp [go_sem], by simp [go_sem], by omega, by simp, fun i v e => ?_, fun i => by simp [go_sem]⟩
  match i, e with
  | 0, e => injection e with e; subst e; simp [go_sem]
  | 1, e => injection e with e; subst e; simp [go_sem]
  | 2, e => injection e with e; subst e; simp [go_sem]
  | 3, e => injection e with e; subst e; simp [go_sem]
  | 4, e => injection e with e; subst e; simp [go_sem]
  | i + 5, e => simp [Zd] at e
 clear hR
 go_enter Tryz.func61, Tryz.ntmps61
 go_upto_region 1 with fail
 generalize (w.alloc (.cells #[.int .i64 n, .slice A L c] 34)).alloc (.cells #[.int .i64 0, .int .i64 0, .int .i64 0, .int .i64 0, .string ⟨#[]⟩] 41) = W at hJ0 ⊢
 obtain ⟨P, hP⟩ : ∃ P, w.heap.size = P := ⟨_, rfl⟩
 obtain ⟨Y, hY⟩ : ∃ Y, w.heap.size + 1 = Y := ⟨_, rfl⟩
 rw [hY] at hJ0 ⊢
 have hJ1 : DJ w W g K0 P n A L c Y := by rw [← hP]; exact hJ0
 rw [hP]
 clear hJ0 hP hY
 go_cut [5] (fun s5 wx => ∃ X k, s5 = .pointer (some ⟨X, 0, none⟩) ∧ DX w wx g (K0 + 2) P n A L c Y X [.int .i64 k, .int .i64 0, .int .i64 0, .int .i64 0, .string ⟨#[]⟩])
 case first =>
  refine wp_regionE (fun _ => True) 12 (by kernel_rfl) ?_
  change wpE _ _ _ _ _ _ 13 #[false, false, false, false, false, false, false, false, false, false, false, false, false] _ _
  have hdr : Below W.heap.size W W.drew := by go_grown
  have hJ := hJ1.below hdr
  generalize W.drew = wd at hJ ⊢
  clear hdr hJ1
  have hS0 := trivial
  refine wpE_tk (v := ?_) 1 [2, 6, 12] (hy := ?_) (hS := hS0) (h := ?_)
  rotate_left
  ·intro w' hSw
   simp only [xg0, xg1, xg2]
   go_simp
   all_goals with_reducible rfl
  simp only [xg0, xg1, xg2, Act.put, xs0, xs1, xs2]
  refine wpE_tk (v := ?_) 5 [6, 12] (hy := ?_) (hS := hS0) (h := ?_)
  rotate_left
  ·intro w' hSw
   simp only [xg0, xg1, xg2]
   go_simp
   all_goals with_reducible rfl
  simp only [xg0, xg1, xg2, Act.put, xs0, xs1, xs2]
  refine wpF_start 11 5 (fun wx => DJ w wx g K0 P n A L c Y) (fun z wx => CX w P Y z wx) (of_decide_eq_true (by kernel_rfl)) rfl hJ (fun fl z hB => ?_)
  simp only [Act.put, xs0, xs1, xs2]
  apply wpF_two (f := 11) (fl := fl) (z := z) (J := fun wx => DJ w wx g K0 P n A L c Y) (B := fun z wx => CX w P Y z wx) 0 2
  case hi => exact of_decide_eq_true (by kernel_rfl)
  case hj => exact of_decide_eq_true (by kernel_rfl)
  case hgi => kernel_rfl
  case hgj => kernel_rfl
  case hr0 => kernel_rfl
  case he0 => kernel_rfl
  case hr1 => kernel_rfl
  case he1 => kernel_rfl
  case hL => kernel_rfl
  case hJ => exact hJ
  case hB => exact hB
  case hF =>
   refine floats_of (of_decide_eq_true (by kernel_rfl)) (by kernel_rfl) (by kernel_rfl) (fun _ _ => trivial) ?_
   clear hJ hB
   intro z wx hJ K hK
   simp only [xg0, xg1, xg2]
   go_simp
   exact hK.out _ _ (hJ.alloc _) (cx_new hJ.gr.size hJ.pe hJ.ye)
  case h1 =>
   clear hJ hB
   intro fl z wx hJ hB K hK
   simp only [xg0, xg1, xg2]
   go_simp
   have hA := ar_new (w := w) (wx := wx) (t := 3) hJ.gr.size
   replace hJ := hJ.alloc (.cells #[.int .i64 0, .int .i64 1, .int .i64 1, .int .i64 1, .int .i64 2, .int .i64 2, .int .i64 3, .int .i64 4, .int .i64 5, .int .i64 6] 3)
   replace hB := fun h => (hB h).below (show Below wx.heap.size wx (wx.alloc (.cells #[.int .i64 0, .int .i64 1, .int .i64 1, .int .i64 1, .int .i64 2, .int .i64 2, .int .i64 3, .int .i64 4, .int .i64 5, .int .i64 6] 3)) by go_grown)
   refine hK.out _ _ (.inr trivial) ?_
   clear hK K
   simp only [Act.put, xs0, xs1, xs2]
   generalize wx.alloc (.cells #[.int .i64 0, .int .i64 1, .int .i64 1, .int .i64 1, .int .i64 2, .int .i64 2, .int .i64 3, .int .i64 4, .int .i64 5, .int .i64 6] 3) = wy at hA hJ hB ⊢
   generalize wx.heap.size = b at hA ⊢
   apply wpF_step (f := 11) (fl := fl) (z := z) (J := fun wx => DJ w wx g K0 P n A L c Y ∧ AR w b wx) (B := fun z wx => CX w P Y z wx) 2
   case hi => exact of_decide_eq_true (by kernel_rfl)
   case hg => kernel_rfl
   case hr0 => kernel_rfl
   case hr1 => kernel_rfl
   case hL => kernel_rfl
   case hJ => exact ⟨hJ, hA⟩
   case hB => exact hB
   case hF =>
    refine floats_of (of_decide_eq_true (by kernel_rfl)) (by kernel_rfl) (by kernel_rfl) (fun _ _ => trivial) ?_
    clear hJ hB hA
    intro z wx hJ K hK
    simp only [xg0, xg1, xg2]
    go_simp
    exact hK.out _ _ ⟨hJ.1.alloc _, hJ.2.below (by go_grown)⟩ (cx_new hJ.1.gr.size hJ.1.pe hJ.1.ye)
   clear hJ hB hA
   intro fl z wx hJ hB K hK
   simp only [xg0, xg1, xg2]
   go_simp
   go_at_call 88
   refine (pick_c g K0 10 _ (by omega) (by omega) hJ.1.rd).mono ?_
   rintro e w4 ⟨v, rfl, b1, b2, -, hR4, G4, -⟩
   replace b2 := b2 (by omega)
   have hA := hJ.2.pick hgl G4
   replace hB := fun h => (hB h).pick hgl G4
   replace hJ := hJ.1.pick hR4 G4
   refine hK.out _ _ (.inr trivial) ?_
   clear hK K
   simp only [Act.put, xs0, xs1, xs2]
   obtain ⟨vn, rfl⟩ := Int.eq_ofNat_of_zero_le b1
   have hvz : (vn : Int) < 10 := b2
   apply wpF_take (z := z) 3 [4, 9, 10, 12]
   case hi => exact of_decide_eq_true (by kernel_rfl)
   case hl0 => kernel_rfl
   case hl1 => kernel_rfl
   case hs => kernel_rfl
   case hf0 => kernel_rfl
   case hf1 => kernel_rfl
   case hr0 => kernel_rfl
   case hr1 => kernel_rfl
   case hQ => exact fun _ _ _ h => h
   case hg => kernel_rfl
   case hS => exact hS0
   case hy =>
    intro w' hSw
    simp only [xg0, xg1, xg2]
    go_simp
    all_goals with_reducible rfl
   simp only [xg0, xg1, xg2, Act.put, xs0, xs1, xs2]
   obtain ⟨x, hx⟩ := hA.2.2 vn (by omega)
   refine wpE_strong (S' := fun w' => w'.cell? ⟨b, vn, none⟩ = some (.int .i64 x)) (fun _ _ => trivial) _ _ _ _ ?_
   clear hS0
   have hS0 := hx
   apply wpF_take (z := z) 4 [9, 10, 12]
   case hi => exact of_decide_eq_true (by kernel_rfl)
   case hl0 => kernel_rfl
   case hl1 => kernel_rfl
   case hs => kernel_rfl
   case hf0 => kernel_rfl
   case hf1 => kernel_rfl
   case hr0 => kernel_rfl
   case hr1 => kernel_rfl
   case hQ => exact fun _ _ _ h => h
   case hg => kernel_rfl
   case hS => exact hS0
   case hy =>
    intro w' hSw
    simp only [xg0, xg1, xg2]
    go_simp
    all_goals with_reducible rfl
   simp only [xg0, xg1, xg2, Act.put, xs0, xs1, xs2]
   apply wpF_step (f := 11) (fl := fl) (z := z) (J := fun wx => (DJ w wx g (K0 + 1) P n A L c Y ∧ AR w b wx) ∧ wx.cell? ⟨b, vn, none⟩ = some (.int .i64 x)) (B := fun z wx => CX w P Y z wx) 6
   case hi => exact of_decide_eq_true (by kernel_rfl)
   case hg => kernel_rfl
   case hr0 => kernel_rfl
   case hr1 => kernel_rfl
   case hL => kernel_rfl
   case hJ => exact ⟨⟨hJ, hA⟩, hx⟩
   case hB => exact hB
   case hF =>
    refine floats_of (of_decide_eq_true (by kernel_rfl)) (by kernel_rfl) (by kernel_rfl) (fun _ h => h.2) ?_
    clear hJ hB hA hx hS0
    intro z wx hJ K hK
    simp only [xg0, xg1, xg2]
    go_simp
    exact hK.out _ _ ⟨⟨hJ.1.1.alloc _, hJ.1.2.below (by go_grown)⟩, (World.cell?_alloc_past _ _ _ hJ.1.2.2.1).trans hJ.2⟩ (cx_new hJ.1.1.gr.size hJ.1.1.pe hJ.1.1.ye)
   clear hJ hB hA hx hS0
   intro fl z wx hJ hB K hK
   simp only [xg0, xg1, xg2]
   go_simp
   go_at_call 88
   refine (pick_c g (K0 + 1) 60 _ (by omega) (by omega) hJ.1.1.rd).mono ?_
   rintro e w5 ⟨v6, rfl, c1, c2, -, hR5, G5, -⟩
   replace c2 := c2 (by omega)
   have hx := far_cell G5 hJ.2 (show b ≠ g by have := hJ.1.2.1; omega)
   have hA := hJ.1.2.pick hgl G5
   replace hB := fun h => (hB h).pick hgl G5
   replace hJ := hJ.1.1.pick hR5 G5
   refine hK.out _ _ (.inr hx) ?_
   clear hK K
   simp only [Act.put, xs0, xs1, xs2]
   have hS0 := hx
   apply wpF_take (z := z) 7 [8, 9, 10, 12]
   case hi => exact of_decide_eq_true (by kernel_rfl)
   case hl0 => kernel_rfl
   case hl1 => kernel_rfl
   case hs => kernel_rfl
   case hf0 => kernel_rfl
   case hf1 => kernel_rfl
   case hr0 => kernel_rfl
   case hr1 => kernel_rfl
   case hQ => exact fun _ _ _ h => h
   case hg => kernel_rfl
   case hS => exact hS0
   case hy =>
    intro w' hSw
    simp only [xg0, xg1, xg2]
    go_simp
    all_goals with_reducible rfl
   simp only [xg0, xg1, xg2, Act.put, xs0, xs1, xs2]
   apply wpF_take (z := z) 8 [9, 10, 12]
   case hi => exact of_decide_eq_true (by kernel_rfl)
   case hl0 => kernel_rfl
   case hl1 => kernel_rfl
   case hs => kernel_rfl
   case hf0 => kernel_rfl
   case hf1 => kernel_rfl
   case hr0 => kernel_rfl
   case hr1 => kernel_rfl
   case hQ => exact fun _ _ _ h => h
   case hg => kernel_rfl
   case hS => exact hS0
   case hy =>
    intro w' hSw
    simp only [xg0, xg1, xg2]
    go_simp
    all_goals with_reducible rfl
   simp only [xg0, xg1, xg2, Act.put, xs0, xs1, xs2]
   apply wpF_take (z := z) 9 [10, 12]
   case hi => exact of_decide_eq_true (by kernel_rfl)
   case hl0 => kernel_rfl
   case hl1 => kernel_rfl
   case hs => kernel_rfl
   case hf0 => kernel_rfl
   case hf1 => kernel_rfl
   case hr0 => kernel_rfl
   case hr1 => kernel_rfl
   case hQ => exact fun _ _ _ h => h
   case hg => kernel_rfl
   case hS => exact hS0
   case hy =>
    intro w' hSw
    simp only [xg0, xg1, xg2]
    go_simp
    all_goals with_reducible rfl
   simp only [xg0, xg1, xg2, Act.put, xs0, xs1, xs2]
   apply wpF_take (z := z) 10 [12]
   case hi => exact of_decide_eq_true (by kernel_rfl)
   case hl0 => kernel_rfl
   case hl1 => kernel_rfl
   case hs => kernel_rfl
   case hf0 => kernel_rfl
   case hf1 => kernel_rfl
   case hr0 => kernel_rfl
   case hr1 => kernel_rfl
   case hQ => exact fun _ _ _ h => h
   case hg => kernel_rfl
   case hS => exact hS0
   case hy =>
    intro w' hSw
    simp only [xg0, xg1, xg2]
    go_simp
    all_goals with_reducible rfl
   simp only [xg0, xg1, xg2, Act.put, xs0, xs1, xs2]
   apply wpF_end (f := 11) (fl := fl) (z := z) (J := fun wx => (DJ w wx g (K0 + 1 + 1) P n A L c Y ∧ AR w b wx) ∧ wx.cell? ⟨b, vn, none⟩ = some (.int .i64 x)) (B := fun z wx => CX w P Y z wx)
   case hr0 => kernel_rfl
   case hL => kernel_rfl
   case hJ => exact ⟨⟨hJ, hA⟩, hx⟩
   case hB => exact hB
   case hF =>
    refine floats_of (of_decide_eq_true (by kernel_rfl)) (by kernel_rfl) (by kernel_rfl) (fun _ h => h.2) ?_
    clear hJ hB hA hx hS0
    intro z wx hJ K hK
    simp only [xg0, xg1, xg2]
    go_simp
    exact hK.out _ _ ⟨⟨hJ.1.1.alloc _, hJ.1.2.below (by go_grown)⟩, (World.cell?_alloc_past _ _ _ hJ.1.2.2.1).trans hJ.2⟩ (cx_new hJ.1.1.gr.size hJ.1.1.pe hJ.1.1.ye)
   clear hJ hB hA hx hS0
   intro z wx hJ hB
   have hB' := hB
   obtain ⟨X, rfl, -⟩ := hB'
   have hX := dx_of hJ.1.1 hB
   have x0 := hX.x 0 _ rfl
   have x1 := hX.x 1 _ rfl
   have x2 := hX.x 2 _ rfl
   have x3 := hX.x 3 _ rfl
   have x4 := hX.x 4 _ rfl
   have xf0 := hX.xf 0
   have xf1 := hX.xf 1
   have xf2 := hX.xf 2
   have xf3 := hX.xf 3
   have xf4 := hX.xf 4
   clear hJ hB
   refine wpE_step' 12 (of_decide_eq_true (by kernel_rfl)) (by kernel_rfl) (by kernel_rfl) (fun K hK => ?_)
   simp only [xg0, xg1, xg2]
   go_simp
   refine hK.out _ _ (.inl rfl) ?_
   clear hK K
   simp only [Act.put, xs0, xs1, xs2]
   refine wpE_done (by kernel_rfl) ?_ _
   go_wp2_with fail
   go_meet
   case rel => exact ⟨X, _, rfl, (((((hX.set 0 (by simp [Zd]) _).set 1 (by simp [Zd]) _).set 2 (by simp [Zd]) _).set 3 (by simp [Zd]) _).set 4 (by simp [Zd]) _).more (by omega)⟩
  case h2 =>
   clear hJ hB
   intro fl z wx hJ hB K hK
   simp only [xg0, xg1, xg2]
   go_simp
   go_at_call 88
   refine (pick_c g K0 10 _ (by omega) (by omega) hJ.rd).mono ?_
   rintro e w4 ⟨v, rfl, b1, b2, -, hR4, G4, -⟩
   replace b2 := b2 (by omega)
   replace hB := fun h => (hB h).pick hgl G4
   replace hJ := hJ.pick hR4 G4
   refine hK.out _ _ (.inr trivial) ?_
   clear hK K
   simp only [Act.put, xs0, xs1, xs2]
   apply wpF_two (f := 11) (fl := fl) (z := z) (J := fun wx => DJ w wx g (K0 + 1) P n A L c Y) (B := fun z wx => CX w P Y z wx) 0 6
   case hi => exact of_decide_eq_true (by kernel_rfl)
   case hj => exact of_decide_eq_true (by kernel_rfl)
   case hgi => kernel_rfl
   case hgj => kernel_rfl
   case hr0 => kernel_rfl
   case he0 => kernel_rfl
   case hr1 => kernel_rfl
   case he1 => kernel_rfl
   case hL => kernel_rfl
   case hJ => exact hJ
   case hB => exact hB
   case hF =>
    refine floats_of (of_decide_eq_true (by kernel_rfl)) (by kernel_rfl) (by kernel_rfl) (fun _ _ => trivial) ?_
    clear hJ hB
    intro z wx hJ K hK
    simp only [xg0, xg1, xg2]
    go_simp
    exact hK.out _ _ (hJ.alloc _) (cx_new hJ.gr.size hJ.pe hJ.ye)
   case h1 =>
    clear hJ hB
    intro fl z wx hJ hB K hK
    simp only [xg0, xg1, xg2]
    go_simp
    have hA := ar_new (w := w) (wx := wx) (t := 3) hJ.gr.size
    replace hJ := hJ.alloc (.cells #[.int .i64 0, .int .i64 1, .int .i64 1, .int .i64 1, .int .i64 2, .int .i64 2, .int .i64 3, .int .i64 4, .int .i64 5, .int .i64 6] 3)
    replace hB := fun h => (hB h).below (show Below wx.heap.size wx (wx.alloc (.cells #[.int .i64 0, .int .i64 1, .int .i64 1, .int .i64 1, .int .i64 2, .int .i64 2, .int .i64 3, .int .i64 4, .int .i64 5, .int .i64 6] 3)) by go_grown)
    refine hK.out _ _ (.inr trivial) ?_
    clear hK K
    simp only [Act.put, xs0, xs1, xs2]
    generalize wx.alloc (.cells #[.int .i64 0, .int .i64 1, .int .i64 1, .int .i64 1, .int .i64 2, .int .i64 2, .int .i64 3, .int .i64 4, .int .i64 5, .int .i64 6] 3) = wy at hA hJ hB ⊢
    generalize wx.heap.size = b at hA ⊢
    obtain ⟨vn, rfl⟩ := Int.eq_ofNat_of_zero_le b1
    have hvz : (vn : Int) < 10 := b2
    apply wpF_take (z := z) 3 [4, 9, 10, 12]
    case hi => exact of_decide_eq_true (by kernel_rfl)
    case hl0 => kernel_rfl
    case hl1 => kernel_rfl
    case hs => kernel_rfl
    case hf0 => kernel_rfl
    case hf1 => kernel_rfl
    case hr0 => kernel_rfl
    case hr1 => kernel_rfl
    case hQ => exact fun _ _ _ h => h
    case hg => kernel_rfl
    case hS => exact hS0
    case hy =>
     intro w' hSw
     simp only [xg0, xg1, xg2]
     go_simp
     all_goals with_reducible rfl
    simp only [xg0, xg1, xg2, Act.put, xs0, xs1, xs2]
    obtain ⟨x, hx⟩ := hA.2.2 vn (by omega)
    refine wpE_strong (S' := fun w' => w'.cell? ⟨b, vn, none⟩ = some (.int .i64 x)) (fun _ _ => trivial) _ _ _ _ ?_
    clear hS0
    have hS0 := hx
    apply wpF_take (z := z) 4 [9, 10, 12]
    case hi => exact of_decide_eq_true (by kernel_rfl)
    case hl0 => kernel_rfl
    case hl1 => kernel_rfl
    case hs => kernel_rfl
    case hf0 => kernel_rfl
    case hf1 => kernel_rfl
    case hr0 => kernel_rfl
    case hr1 => kernel_rfl
    case hQ => exact fun _ _ _ h => h
    case hg => kernel_rfl
    case hS => exact hS0
    case hy =>
     intro w' hSw
     simp only [xg0, xg1, xg2]
     go_simp
     all_goals with_reducible rfl
    simp only [xg0, xg1, xg2, Act.put, xs0, xs1, xs2]
    apply wpF_step (f := 11) (fl := fl) (z := z) (J := fun wx => (DJ w wx g (K0 + 1) P n A L c Y ∧ AR w b wx) ∧ wx.cell? ⟨b, vn, none⟩ = some (.int .i64 x)) (B := fun z wx => CX w P Y z wx) 6
    case hi => exact of_decide_eq_true (by kernel_rfl)
    case hg => kernel_rfl
    case hr0 => kernel_rfl
    case hr1 => kernel_rfl
    case hL => kernel_rfl
    case hJ => exact ⟨⟨hJ, hA⟩, hx⟩
    case hB => exact hB
    case hF =>
     refine floats_of (of_decide_eq_true (by kernel_rfl)) (by kernel_rfl) (by kernel_rfl) (fun _ h => h.2) ?_
     clear hJ hB hA hx hS0
     intro z wx hJ K hK
     simp only [xg0, xg1, xg2]
     go_simp
     exact hK.out _ _ ⟨⟨hJ.1.1.alloc _, hJ.1.2.below (by go_grown)⟩, (World.cell?_alloc_past _ _ _ hJ.1.2.2.1).trans hJ.2⟩ (cx_new hJ.1.1.gr.size hJ.1.1.pe hJ.1.1.ye)
    clear hJ hB hA hx hS0
    intro fl z wx hJ hB K hK
    simp only [xg0, xg1, xg2]
    go_simp
    go_at_call 88
    refine (pick_c g (K0 + 1) 60 _ (by omega) (by omega) hJ.1.1.rd).mono ?_
    rintro e w5 ⟨v6, rfl, c1, c2, -, hR5, G5, -⟩
    replace c2 := c2 (by omega)
    have hx := far_cell G5 hJ.2 (show b ≠ g by have := hJ.1.2.1; omega)
    have hA := hJ.1.2.pick hgl G5
    replace hB := fun h => (hB h).pick hgl G5
    replace hJ := hJ.1.1.pick hR5 G5
    refine hK.out _ _ (.inr hx) ?_
    clear hK K
    simp only [Act.put, xs0, xs1, xs2]
    have hS0 := hx
    apply wpF_take (z := z) 7 [8, 9, 10, 12]
    case hi => exact of_decide_eq_true (by kernel_rfl)
    case hl0 => kernel_rfl
    case hl1 => kernel_rfl
    case hs => kernel_rfl
    case hf0 => kernel_rfl
    case hf1 => kernel_rfl
    case hr0 => kernel_rfl
    case hr1 => kernel_rfl
    case hQ => exact fun _ _ _ h => h
    case hg => kernel_rfl
    case hS => exact hS0
    case hy =>
     intro w' hSw
     simp only [xg0, xg1, xg2]
     go_simp
     all_goals with_reducible rfl
    simp only [xg0, xg1, xg2, Act.put, xs0, xs1, xs2]
    apply wpF_take (z := z) 8 [9, 10, 12]
    case hi => exact of_decide_eq_true (by kernel_rfl)
    case hl0 => kernel_rfl
    case hl1 => kernel_rfl
    case hs => kernel_rfl
    case hf0 => kernel_rfl
    case hf1 => kernel_rfl
    case hr0 => kernel_rfl
    case hr1 => kernel_rfl
    case hQ => exact fun _ _ _ h => h
    case hg => kernel_rfl
    case hS => exact hS0
    case hy =>
     intro w' hSw
     simp only [xg0, xg1, xg2]
     go_simp
     all_goals with_reducible rfl
    simp only [xg0, xg1, xg2, Act.put, xs0, xs1, xs2]
    apply wpF_take (z := z) 9 [10, 12]
    case hi => exact of_decide_eq_true (by kernel_rfl)
    case hl0 => kernel_rfl
    case hl1 => kernel_rfl
    case hs => kernel_rfl
    case hf0 => kernel_rfl
    case hf1 => kernel_rfl
    case hr0 => kernel_rfl
    case hr1 => kernel_rfl
    case hQ => exact fun _ _ _ h => h
    case hg => kernel_rfl
    case hS => exact hS0
    case hy =>
     intro w' hSw
     simp only [xg0, xg1, xg2]
     go_simp
     all_goals with_reducible rfl
    simp only [xg0, xg1, xg2, Act.put, xs0, xs1, xs2]
    apply wpF_take (z := z) 10 [12]
    case hi => exact of_decide_eq_true (by kernel_rfl)
    case hl0 => kernel_rfl
    case hl1 => kernel_rfl
    case hs => kernel_rfl
    case hf0 => kernel_rfl
    case hf1 => kernel_rfl
    case hr0 => kernel_rfl
    case hr1 => kernel_rfl
    case hQ => exact fun _ _ _ h => h
    case hg => kernel_rfl
    case hS => exact hS0
    case hy =>
     intro w' hSw
     simp only [xg0, xg1, xg2]
     go_simp
     all_goals with_reducible rfl
    simp only [xg0, xg1, xg2, Act.put, xs0, xs1, xs2]
    apply wpF_end (f := 11) (fl := fl) (z := z) (J := fun wx => (DJ w wx g (K0 + 1 + 1) P n A L c Y ∧ AR w b wx) ∧ wx.cell? ⟨b, vn, none⟩ = some (.int .i64 x)) (B := fun z wx => CX w P Y z wx)
    case hr0 => kernel_rfl
    case hL => kernel_rfl
    case hJ => exact ⟨⟨hJ, hA⟩, hx⟩
    case hB => exact hB
    case hF =>
     refine floats_of (of_decide_eq_true (by kernel_rfl)) (by kernel_rfl) (by kernel_rfl) (fun _ h => h.2) ?_
     clear hJ hB hA hx hS0
     intro z wx hJ K hK
     simp only [xg0, xg1, xg2]
     go_simp
     exact hK.out _ _ ⟨⟨hJ.1.1.alloc _, hJ.1.2.below (by go_grown)⟩, (World.cell?_alloc_past _ _ _ hJ.1.2.2.1).trans hJ.2⟩ (cx_new hJ.1.1.gr.size hJ.1.1.pe hJ.1.1.ye)
    clear hJ hB hA hx hS0
    intro z wx hJ hB
    have hB' := hB
    obtain ⟨X, rfl, -⟩ := hB'
    have hX := dx_of hJ.1.1 hB
    have x0 := hX.x 0 _ rfl
    have x1 := hX.x 1 _ rfl
    have x2 := hX.x 2 _ rfl
    have x3 := hX.x 3 _ rfl
    have x4 := hX.x 4 _ rfl
    have xf0 := hX.xf 0
    have xf1 := hX.xf 1
    have xf2 := hX.xf 2
    have xf3 := hX.xf 3
    have xf4 := hX.xf 4
    clear hJ hB
    refine wpE_step' 12 (of_decide_eq_true (by kernel_rfl)) (by kernel_rfl) (by kernel_rfl) (fun K hK => ?_)
    simp only [xg0, xg1, xg2]
    go_simp
    refine hK.out _ _ (.inl rfl) ?_
    clear hK K
    simp only [Act.put, xs0, xs1, xs2]
    refine wpE_done (by kernel_rfl) ?_ _
    go_wp2_with fail
    go_meet
    case rel => exact ⟨X, _, rfl, (((((hX.set 0 (by simp [Zd]) _).set 1 (by simp [Zd]) _).set 2 (by simp [Zd]) _).set 3 (by simp [Zd]) _).set 4 (by simp [Zd]) _).more (by omega)⟩
   case h2 =>
    clear hJ hB
    intro fl z wx hJ hB K hK
    simp only [xg0, xg1, xg2]
    go_simp
    go_at_call 88
    refine (pick_c g (K0 + 1) 60 _ (by omega) (by omega) hJ.rd).mono ?_
    rintro e w5 ⟨v6, rfl, c1, c2, -, hR5, G5, -⟩
    replace c2 := c2 (by omega)
    replace hB := fun h => (hB h).pick hgl G5
    replace hJ := hJ.pick hR5 G5
    refine hK.out _ _ (.inr trivial) ?_
    clear hK K
    simp only [Act.put, xs0, xs1, xs2]
    have hS0 := trivial
    apply wpF_take (z := z) 7 [8, 9, 10, 12]
    case hi => exact of_decide_eq_true (by kernel_rfl)
    case hl0 => kernel_rfl
    case hl1 => kernel_rfl
    case hs => kernel_rfl
    case hf0 => kernel_rfl
    case hf1 => kernel_rfl
    case hr0 => kernel_rfl
    case hr1 => kernel_rfl
    case hQ => exact fun _ _ _ h => h
    case hg => kernel_rfl
    case hS => exact hS0
    case hy =>
     intro w' hSw
     simp only [xg0, xg1, xg2]
     go_simp
     all_goals with_reducible rfl
    simp only [xg0, xg1, xg2, Act.put, xs0, xs1, xs2]
    apply wpF_take (z := z) 8 [9, 10, 12]
    case hi => exact of_decide_eq_true (by kernel_rfl)
    case hl0 => kernel_rfl
    case hl1 => kernel_rfl
    case hs => kernel_rfl
    case hf0 => kernel_rfl
    case hf1 => kernel_rfl
    case hr0 => kernel_rfl
    case hr1 => kernel_rfl
    case hQ => exact fun _ _ _ h => h
    case hg => kernel_rfl
    case hS => exact hS0
    case hy =>
     intro w' hSw
     simp only [xg0, xg1, xg2]
     go_simp
     all_goals with_reducible rfl
    simp only [xg0, xg1, xg2, Act.put, xs0, xs1, xs2]
    apply wpF_step (f := 11) (fl := fl) (z := z) (J := fun wx => DJ w wx g (K0 + 1 + 1) P n A L c Y) (B := fun z wx => CX w P Y z wx) 0
    case hi => exact of_decide_eq_true (by kernel_rfl)
    case hg => kernel_rfl
    case hr0 => kernel_rfl
    case hr1 => kernel_rfl
    case hL => kernel_rfl
    case hJ => exact hJ
    case hB => exact hB
    case hF =>
     refine floats_of (of_decide_eq_true (by kernel_rfl)) (by kernel_rfl) (by kernel_rfl) (fun _ _ => trivial) ?_
     clear hJ hB
     intro z wx hJ K hK
     simp only [xg0, xg1, xg2]
     go_simp
     exact hK.out _ _ (hJ.alloc _) (cx_new hJ.gr.size hJ.pe hJ.ye)
    clear hJ hB
    intro fl z wx hJ hB K hK
    simp only [xg0, xg1, xg2]
    go_simp
    have hA := ar_new (w := w) (wx := wx) (t := 3) hJ.gr.size
    replace hJ := hJ.alloc (.cells #[.int .i64 0, .int .i64 1, .int .i64 1, .int .i64 1, .int .i64 2, .int .i64 2, .int .i64 3, .int .i64 4, .int .i64 5, .int .i64 6] 3)
    replace hB := fun h => (hB h).below (show Below wx.heap.size wx (wx.alloc (.cells #[.int .i64 0, .int .i64 1, .int .i64 1, .int .i64 1, .int .i64 2, .int .i64 2, .int .i64 3, .int .i64 4, .int .i64 5, .int .i64 6] 3)) by go_grown)
    refine hK.out _ _ (.inr trivial) ?_
    clear hK K
    simp only [Act.put, xs0, xs1, xs2]
    generalize wx.alloc (.cells #[.int .i64 0, .int .i64 1, .int .i64 1, .int .i64 1, .int .i64 2, .int .i64 2, .int .i64 3, .int .i64 4, .int .i64 5, .int .i64 6] 3) = wy at hA hJ hB ⊢
    generalize wx.heap.size = b at hA ⊢
    have hS0 := trivial
    obtain ⟨vn, rfl⟩ := Int.eq_ofNat_of_zero_le b1
    have hvz : (vn : Int) < 10 := b2
    apply wpF_take (z := z) 3 [4, 9, 10, 12]
    case hi => exact of_decide_eq_true (by kernel_rfl)
    case hl0 => kernel_rfl
    case hl1 => kernel_rfl
    case hs => kernel_rfl
    case hf0 => kernel_rfl
    case hf1 => kernel_rfl
    case hr0 => kernel_rfl
    case hr1 => kernel_rfl
    case hQ => exact fun _ _ _ h => h
    case hg => kernel_rfl
    case hS => exact hS0
    case hy =>
     intro w' hSw
     simp only [xg0, xg1, xg2]
     go_simp
     all_goals with_reducible rfl
    simp only [xg0, xg1, xg2, Act.put, xs0, xs1, xs2]
    obtain ⟨x, hx⟩ := hA.2.2 vn (by omega)
    refine wpE_strong (S' := fun w' => w'.cell? ⟨b, vn, none⟩ = some (.int .i64 x)) (fun _ _ => trivial) _ _ _ _ ?_
    clear hS0
    have hS0 := hx
    apply wpF_take (z := z) 4 [9, 10, 12]
    case hi => exact of_decide_eq_true (by kernel_rfl)
    case hl0 => kernel_rfl
    case hl1 => kernel_rfl
    case hs => kernel_rfl
    case hf0 => kernel_rfl
    case hf1 => kernel_rfl
    case hr0 => kernel_rfl
    case hr1 => kernel_rfl
    case hQ => exact fun _ _ _ h => h
    case hg => kernel_rfl
    case hS => exact hS0
    case hy =>
     intro w' hSw
     simp only [xg0, xg1, xg2]
     go_simp
     all_goals with_reducible rfl
    simp only [xg0, xg1, xg2, Act.put, xs0, xs1, xs2]
    apply wpF_take (z := z) 9 [10, 12]
    case hi => exact of_decide_eq_true (by kernel_rfl)
    case hl0 => kernel_rfl
    case hl1 => kernel_rfl
    case hs => kernel_rfl
    case hf0 => kernel_rfl
    case hf1 => kernel_rfl
    case hr0 => kernel_rfl
    case hr1 => kernel_rfl
    case hQ => exact fun _ _ _ h => h
    case hg => kernel_rfl
    case hS => exact hS0
    case hy =>
     intro w' hSw
     simp only [xg0, xg1, xg2]
     go_simp
     all_goals with_reducible rfl
    simp only [xg0, xg1, xg2, Act.put, xs0, xs1, xs2]
    apply wpF_take (z := z) 10 [12]
    case hi => exact of_decide_eq_true (by kernel_rfl)
    case hl0 => kernel_rfl
    case hl1 => kernel_rfl
    case hs => kernel_rfl
    case hf0 => kernel_rfl
    case hf1 => kernel_rfl
    case hr0 => kernel_rfl
    case hr1 => kernel_rfl
    case hQ => exact fun _ _ _ h => h
    case hg => kernel_rfl
    case hS => exact hS0
    case hy =>
     intro w' hSw
     simp only [xg0, xg1, xg2]
     go_simp
     all_goals with_reducible rfl
    simp only [xg0, xg1, xg2, Act.put, xs0, xs1, xs2]
    apply wpF_end (f := 11) (fl := fl) (z := z) (J := fun wx => (DJ w wx g (K0 + 1 + 1) P n A L c Y ∧ AR w b wx) ∧ wx.cell? ⟨b, vn, none⟩ = some (.int .i64 x)) (B := fun z wx => CX w P Y z wx)
    case hr0 => kernel_rfl
    case hL => kernel_rfl
    case hJ => exact ⟨⟨hJ, hA⟩, hx⟩
    case hB => exact hB
    case hF =>
     refine floats_of (of_decide_eq_true (by kernel_rfl)) (by kernel_rfl) (by kernel_rfl) (fun _ h => h.2) ?_
     clear hJ hB hA hx hS0
     intro z wx hJ K hK
     simp only [xg0, xg1, xg2]
     go_simp
     exact hK.out _ _ ⟨⟨hJ.1.1.alloc _, hJ.1.2.below (by go_grown)⟩, (World.cell?_alloc_past _ _ _ hJ.1.2.2.1).trans hJ.2⟩ (cx_new hJ.1.1.gr.size hJ.1.1.pe hJ.1.1.ye)
    clear hJ hB hA hx hS0
    intro z wx hJ hB
    have hB' := hB
    obtain ⟨X, rfl, -⟩ := hB'
    have hX := dx_of hJ.1.1 hB
    have x0 := hX.x 0 _ rfl
    have x1 := hX.x 1 _ rfl
    have x2 := hX.x 2 _ rfl
    have x3 := hX.x 3 _ rfl
    have x4 := hX.x 4 _ rfl
    have xf0 := hX.xf 0
    have xf1 := hX.xf 1
    have xf2 := hX.xf 2
    have xf3 := hX.xf 3
    have xf4 := hX.xf 4
    clear hJ hB
    refine wpE_step' 12 (of_decide_eq_true (by kernel_rfl)) (by kernel_rfl) (by kernel_rfl) (fun K hK => ?_)
    simp only [xg0, xg1, xg2]
    go_simp
    refine hK.out _ _ (.inl rfl) ?_
    clear hK K
    simp only [Act.put, xs0, xs1, xs2]
    refine wpE_done (by kernel_rfl) ?_ _
    go_wp2_with fail
    go_meet
    case rel => exact ⟨X, _, rfl, (((((hX.set 0 (by simp [Zd]) _).set 1 (by simp [Zd]) _).set 2 (by simp [Zd]) _).set 3 (by simp [Zd]) _).set 4 (by simp [Zd]) _).more (by omega)⟩
 case rest =>
  obtain ⟨X, k, rfl, hX⟩ := hcut
  clear hJ1
  have p0 := hX.j.p0
  go_upto_region 2 with fail
  go_cut [6] (fun s6 wx => ∃ m : Int, s6 = .int .i64 m ∧ -1000000 ≤ m ∧ m ≤ 1000000 ∧ wx = wc)
  case first =>
   go_wp2_with fail
   all_goals
    go_meet
    case rel => exact ⟨_, rfl, by omega, by omega, rfl⟩
  case rest =>
   obtain ⟨m, rfl, hm0, hm1, rfl⟩ := hcut
   clear p0
   have x0 := hX.x 0 _ rfl
   go_upto_block 0 with fail
   clear x0
   go_cut [] (fun wx => ∃ k' a1 a2 a3 s, DX w wx g (K0 + 150) P n A L c Y X [.int .i64 k', .int .i64 a1, .int .i64 a2, .int .i64 a3, .string s])
   case first =>
    by_cases h1 : k = 1
    ·subst h1
     go_upto_region 6 with (go_at_call 88; refine (pick_c g (K0 + 2) m _ (by omega) (by omega) hX.j.rd).mono ?_; rintro e w4 ⟨v, rfl, b1, b2, -, hR4, G4, -⟩; have hX4 := hX.pick hR4 G4; have xi := hX4.x 1 _ rfl; have xfi := hX4.xf 1)
     replace hX := hX4.set 1 (by simp) (.int .i64 v)
     clear hX4 xi xfi b1 b2 hR4 G4
     generalize w4.setCell ⟨X, 1, none⟩ (.int .i64 v) = wn at hX ⊢
     go_upto_region 7 with (go_at_call 88; refine (pick_c g (K0 + 2 + 1) m _ (by omega) (by omega) hX.j.rd).mono ?_; rintro e w4 ⟨v, rfl, b1, b2, -, hR4, G4, -⟩; have hX4 := hX.pick hR4 G4; have xi := hX4.x 2 _ rfl; have xfi := hX4.xf 2)
     replace hX := hX4.set 2 (by simp) (.int .i64 v)
     clear hX4 xi xfi b1 b2 hR4 G4
     generalize w4.setCell ⟨X, 2, none⟩ (.int .i64 v) = wn at hX ⊢
     go_wp2_with (go_at_call 88; refine (pick_c g (K0 + 2 + 1 + 1) 30 _ (by omega) (by omega) hX.j.rd).mono ?_; rintro e w4 ⟨v, rfl, b1, b2, -, hR4, G4, -⟩; have hX4 := hX.pick hR4 G4; have xi := hX4.x 3 _ rfl; have xfi := hX4.xf 3)
     replace hX := hX4.set 3 (by simp) (.int .i64 (v - 10))
     go_meet
     case rel => exact ⟨_, _, _, _, _, hX.more (by omega)⟩
    ·have h10 : (k == 1) = false := by simpa using h1
     by_cases h2 : k = 2
     ·subst h2
      have p1 := hX.j.p1
      by_cases hl : (1 : Int) ≤ (L : Int)
      ·go_wp2_with (go_at_call 88; refine (pick_c g (K0 + 2) _ _ (by omega) (by omega) hX.j.rd).mono ?_; rintro e w4 ⟨v, rfl, b1, b2, -, hR4, G4, -⟩; have hX4 := hX.pick hR4 G4; have xi := hX4.x 1 _ rfl; have xfi := hX4.xf 1)
       replace hX := hX4.set 1 (by simp) (.int .i64 v)
       go_meet
       case rel => exact ⟨_, _, _, _, _, hX.more (by omega)⟩
      ·go_wp2_with (go_at_call 88; refine (pick_c g (K0 + 2) _ _ (by omega) (by omega) hX.j.rd).mono ?_; rintro e w4 ⟨v, rfl, b1, b2, -, hR4, G4, -⟩; have hX4 := hX.pick hR4 G4; have xi := hX4.x 1 _ rfl; have xfi := hX4.xf 1)
       replace hX := hX4.set 1 (by simp) (.int .i64 v)
       go_meet
       case rel => exact ⟨_, _, _, _, _, hX.more (by omega)⟩
     ·have h20 : (k == 2) = false := by simpa using h2
      by_cases h5 : k = 5
      ·subst h5
       clear h1 h2
       go_wp2_with (first
        | (go_at_call 94; refine (term_c g (K0 + 2) 0 _ (by omega) (by omega) hX.j.rd).mono ?_; rintro e w4 ⟨At, ct, t, rfl, htl, hown, hR4, G4⟩; have hX4 := hX.pick hR4 G4; have hcap := own_capM hown; obtain ⟨gt, hrt⟩ := OwnM.reads hown)
        | (go_at_call 93; refine (sTermText_q t At gt 0 ct _ _ hcap (Nat.le_refl _) hrt (by omega)).mono ?_; rintro e w5 ⟨rfl, hb5⟩; unfold txt; have hX5 := hX4.below hb5; have xi := hX5.x 4 _ rfl; have xfi := hX5.xf 4))
       replace hX := hX5.set 4 (by simp) (.string ⟨(termText t).toArray⟩)
       go_meet
       case rel => exact ⟨_, _, _, _, _, hX.more (by omega)⟩
      ·have h50 : (k == 5) = false := by simpa using h5
       go_wp2_with fail
       go_meet
       case rel => exact ⟨_, _, _, _, _, hX.more (by omega)⟩
   case rest =>
    clear hX
    obtain ⟨k', a1, a2, a3, s, hX⟩ := hcut
    go_upto_if 53 with (go_at_call 53; refine (odd_c g (K0 + 150) 40 _ (by omega) (by omega) hX.j.rd).mono ?_; rintro e w4 ⟨ob, rfl, hR4, G4, -⟩; have hX4 := hX.pick hR4 G4)
    clear hX hR4 G4
    cases ob
    ·have hX := hX4
     clear hX4
     have x0 := hX.x 0 _ rfl
     have x1 := hX.x 1 _ rfl
     have x2 := hX.x 2 _ rfl
     have x3 := hX.x 3 _ rfl
     have x4 := hX.x 4 _ rfl
     have y0 := hX.j.y 0 _ rfl
     have y1 := hX.j.y 1 _ rfl
     have y2 := hX.j.y 2 _ rfl
     have y3 := hX.j.y 3 _ rfl
     have y4 := hX.j.y 4 _ rfl
     have yf0 := hX.j.yf 0
     have yf1 := hX.j.yf 1
     have yf2 := hX.j.yf 2
     have yf3 := hX.j.yf 3
     have yf4 := hX.j.yf 4
     obtain ⟨r0, r1, r2, r3, r4, hR9, hG9⟩ := hX.fin (k := k') (a1 := a1) (a2 := a2) (a3 := a3) (s := s) _ rfl
     go_wp2_with fail
     refine bodyPost_ret (v := .agg #[.int .i64 (k'), .int .i64 (a1), .int .i64 (a2), .int .i64 (a3), .string (s)]) (by simp [results, Tryz.results61, go_sem, r0, r1, r2, r3, r4]) rfl ?_
     exact ⟨_, _, _, _, _, rfl, hR9.more (by omega), hG9⟩
    ·go_upto_block 1 with (go_at_call 88; refine (pick_c g (K0 + 150 + 1) 3 _ (by omega) (by omega) hX4.j.rd).mono ?_; rintro e w5 ⟨v, rfl, b1, b2, -, hR5, G5, -⟩; have hX5 := hX4.pick hR5 G5)
     replace b2 := b2 (by omega)
     clear hX4 hR5 G5
     have hv : v = 0 ∨ v = 1 ∨ v = 2 := by omega
     have hne : w5.heap.size ≠ g := by have := hX5.j.gr.size; omega
     rcases hv with rfl | rfl | rfl
     ·go_upto_region 19 with (go_at_call 88; refine (pick_c g (K0 + 150 + 1 + 1) 2 _ (by omega) (by omega) (hX5.j.rd.alloc _)).mono ?_; rintro e w6 ⟨v6, rfl, c1, c2, -, hR6, G6, -⟩; replace c2 := c2 (by omega); have hX6 := (hX5.below (show Below w5.heap.size w5 (w5.alloc (.cells #[.int .i64 (-1), .int .i64 100] 3)) by go_grown)).pick hR6 G6; obtain ⟨vn, rfl⟩ := Int.eq_ofNat_of_zero_le c1; obtain ⟨x, hx⟩ := deed_two G6 hne c2; have hvz : (vn : Int) < 2 := c2; have xi := hX6.x 1 _ rfl; have xfi := hX6.xf 1)
      have hX := hX6.set 1 (by simp) (.int .i64 x)
      clear hX6 hX5 xi xfi hR6 G6 c1 c2 hx hvz
      generalize w6.setCell ⟨X, 1, none⟩ (.int .i64 x) = wn at hX ⊢
      have x0 := hX.x 0 _ rfl
      have x1 := hX.x 1 _ rfl
      have x2 := hX.x 2 _ rfl
      have x3 := hX.x 3 _ rfl
      have x4 := hX.x 4 _ rfl
      have y0 := hX.j.y 0 _ rfl
      have y1 := hX.j.y 1 _ rfl
      have y2 := hX.j.y 2 _ rfl
      have y3 := hX.j.y 3 _ rfl
      have y4 := hX.j.y 4 _ rfl
      have yf0 := hX.j.yf 0
      have yf1 := hX.j.yf 1
      have yf2 := hX.j.yf 2
      have yf3 := hX.j.yf 3
      have yf4 := hX.j.yf 4
      obtain ⟨r0, r1, r2, r3, r4, hR9, hG9⟩ := hX.fin (k := k') (a1 := x) (a2 := a2) (a3 := a3) (s := s) _ rfl
      go_wp2_with fail
      refine bodyPost_ret (v := .agg #[.int .i64 (k'), .int .i64 (x), .int .i64 (a2), .int .i64 (a3), .string (s)]) (by simp [results, Tryz.results61, go_sem, r0, r1, r2, r3, r4]) rfl ?_
      exact ⟨_, _, _, _, _, rfl, hR9.more (by omega), hG9⟩
     ·have xi := hX5.x 4 _ rfl
      have xfi := hX5.xf 4
      go_upto_region 19 with fail
      have hX := hX5.set 4 (by simp) (.string ⟨#[40, 51, 41]⟩)
      clear hX5 xi xfi
      generalize w5.setCell ⟨X, 4, none⟩ (.string ⟨#[40, 51, 41]⟩) = wn at hX ⊢
      have x0 := hX.x 0 _ rfl
      have x1 := hX.x 1 _ rfl
      have x2 := hX.x 2 _ rfl
      have x3 := hX.x 3 _ rfl
      have x4 := hX.x 4 _ rfl
      have y0 := hX.j.y 0 _ rfl
      have y1 := hX.j.y 1 _ rfl
      have y2 := hX.j.y 2 _ rfl
      have y3 := hX.j.y 3 _ rfl
      have y4 := hX.j.y 4 _ rfl
      have yf0 := hX.j.yf 0
      have yf1 := hX.j.yf 1
      have yf2 := hX.j.yf 2
      have yf3 := hX.j.yf 3
      have yf4 := hX.j.yf 4
      obtain ⟨r0, r1, r2, r3, r4, hR9, hG9⟩ := hX.fin (k := k') (a1 := a1) (a2 := a2) (a3 := a3) (s := ⟨#[40, 51, 41]⟩) _ rfl
      go_wp2_with fail
      refine bodyPost_ret (v := .agg #[.int .i64 (k'), .int .i64 (a1), .int .i64 (a2), .int .i64 (a3), .string (⟨#[40, 51, 41]⟩)]) (by simp [results, Tryz.results61, go_sem, r0, r1, r2, r3, r4]) rfl ?_
      exact ⟨_, _, _, _, _, rfl, hR9.more (by omega), hG9⟩
     ·have xi := hX5.x 3 _ rfl
      have xfi := hX5.xf 3
      go_upto_region 19 with fail
      have hX := hX5.set 3 (by simp) (.int .i64 100)
      clear hX5 xi xfi
      generalize w5.setCell ⟨X, 3, none⟩ (.int .i64 100) = wn at hX ⊢
      have x0 := hX.x 0 _ rfl
      have x1 := hX.x 1 _ rfl
      have x2 := hX.x 2 _ rfl
      have x3 := hX.x 3 _ rfl
      have x4 := hX.x 4 _ rfl
      have y0 := hX.j.y 0 _ rfl
      have y1 := hX.j.y 1 _ rfl
      have y2 := hX.j.y 2 _ rfl
      have y3 := hX.j.y 3 _ rfl
      have y4 := hX.j.y 4 _ rfl
      have yf0 := hX.j.yf 0
      have yf1 := hX.j.yf 1
      have yf2 := hX.j.yf 2
      have yf3 := hX.j.yf 3
      have yf4 := hX.j.yf 4
      obtain ⟨r0, r1, r2, r3, r4, hR9, hG9⟩ := hX.fin (k := k') (a1 := a1) (a2 := a2) (a3 := 100) (s := s) _ rfl
      go_wp2_with fail
      refine bodyPost_ret (v := .agg #[.int .i64 (k'), .int .i64 (a1), .int .i64 (a2), .int .i64 (100), .string (s)]) (by simp [results, Tryz.results61, go_sem, r0, r1, r2, r3, r4]) rfl ?_
      exact ⟨_, _, _, _, _, rfl, hR9.more (by omega), hG9⟩
end Go.Proofs.YtmnajkhoacogjaaGreatDoor
