/-
  The draws of the reference: drawn times.
-/
import Derived.Test.YtledgblepdjjlaaD53
import Derived.Test.YtledgblepdjjlaaZ1
import Derived.Test.YtledgblepdjjlaaW0
namespace Go.Proofs.Ytledgblepdjjlaa
set_option linter.unusedVariables false
set_option linter.unusedSimpArgs false
open Go.RowKit Pp

theorem BdsR.far {w w' : World} {B b o g : Nat} {A : Option Addr} {bs : List Bd} (h : BdsR w B b o A bs) (G : w.grownBy w' (some g)) (hb : 0 < bs.length → b ≠ g) : BdsR w' B b o A bs := by
  have hl : ∀ {j : Nat} {x : Bd}, bs[j]? = some x → b ≠ g := fun {j x} hx => hb (by have := (List.getElem?_eq_some_iff.1 hx).1; omega)
  exact ⟨h.addr, h.lt, fun j x hx => far_cell G (h.c0 j x hx) (hl hx), fun j x hx => far_cell G (h.c1 j x hx) (hl hx), fun j x hx => far_cell G (h.c2 j x hx) (hl hx)⟩
theorem LQ.set {wD wx : World} {g q c k : Nat} {K : Int} {xs : List Int} (h : LQ wD wx g K (.slice (some ⟨q, 0, none⟩) xs.length c) xs) (v : Int) (hk : k < xs.length) :
    LQ wD (wx.setCell ⟨q, k, none⟩ (.int .i64 v)) g K (.slice (some ⟨q, 0, none⟩) (xs.set k v).length c) (xs.set k v) ∧ wx.cell? ⟨q, k, none⟩ = some (.int .i64 (xs.getD k 0)) ∧ wx.frozen? ⟨q, k, none⟩ = false ∧ wD.heap.size ≤ q := by
  obtain ⟨h1, h2, h3⟩ := own_setI v h.own hk
  have hq : wD.heap.size ≤ q := (h.own.lt q rfl).1
  have := h.gl
  exact ⟨⟨h.rd.set _ (by dsimp only; omega) _, gr_set h.gr _ (.inl hq) _, h.gl, h1⟩, h2, h3, hq⟩

set_option maxHeartbeats 8000000 in
set_option maxRecDepth 100000 in
theorem times_c (g : Nat) (K n : Int) (bs : List Bd) (A : Option Addr) (b o c : Nat) (w : World) (hK : 0 ≤ K ∧ K ≤ 1000000) (hn : 0 ≤ n ∧ n ≤ 7) (hl : bs.length ≤ 2000000) (hg : RdO w g K) (hR : BdsR w w.heap.size b o A bs) (hb : 0 < bs.length → b ≠ g) :
    Calls Try.prog 103 #[.pointer (some ⟨g, 0, none⟩), .agg #[.int .i64 n, .slice A bs.length c]] w fun e w' =>
      ∃ A1 c1 xs, e = .returned (.slice A1 xs.length c1) ∧ xs.length ≤ 8 ∧ OwnI w.heap.size w' (.slice A1 xs.length c1) xs ∧ RdO w' g (K + 40) ∧ w.grownBy w' (some g) := by
  obtain ⟨i0, hi0, hz0, hz1, hz2⟩ := info_parts infoI
  obtain ⟨hn0, hn7⟩ := hn
  obtain ⟨hK0, hK1⟩ := hK
  have hgl := hg.lt
  have hbel : Below w.heap.size w (w.alloc (.cells #[.int .i64 n, .slice A bs.length c] 32)) := by go_grown
  have hRD := (hR.below hbel).more hbel.size
  have hgD := hg.below hbel
  have hGD := gr_new w (.cells #[.int .i64 n, .slice A bs.length c] 32) (some g)
  have u0 : (w.alloc (.cells #[.int .i64 n, .slice A bs.length c] 32)).cell? ⟨w.heap.size, 0, none⟩ = some (.int .i64 n) := by simp [go_sem]
  have u1 : (w.alloc (.cells #[.int .i64 n, .slice A bs.length c] 32)).cell? ⟨w.heap.size, 1, none⟩ = some (.slice A bs.length c) := by simp [go_sem]
  have hsz : (w.alloc (.cells #[.int .i64 n, .slice A bs.length c] 32)).heap.size = w.heap.size + 1 := by simp
  have hXg : w.heap.size ≠ g := by omega
  clear hbel
  go_enter Try.func103, Try.ntmps103
  go_upto_block 0 with fail
  try rw [← hsz]
  generalize w.alloc (.cells #[.int .i64 n, .slice A bs.length c] 32) = wD at hRD hgD hGD u0 u1 hsz ⊢
  have hL : LQ wD (wD.alloc (.cells #[] 3)) g K (.slice (some ⟨wD.heap.size, 0, none⟩) 0 0) [] := ⟨hgD.alloc _, gr_new wD _ _, by omega, own_empty (at_new rfl) (Nat.le_refl _)⟩
  have hszl : w.heap.size < wD.heap.size := by omega
  clear hg hR hsz hgD
  generalize wD.alloc (.cells #[] 3) = W at hL ⊢
  go_cut [5] (fun s wx => ∃ A3 c3 xs, xs.length ≤ 7 ∧ s = .slice A3 xs.length c3 ∧ Hid ((xs.length : Int) = n) ∧ LQ wD wx g (K + 30) s xs)
  case first =>
    go_wp2_with fail
    go_loopg [5, 6] n.toNat (fun gh s i wr => ∃ (k : Nat) (A3 : Option Addr) (c3 : Nat) (xs : List Int), (k : Int) ≤ n ∧ gh = n.toNat - k ∧ i = .int .i64 k ∧ Hid (xs.length = k) ∧ s = .slice A3 xs.length c3 ∧ LQ wD wr g (K + 3 * k) s xs)
    case atStart => exact ⟨0, _, _, [], by omega, rfl, rfl, rfl, rfl, hL.more (by omega)⟩
    case round =>
      clear hL
      obtain ⟨k, A3, c3, xs, hk, rfl, rfl, Hxk, rfl, hL⟩ := hrel
      have e0 := far_cell hL.gr u0 hXg
      by_cases hlk : (k : Int) < n
      · have hk7 : (k : Int) < 7 := by omega
        have hxl : xs.length ≤ 7 := by have := Hxk.out; omega
        go_upto_region 4 with (first
          | (go_at_call 88; go_fit (pick_c g _ 30 _ (by omega) (by omega) hL.rd); rintro e w3 ⟨x1, rfl, a1, a2, -, hR3, G3, -⟩; replace a2 := a2 (by omega); have hL3 := hL.pick hR3 G3)
          | (go_at_call 88; go_fit (pick_c g _ 10 _ (by omega) (by omega) hL3.rd); rintro e w4 ⟨x2, rfl, a3, a4, -, hR4, G4, -⟩; replace a4 := a4 (by omega); have hL4 := hL3.pick hR4 G4)
          | (go_at_call 88; go_fit (pick_c g _ 200 _ (by omega) (by omega) hL4.rd); rintro e w5 ⟨x3, rfl, a5, a6, -, hR5, G5, -⟩; replace a6 := a6 (by omega); have hL5 := hL4.pick hR5 G5; obtain ⟨yy, hyy⟩ : ∃ yy, x1 - x2 + x3 / 199 * 2000 = yy := ⟨_, rfl⟩)
          | (at_builtin; refine app_list _ rfl (.tmp 21) (.tmp 32) _ rfl wD.heap.size 3 i0 _ 1 8 Try.underlying28 hi0 hz0 hz1 hz2 rfl (by omega) (.slice A3 xs.length c3) xs.length (xs.map (Value.int .i64)) rfl (hL5.own.alloc _) _ 1 _ [.int .i64 yy] rfl rfl (NewsAt.block (cs := #[.int .i64 yy]) (at_new rfl)) (by simp [Value.oneCell']) (by omega) (by omega) (by have := hL5.gr.size; simp only [World.size_alloc]; omega) ?_; intro A5 c5 w6 hown6 hg6 hat6))
        have hlx : (xs ++ [yy]).length = xs.length + 1 := by simp
        have hL6 := (hL5.below (show Below w5.heap.size w5 (w5.alloc (.cells #[.int .i64 yy] 3)) by go_grown)).app hg6 (v' := .slice A5 (xs.length + 1) c5) (xs' := xs ++ [yy]) (by unfold OwnI; rw [hlx, List.map_append]; exact hown6)
        have Hlx := hide hlx
        clear hlx hyy
        go_wp2_with fail
        go_roundg (n.toNat - (k + 1))
        case measure => go_light; omega
        case rel => go_light; exact ⟨k + 1, A5, c5, xs ++ [yy], by omega, rfl, by go_num, by unfold Hid; rw [Hlx.out, Hxk.out], by rw [Hlx.out], hL6.more (by omega)⟩
      · have hxl : xs.length ≤ 7 := by have := Hxk.out; omega
        have hxn : Hid ((xs.length : Int) = n) := by have := Hxk.out; unfold Hid; omega
        go_wp2_with fail
        go_meet
        case rel => exact ⟨A3, c3, xs, hxl, rfl, hxn, hL.more (by omega)⟩
  case rest =>
    clear hL
    obtain ⟨A3, c3, xs, hl3, rfl, Hxn, hL⟩ := hcut
    have hrd := hRD.far hL.gr hb
    have e0 := far_cell hL.gr u0 hXg
    have e1 := far_cell hL.gr u1 hXg
    go_upto_region 6 with fail
    go_cut [5, 40] (fun s s40 wx => ∃ A3 c3 xs, xs.length ≤ 7 ∧ s = .slice A3 xs.length c3 ∧ Hid ((xs.length : Int) = n) ∧ LQ wD wx g (K + 31) s xs ∧ ((s40 = .bool true ∧ Hid (planOk ⟨n, bs⟩ = true)) ∨ s40 = .bool false))
    case first =>
      cases hp : planOk ⟨n, bs⟩
      · have Hp := hide hp
        clear hp
        go_wp2_with (first
          | (go_at_call 88; go_fit (pick_c g _ 3 _ (by omega) (by omega) hL.rd); rintro e w3 ⟨x1, rfl, a1, a2, -, hR3, G3, -⟩; replace hL := hL.pick hR3 G3; replace hrd := hrd.far G3 hb; replace e0 := far_cell G3 e0 hXg; replace e1 := far_cell G3 e1 hXg; have hs3 := hL.gr.size; by_cases hx : 0 < x1)
          | (go_at_call 105; go_fit (sPlanOk_c ⟨n, bs⟩ A b o c _ _ hl (by omega) hrd); rintro e w4 ⟨rfl, hb4⟩; rw [Hp.out]; replace hL := hL.below hb4))
        all_goals
          go_meet
          case rel => exact ⟨A3, c3, xs, hl3, rfl, Hxn, hL.more (by omega), .inr rfl⟩
      · have Hp := hide hp
        clear hp
        go_wp2_with (first
          | (go_at_call 88; go_fit (pick_c g _ 3 _ (by omega) (by omega) hL.rd); rintro e w3 ⟨x1, rfl, a1, a2, -, hR3, G3, -⟩; replace hL := hL.pick hR3 G3; replace hrd := hrd.far G3 hb; replace e0 := far_cell G3 e0 hXg; replace e1 := far_cell G3 e1 hXg; have hs3 := hL.gr.size; by_cases hx : 0 < x1)
          | (go_at_call 105; go_fit (sPlanOk_c ⟨n, bs⟩ A b o c _ _ hl (by omega) hrd); rintro e w4 ⟨rfl, hb4⟩; rw [Hp.out]; replace hL := hL.below hb4))
        all_goals
          go_meet
          case rel => first | exact ⟨A3, c3, xs, hl3, rfl, Hxn, hL.more (by omega), .inl ⟨rfl, Hp⟩⟩ | exact ⟨A3, c3, xs, hl3, rfl, Hxn, hL.more (by omega), .inr rfl⟩
    case rest =>
      clear hL hrd e0 e1
      obtain ⟨A3, c3, xs, hl3, rfl, Hxn, hL, hor⟩ := hcut
      go_upto_if 40 with fail
      go_cut [5] (fun s wx => ∃ A3 c3 xs, xs.length ≤ 7 ∧ s = .slice A3 xs.length c3 ∧ LQ wD wx g (K + 31) s xs)
      case first =>
        rcases hor with ⟨rfl, Hp⟩ | rfl
        · have hmem : ∀ x ∈ bs, (0 ≤ x.f ∧ x.f < xs.length) ∧ (0 ≤ x.t ∧ x.t < xs.length) := fun x hx => by
            have h := bdOk_iff.1 ((planOk_iff.1 Hp.out).2.2 x hx)
            have h1 := h.1
            have h2 := h.2.1
            have := Hxn.out
            dsimp only at h1 h2
            omega
          have Hmem := hide hmem
          clear hmem
          go_wp2_with fail
          go_loopg [7] 8 (fun gh s7 wr => ∃ (r : Nat) (ys : List Int), r ≤ 8 ∧ gh = 8 - r ∧ s7 = .int .i64 r ∧ Hid (ys.length = xs.length) ∧ LQ wD wr g (K + 31) (.slice A3 xs.length c3) ys)
          case atStart => exact ⟨0, xs, by omega, rfl, rfl, rfl, hL⟩
          case round =>
            clear hL
            obtain ⟨r, ys, hr, rfl, rfl, Hy, hL⟩ := hrel
            by_cases hr8 : r < 8
            · have hr8z : (r : Int) < 8 := by omega
              go_upto_region 10 with fail
              go_wp2_with fail
              go_loopg [8] bs.length (fun gh s8 wi => ∃ (j : Nat) (ys : List Int), j ≤ bs.length ∧ gh = bs.length - j ∧ s8 = .int .i64 j ∧ Hid (ys.length = xs.length) ∧ LQ wD wi g (K + 31) (.slice A3 xs.length c3) ys)
              case atStart => exact ⟨0, ys, Nat.zero_le _, rfl, rfl, Hy, hL⟩
              case round =>
                clear hL Hy
                obtain ⟨j, ys, hj, rfl, rfl, Hy, hL⟩ := hrel
                have e1 := far_cell hL.gr u1 hXg
                by_cases hlt : j < bs.length
                · have hlt' : (j : Int) < (bs.length : Int) := by omega
                  have hrd := hRD.far hL.gr hb
                  have hx := List.getElem?_eq_getElem hlt
                  obtain rfl := hrd.addr (by omega)
                  have y0 := hrd.c0 j _ hx
                  have y1 := hrd.c1 j _ hx
                  have y2 := hrd.c2 j _ hx
                  have Hmx := Hmem.out _ (List.getElem_mem hlt)
                  generalize bs[j] = x at hx y0 y1 y2 Hmx
                  obtain ⟨⟨f0, f1⟩, ⟨t0, t1⟩⟩ := Hmx
                  clear hx hrd
                  obtain ⟨fn, hfn⟩ := Int.eq_ofNat_of_zero_le f0
                  obtain ⟨tn, htn⟩ := Int.eq_ofNat_of_zero_le t0
                  have HF := hide hfn
                  have HT := hide htn
                  have Hfl : Hid (fn < ys.length) := by have := Hy.out; unfold Hid; omega
                  have Htl : Hid (tn < ys.length) := by have := Hy.out; unfold Hid; omega
                  have hfz : (fn : Int) < (xs.length : Int) := by omega
                  have htz : (tn : Int) < (xs.length : Int) := by omega
                  clear hfn htn f0 f1 t0 t1
                  go_upto_region 14 with fail
                  have hba : Below wr.heap.size wr (wr.alloc (.cells #[.int .i64 x.f, .int .i64 x.t, .int .i64 x.m] 66)) := by go_grown
                  have v0 : (wr.alloc (.cells #[.int .i64 x.f, .int .i64 x.t, .int .i64 x.m] 66)).cell? ⟨wr.heap.size, 0, none⟩ = some (.int .i64 x.f) := by simp [go_sem]
                  have v1 : (wr.alloc (.cells #[.int .i64 x.f, .int .i64 x.t, .int .i64 x.m] 66)).cell? ⟨wr.heap.size, 1, none⟩ = some (.int .i64 x.t) := by simp [go_sem]
                  have v2 : (wr.alloc (.cells #[.int .i64 x.f, .int .i64 x.t, .int .i64 x.m] 66)).cell? ⟨wr.heap.size, 2, none⟩ = some (.int .i64 x.m) := by simp [go_sem]
                  replace hL := hL.below hba
                  generalize wr.alloc (.cells #[.int .i64 x.f, .int .i64 x.t, .int .i64 x.m] 66) = W1 at hL v0 v1 v2 ⊢
                  generalize wr.heap.size = X1 at v0 v1 v2 ⊢
                  rw [HF.out] at v0
                  rw [HT.out] at v1
                  clear hba y0 y1 y2 e1
                  have hL' : LQ wD W1 g (K + 31) (.slice A3 ys.length c3) ys := by rw [Hy.out]; exact hL
                  obtain ⟨q, hI⟩ := own_IntsR hL'.own
                  obtain rfl := hI.addr (by have := Hfl.out; omega)
                  have z0 := hI.cell fn Hfl.out
                  have z1 := hI.cell tn Htl.out
                  rw [Nat.zero_add] at z0 z1
                  have hput := fun v => hL'.set (k := tn) v Htl.out
                  have zf := (hput 0).2.2.1
                  have Hput := hide hput
                  generalize ys.getD fn 0 = a at z0
                  generalize ys.getD tn 0 = e at z1
                  clear hI hL' hput
                  obtain ⟨mv, hmv⟩ : ∃ mv, (if IntKind.i64.wrap (a + x.m) < e then IntKind.i64.wrap (a + x.m) else e) = mv := ⟨_, rfl⟩
                  have hmv2 : (if e < IntKind.i64.wrap (a + x.m) then e else IntKind.i64.wrap (a + x.m)) = mv := by rw [← hmv]; split <;> split <;> omega
                  refine wp_regionE (fun w' => w'.cell? ⟨X1, 0, none⟩ = some (.int .i64 (fn : Int)) ∧ w'.cell? ⟨X1, 1, none⟩ = some (.int .i64 (tn : Int)) ∧ w'.cell? ⟨X1, 2, none⟩ = some (.int .i64 x.m) ∧ w'.cell? ⟨q, fn, none⟩ = some (.int .i64 a) ∧ w'.cell? ⟨q, tn, none⟩ = some (.int .i64 e)) 18 (by kernel_rfl) ?_
                  change wpE _ _ _ _ _ _ 19 #[false, false, false, false, false, false, false, false, false, false, false, false, false, false, false, false, false, false, false] _ _
                  have hS0 : W1.drew.cell? ⟨X1, 0, none⟩ = some (.int .i64 (fn : Int)) ∧ W1.drew.cell? ⟨X1, 1, none⟩ = some (.int .i64 (tn : Int)) ∧ W1.drew.cell? ⟨X1, 2, none⟩ = some (.int .i64 x.m) ∧ W1.drew.cell? ⟨q, fn, none⟩ = some (.int .i64 a) ∧ W1.drew.cell? ⟨q, tn, none⟩ = some (.int .i64 e) := ⟨v0, v1, v2, z0, z1⟩
                  refine wpE_take' (v := ?_) 0 [18] (of_decide_eq_true (by kernel_rfl)) (by kernel_rfl) (by kernel_rfl) (by kernel_rfl) (by kernel_rfl) (fun _ _ _ h => h) (by kernel_rfl) ?_ hS0 ?_
                  rotate_left
                  · intro w' hSw
                    simp only [List.getElem_toArray, List.getElem_cons_succ, List.getElem_cons_zero]
                    go_simp
                    all_goals with_reducible rfl
                  simp only [List.getElem_toArray, List.getElem_cons_succ, List.getElem_cons_zero, Act.put, List.setIfInBounds_toArray, List.set_cons_zero, List.set_cons_succ]
                  refine wpE_take' (v := ?_) 1 [18] (of_decide_eq_true (by kernel_rfl)) (by kernel_rfl) (by kernel_rfl) (by kernel_rfl) (by kernel_rfl) (fun _ _ _ h => h) (by kernel_rfl) ?_ hS0 ?_
                  rotate_left
                  · intro w' hSw
                    simp only [List.getElem_toArray, List.getElem_cons_succ, List.getElem_cons_zero]
                    go_simp
                    all_goals with_reducible rfl
                  simp only [List.getElem_toArray, List.getElem_cons_succ, List.getElem_cons_zero, Act.put, List.setIfInBounds_toArray, List.set_cons_zero, List.set_cons_succ]
                  refine wpE_take' (v := ?_) 2 [18] (of_decide_eq_true (by kernel_rfl)) (by kernel_rfl) (by kernel_rfl) (by kernel_rfl) (by kernel_rfl) (fun _ _ _ h => h) (by kernel_rfl) ?_ hS0 ?_
                  rotate_left
                  · intro w' hSw
                    simp only [List.getElem_toArray, List.getElem_cons_succ, List.getElem_cons_zero]
                    go_simp
                    all_goals with_reducible rfl
                  simp only [List.getElem_toArray, List.getElem_cons_succ, List.getElem_cons_zero, Act.put, List.setIfInBounds_toArray, List.set_cons_zero, List.set_cons_succ]
                  refine wpE_take' (v := ?_) 3 [18] (of_decide_eq_true (by kernel_rfl)) (by kernel_rfl) (by kernel_rfl) (by kernel_rfl) (by kernel_rfl) (fun _ _ _ h => h) (by kernel_rfl) ?_ hS0 ?_
                  rotate_left
                  · intro w' hSw
                    simp only [List.getElem_toArray, List.getElem_cons_succ, List.getElem_cons_zero]
                    go_simp
                    all_goals with_reducible rfl
                  simp only [List.getElem_toArray, List.getElem_cons_succ, List.getElem_cons_zero, Act.put, List.setIfInBounds_toArray, List.set_cons_zero, List.set_cons_succ]
                  refine wpE_take' (v := ?_) 4 [18] (of_decide_eq_true (by kernel_rfl)) (by kernel_rfl) (by kernel_rfl) (by kernel_rfl) (by kernel_rfl) (fun _ _ _ h => h) (by kernel_rfl) ?_ hS0 ?_
                  rotate_left
                  · intro w' hSw
                    simp only [List.getElem_toArray, List.getElem_cons_succ, List.getElem_cons_zero]
                    go_simp
                    all_goals with_reducible rfl
                  simp only [List.getElem_toArray, List.getElem_cons_succ, List.getElem_cons_zero, Act.put, List.setIfInBounds_toArray, List.set_cons_zero, List.set_cons_succ]
                  refine wpE_take' (v := ?_) 5 [18] (of_decide_eq_true (by kernel_rfl)) (by kernel_rfl) (by kernel_rfl) (by kernel_rfl) (by kernel_rfl) (fun _ _ _ h => h) (by kernel_rfl) ?_ hS0 ?_
                  rotate_left
                  · intro w' hSw
                    simp only [List.getElem_toArray, List.getElem_cons_succ, List.getElem_cons_zero]
                    go_simp
                    all_goals with_reducible rfl
                  simp only [List.getElem_toArray, List.getElem_cons_succ, List.getElem_cons_zero, Act.put, List.setIfInBounds_toArray, List.set_cons_zero, List.set_cons_succ]
                  refine wpE_take' (v := ?_) 6 [18] (of_decide_eq_true (by kernel_rfl)) (by kernel_rfl) (by kernel_rfl) (by kernel_rfl) (by kernel_rfl) (fun _ _ _ h => h) (by kernel_rfl) ?_ hS0 ?_
                  rotate_left
                  · intro w' hSw
                    simp only [List.getElem_toArray, List.getElem_cons_succ, List.getElem_cons_zero]
                    go_simp
                    all_goals with_reducible rfl
                  simp only [List.getElem_toArray, List.getElem_cons_succ, List.getElem_cons_zero, Act.put, List.setIfInBounds_toArray, List.set_cons_zero, List.set_cons_succ]
                  refine wpE_take' (v := ?_) 7 [18] (of_decide_eq_true (by kernel_rfl)) (by kernel_rfl) (by kernel_rfl) (by kernel_rfl) (by kernel_rfl) (fun _ _ _ h => h) (by kernel_rfl) ?_ hS0 ?_
                  rotate_left
                  · intro w' hSw
                    simp only [List.getElem_toArray, List.getElem_cons_succ, List.getElem_cons_zero]
                    go_simp
                    all_goals with_reducible rfl
                  simp only [List.getElem_toArray, List.getElem_cons_succ, List.getElem_cons_zero, Act.put, List.setIfInBounds_toArray, List.set_cons_zero, List.set_cons_succ]
                  refine wpE_take' (v := ?_) 8 [18] (of_decide_eq_true (by kernel_rfl)) (by kernel_rfl) (by kernel_rfl) (by kernel_rfl) (by kernel_rfl) (fun _ _ _ h => h) (by kernel_rfl) ?_ hS0 ?_
                  rotate_left
                  · intro w' hSw
                    simp only [List.getElem_toArray, List.getElem_cons_succ, List.getElem_cons_zero]
                    go_simp
                    all_goals with_reducible rfl
                  simp only [List.getElem_toArray, List.getElem_cons_succ, List.getElem_cons_zero, Act.put, List.setIfInBounds_toArray, List.set_cons_zero, List.set_cons_succ]
                  refine wpE_take' (v := ?_) 9 [18] (of_decide_eq_true (by kernel_rfl)) (by kernel_rfl) (by kernel_rfl) (by kernel_rfl) (by kernel_rfl) (fun _ _ _ h => h) (by kernel_rfl) ?_ hS0 ?_
                  rotate_left
                  · intro w' hSw
                    simp only [List.getElem_toArray, List.getElem_cons_succ, List.getElem_cons_zero]
                    go_simp
                    all_goals with_reducible rfl
                  simp only [List.getElem_toArray, List.getElem_cons_succ, List.getElem_cons_zero, Act.put, List.setIfInBounds_toArray, List.set_cons_zero, List.set_cons_succ]
                  refine wpE_take' (v := ?_) 10 [18] (of_decide_eq_true (by kernel_rfl)) (by kernel_rfl) (by kernel_rfl) (by kernel_rfl) (by kernel_rfl) (fun _ _ _ h => h) (by kernel_rfl) ?_ hS0 ?_
                  rotate_left
                  · intro w' hSw
                    simp only [List.getElem_toArray, List.getElem_cons_succ, List.getElem_cons_zero]
                    go_simp
                    all_goals with_reducible rfl
                  simp only [List.getElem_toArray, List.getElem_cons_succ, List.getElem_cons_zero, Act.put, List.setIfInBounds_toArray, List.set_cons_zero, List.set_cons_succ]
                  refine wpE_take' (v := ?_) 11 [18] (of_decide_eq_true (by kernel_rfl)) (by kernel_rfl) (by kernel_rfl) (by kernel_rfl) (by kernel_rfl) (fun _ _ _ h => h) (by kernel_rfl) ?_ hS0 ?_
                  rotate_left
                  · intro w' hSw
                    simp only [List.getElem_toArray, List.getElem_cons_succ, List.getElem_cons_zero]
                    go_simp
                    all_goals with_reducible rfl
                  simp only [List.getElem_toArray, List.getElem_cons_succ, List.getElem_cons_zero, Act.put, List.setIfInBounds_toArray, List.set_cons_zero, List.set_cons_succ]
                  refine wpE_take' (v := ?_) 12 [18] (of_decide_eq_true (by kernel_rfl)) (by kernel_rfl) (by kernel_rfl) (by kernel_rfl) (by kernel_rfl) (fun _ _ _ h => h) (by kernel_rfl) ?_ hS0 ?_
                  rotate_left
                  · intro w' hSw
                    simp only [List.getElem_toArray, List.getElem_cons_succ, List.getElem_cons_zero]
                    go_simp
                    all_goals with_reducible rfl
                  simp only [List.getElem_toArray, List.getElem_cons_succ, List.getElem_cons_zero, Act.put, List.setIfInBounds_toArray, List.set_cons_zero, List.set_cons_succ]
                  refine wpE_take' (v := ?_) 13 [18] (of_decide_eq_true (by kernel_rfl)) (by kernel_rfl) (by kernel_rfl) (by kernel_rfl) (by kernel_rfl) (fun _ _ _ h => h) (by kernel_rfl) ?_ hS0 ?_
                  rotate_left
                  · intro w' hSw
                    simp only [List.getElem_toArray, List.getElem_cons_succ, List.getElem_cons_zero]
                    go_simp
                    all_goals with_reducible rfl
                  simp only [List.getElem_toArray, List.getElem_cons_succ, List.getElem_cons_zero, Act.put, List.setIfInBounds_toArray, List.set_cons_zero, List.set_cons_succ]
                  refine wpE_take' (v := ?_) 14 [18] (of_decide_eq_true (by kernel_rfl)) (by kernel_rfl) (by kernel_rfl) (by kernel_rfl) (by kernel_rfl) (fun _ _ _ h => h) (by kernel_rfl) ?_ hS0 ?_
                  rotate_left
                  · intro w' hSw
                    simp only [List.getElem_toArray, List.getElem_cons_succ, List.getElem_cons_zero]
                    go_simp
                    all_goals with_reducible rfl
                  simp only [List.getElem_toArray, List.getElem_cons_succ, List.getElem_cons_zero, Act.put, List.setIfInBounds_toArray, List.set_cons_zero, List.set_cons_succ]
                  refine wpE_take' (v := ?_) 15 [18] (of_decide_eq_true (by kernel_rfl)) (by kernel_rfl) (by kernel_rfl) (by kernel_rfl) (by kernel_rfl) (fun _ _ _ h => h) (by kernel_rfl) ?_ hS0 ?_
                  rotate_left
                  · intro w' hSw
                    simp only [List.getElem_toArray, List.getElem_cons_succ, List.getElem_cons_zero]
                    go_simp
                    all_goals with_reducible rfl
                  simp only [List.getElem_toArray, List.getElem_cons_succ, List.getElem_cons_zero, Act.put, List.setIfInBounds_toArray, List.set_cons_zero, List.set_cons_succ]
                  refine wpE_take' (v := ?_) 16 [18] (of_decide_eq_true (by kernel_rfl)) (by kernel_rfl) (by kernel_rfl) (by kernel_rfl) (by kernel_rfl) (fun _ _ _ h => h) (by kernel_rfl) ?_ hS0 ?_
                  rotate_left
                  · intro w' hSw
                    simp only [List.getElem_toArray, List.getElem_cons_succ, List.getElem_cons_zero]
                    go_simp
                    all_goals with_reducible rfl
                  simp only [List.getElem_toArray, List.getElem_cons_succ, List.getElem_cons_zero, Act.put, List.setIfInBounds_toArray, List.set_cons_zero, List.set_cons_succ]
                  refine wpE_take' (v := ?_) 17 [18] (of_decide_eq_true (by kernel_rfl)) (by kernel_rfl) (by kernel_rfl) (by kernel_rfl) (by kernel_rfl) (fun _ _ _ h => h) (by kernel_rfl) ?_ hS0 ?_
                  rotate_left
                  · intro w' hSw
                    simp only [List.getElem_toArray, List.getElem_cons_succ, List.getElem_cons_zero]
                    go_simp
                    all_goals with_reducible rfl
                  simp only [List.getElem_toArray, List.getElem_cons_succ, List.getElem_cons_zero, Act.put, List.setIfInBounds_toArray, List.set_cons_zero, List.set_cons_succ]
                  refine wpE_step' 18 (of_decide_eq_true (by kernel_rfl)) (by kernel_rfl) (by kernel_rfl) (fun K hK => ?_)
                  simp only [List.getElem_toArray, List.getElem_cons_succ, List.getElem_cons_zero]
                  go_simp
                  refine hK.out _ _ (.inl rfl) ?_
                  clear hK K
                  simp only [Act.put, List.setIfInBounds_toArray, List.set_cons_zero, List.set_cons_succ]
                  refine wpE_done (by kernel_rfl) ?_ _
                  have hN := (Hput.out mv).1
                  have Hy2 : Hid ((ys.set tn mv).length = xs.length) := by unfold Hid; rw [List.length_set]; exact Hy.out
                  rw [Hy2.out] at hN
                  clear hS0 v0 v1 v2 z0 z1 zf hL hmv hmv2
                  go_wp2_with fail
                  go_roundg (bs.length - (j + 1))
                  case measure => go_light; omega
                  case rel => go_light; exact ⟨j + 1, ys.set tn mv, by omega, rfl, by go_num, Hy2, hN.below (by go_grown)⟩
                · obtain rfl : j = bs.length := by omega
                  go_wp2_with fail
                  go_roundg (8 - (r + 1))
                  case measure => go_light; omega
                  case rel => go_light; exact ⟨r + 1, ys, by omega, rfl, by go_num, Hy, hL⟩
            · obtain rfl : r = 8 := by omega
              go_wp2_with fail
              go_meet
              case rel => exact ⟨A3, c3, ys, by rw [Hy.out]; exact hl3, by rw [Hy.out], hL⟩
        · go_wp2_with fail
          go_meet
          case rel => exact ⟨A3, c3, xs, hl3, rfl, hL⟩
      case rest =>
        clear hL hor Hxn
        obtain ⟨A3, c3, xs, hl3, rfl, hL⟩ := hcut
        have hsz := hL.gr.size
        go_upto_if 76 with (go_at_call 89; go_fit (odd_c g _ 20 _ (by omega) (by omega) hL.rd); rintro e w4 ⟨ob, rfl, hR4, G4, -⟩; replace hL := hL.pick hR4 G4; clear hR4 G4)
        cases ob
        · go_wp2_with fail
          go_ret
          exact ⟨A3, c3, xs, rfl, by omega, own_less hL.own (by omega), hL.rd.more (by omega), gr_pick hGD hL.gr⟩
        · go_upto_region 17 with (at_builtin; refine app_list _ rfl (.tmp 77) (.tmp 78) _ rfl wD.heap.size 3 i0 _ 1 8 Try.underlying28 hi0 hz0 hz1 hz2 rfl (by omega) (.slice A3 xs.length c3) xs.length (xs.map (Value.int .i64)) rfl (hL.own.alloc _) _ 1 _ [.int .i64 0] rfl rfl (NewsAt.block (cs := #[.int .i64 0]) (at_new rfl)) (by simp [Value.oneCell']) (by omega) (by omega) (by have := hL.gr.size; simp only [World.size_alloc]; omega) ?_; intro A5 c5 w5 hown5 hg5 hat5)
          have hlx : (xs ++ [(0 : Int)]).length = xs.length + 1 := by simp
          have hL2 := (hL.below (show Below w4.heap.size w4 (w4.alloc (.cells #[.int .i64 0] 3)) by go_grown)).app hg5 (v' := .slice A5 (xs.length + 1) c5) (xs' := xs ++ [(0 : Int)]) (by unfold OwnI; rw [hlx, List.map_append]; exact hown5)
          have Hlx := hide hlx
          have hl8 : (xs ++ [(0 : Int)]).length ≤ 8 := by omega
          clear hlx
          go_ret
          exact ⟨A5, c5, xs ++ [0], by rw [Hlx.out]; rfl, hl8, by rw [Hlx.out]; exact own_less hL2.own (by omega), hL2.rd.more (by omega), gr_pick hGD hL2.gr⟩
end Go.Proofs.Ytledgblepdjjlaa
