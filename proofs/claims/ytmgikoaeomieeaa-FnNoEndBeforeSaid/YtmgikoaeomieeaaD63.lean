/-
  The draws of the reference: begins.
-/
import Derived.Test.YtmgikoaeomieeaaD62
import Derived.Test.YtmgikoaeomieeaaS75
namespace Go.Proofs.Ytmgikoaeomieeaa
set_option linter.unusedVariables false
set_option linter.unusedSimpArgs false
open Go.RowKit Pp

theorem own_off {w w' : World} {row : Option Nat} {base : Nat} {e : TypeId} {size : Nat} {v : Value} {n : Nat} {xs : List Value} (h : w.ownsRow base e size v n xs) (hg : w.grownBy w' row) (hr : ∀ q, v.ownBlock = some q → row ≠ some q) : w'.ownsRow base e size v n xs :=
  h.kept hg (by
    cases ho : v.ownBlock with
    | none => exact .inl rfl
    | some q => exact .inr (fun e => hr q ho e.symm))
theorem PR.far {w0 wr w' : World} {g P : Nat} {K : Int} {A1 A2 : Option Addr} {c1 c2 : Nat} {L F : List Int} {row : Option Nat} (h : PR w0 wr g P K A1 c1 L A2 c2 F) (hg : wr.grownBy w' row) (T : Nat) (hT : ∀ q, row = some q → T ≤ q) (hgT : g < T) (h0T : w0.heap.size ≤ T) (hPT : P < T)
    (h1 : ∀ q, (Value.slice A1 L.length c1).ownBlock = some q → q < T) (h2 : ∀ q, (Value.slice A2 F.length c2).ownBlock = some q → q < T) : PR w0 w' g P K A1 c1 L A2 c2 F := by
  have hne : ∀ q, q < T → row ≠ some q := fun q hq e => by have := hT q e; omega
  have hP := h.P1
  exact ⟨h.rd.other hg (fun k e => by have := hT k e; omega), gr_then h.gr hg (fun k e => .inl (by have := hT k e; omega)), h.lt, h.P0, Nat.lt_of_lt_of_le h.P1 hg.size,
    (hg.cell_far ⟨P, 0, none⟩ hP (fun e => hne P hPT e.symm)).trans h.f0, (hg.cell_far ⟨P, 1, none⟩ hP (fun e => hne P hPT e.symm)).trans h.f1,
    fun i => (hg.frozen_far ⟨P, i, none⟩ hP (fun e => hne P hPT e.symm)).trans (h.cf i),
    own_off h.o1 hg (fun q hq => hne q (h1 q hq)), own_off h.o2 hg (fun q hq => hne q (h2 q hq)), h.n1, h.n2, h.n12⟩
/-- A drawn project beside the box of the result; rows from T on may turn. -/
structure DZ (w w1 wr : World) (T Z g P : Nat) (K : Int) (A1 : Option Addr) (c1 : Nat) (L : List Int) (A2 : Option Addr) (c2 : Nat) (F : List Int) : Prop where
  pr : PR w1 wr g P K A1 c1 L A2 c2 F
  gw : w.grownBy w1 (some g)
  Zl : w.heap.size ≤ Z
  Zx : Z < w1.heap.size
  Zg : g < Z
  z0 : wr.cell? ⟨Z, 0, none⟩ = some (.slice none 0 0)
  z1 : wr.cell? ⟨Z, 1, none⟩ = some (.slice none 0 0)
  zf : ∀ i, wr.frozen? ⟨Z, i, none⟩ = false
  wT : w1.heap.size ≤ T
  PT : P < T
  t1 : ∀ q, (Value.slice A1 L.length c1).ownBlock = some q → q < T
  t2 : ∀ q, (Value.slice A2 F.length c2).ownBlock = some q → q < T
  Tx : T ≤ wr.heap.size
section
variable {w w1 wr w' : World} {T Z g P : Nat} {K K' : Int} {A1 A2 : Option Addr} {c1 c2 : Nat} {L F : List Int}
theorem DZ.more (h : DZ w w1 wr T Z g P K A1 c1 L A2 c2 F) (hK : K ≤ K') : DZ w w1 wr T Z g P K' A1 c1 L A2 c2 F := { h with pr := h.pr.more hK }
theorem DZ.gT (h : DZ w w1 wr T Z g P K A1 c1 L A2 c2 F) : g < T := Nat.lt_of_lt_of_le h.pr.lt h.wT
theorem DZ.pick (h : DZ w w1 wr T Z g P K A1 c1 L A2 c2 F) (hR : RdO w' g K') (hg : wr.grownBy w' (some g)) : DZ w w1 w' T Z g P K' A1 c1 L A2 c2 F :=
  { h with
    pr := h.pr.pick hR hg
    z0 := far_cell hg h.z0 (Nat.ne_of_gt h.Zg)
    z1 := far_cell hg h.z1 (Nat.ne_of_gt h.Zg)
    zf := fun i => far_frozen hg (h.zf i) (Nat.lt_of_lt_of_le h.Zx h.pr.gr.size) (Nat.ne_of_gt h.Zg)
    Tx := Nat.le_trans h.Tx hg.size }
theorem DZ.below (h : DZ w w1 wr T Z g P K A1 c1 L A2 c2 F) (hb : Below wr.heap.size wr w') : DZ w w1 w' T Z g P K A1 c1 L A2 c2 F :=
  have hx := Nat.lt_of_lt_of_le h.Zx h.pr.gr.size
  { h with
    pr := h.pr.below hb
    z0 := ((bcell hb).1 _ _ hx).trans h.z0
    z1 := ((bcell hb).1 _ _ hx).trans h.z1
    zf := fun i => ((bcell hb).2 _ _ hx).trans (h.zf i)
    Tx := Nat.le_trans h.Tx hb.size }
theorem DZ.far {row : Option Nat} (h : DZ w w1 wr T Z g P K A1 c1 L A2 c2 F) (hg : wr.grownBy w' row) (hT : ∀ q, row = some q → T ≤ q) : DZ w w1 w' T Z g P K A1 c1 L A2 c2 F :=
  have hx := Nat.lt_of_lt_of_le h.Zx h.pr.gr.size
  have hZT := Nat.lt_of_lt_of_le h.Zx h.wT
  have hne : some Z ≠ row := fun e => by have := hT Z e.symm; omega
  { h with
    pr := h.pr.far hg T hT h.gT h.wT h.PT h.t1 h.t2
    z0 := (hg.cell_far ⟨Z, 0, none⟩ hx hne).trans h.z0
    z1 := (hg.cell_far ⟨Z, 1, none⟩ hx hne).trans h.z1
    zf := fun i => (hg.frozen_far ⟨Z, i, none⟩ hx hne).trans (h.zf i)
    Tx := Nat.le_trans h.Tx hg.size }
/-- The result is stored. -/
theorem DZ.fin (h : DZ w w1 wr T Z g P K A1 c1 L A2 c2 F) (u v : Value) :
    ((wr.setCell ⟨Z, 0, none⟩ u).setCell ⟨Z, 1, none⟩ v).cell? ⟨Z, 0, none⟩ = some u ∧ ((wr.setCell ⟨Z, 0, none⟩ u).setCell ⟨Z, 1, none⟩ v).cell? ⟨Z, 1, none⟩ = some v ∧
    OwnI w.heap.size ((wr.setCell ⟨Z, 0, none⟩ u).setCell ⟨Z, 1, none⟩ v) (.slice A1 L.length c1) L ∧ OwnI w.heap.size ((wr.setCell ⟨Z, 0, none⟩ u).setCell ⟨Z, 1, none⟩ v) (.slice A2 F.length c2) F ∧
    RdO ((wr.setCell ⟨Z, 0, none⟩ u).setCell ⟨Z, 1, none⟩ v) g K ∧ w.grownBy ((wr.setCell ⟨Z, 0, none⟩ u).setCell ⟨Z, 1, none⟩ v) (some g) := by
  obtain ⟨e0, e1⟩ := two_cells (a := u) (b := v) h.z0 h.z1
  have hZ := h.Zx; have hZg := h.Zg
  exact ⟨e0, e1, own_less (own_set_low (own_set_low h.pr.o1 (by dsimp only; omega) _) (by dsimp only; omega) _) h.gw.size, own_less (own_set_low (own_set_low h.pr.o2 (by dsimp only; omega) _) (by dsimp only; omega) _) h.gw.size,
    (h.pr.rd.set _ (by dsimp only; omega) _).set _ (by dsimp only; omega) _, gr_set (gr_set (gr_pick h.gw h.pr.gr) _ (.inl h.Zl) _) _ (.inl h.Zl) _⟩
theorem pick_dz (m : Int) (wr : World) (h : DZ w w1 wr T Z g P K A1 c1 L A2 c2 F) (hK : 0 ≤ K ∧ K ≤ 1000000000) (hm : -1000000000 ≤ m ∧ m ≤ 1000000000) :
    Calls Try.prog 44 #[.pointer (some ⟨g, 0, none⟩), .int .i64 m] wr fun e w' =>
      ∃ v : Int, e = .returned (.int .i64 v) ∧ 0 ≤ v ∧ (1 ≤ m → v < m) ∧ DZ w w1 w' T Z g P (K + 1) A1 c1 L A2 c2 F ∧ wr.grownBy w' (some g) := by
  refine (pick_c g K m wr hK hm h.pr.rd).mono ?_
  rintro e w' ⟨v, rfl, h1, h2, h3, h4, h5, h6⟩
  exact ⟨v, rfl, h1, h2, h.pick h4 h5, h5⟩
end

set_option maxHeartbeats 4000000 in
set_option maxRecDepth 100000 in
theorem begun_c (g : Nat) (Kr : Int) (w : World) (hKr : 0 ≤ Kr ∧ Kr ≤ 1000) (hR : RdO w g Kr) :
    Calls Try.prog 73 #[.pointer (some ⟨g, 0, none⟩)] w fun e w' =>
      ∃ A1 c1 L A2 c2 F h A3 c3 xs, e = .returned (.tuple #[.agg #[.slice A1 L.length c1, .slice A2 F.length c2], .int .i64 h, .slice A3 xs.length c3]) ∧ L.length ≤ 7 ∧ F.length ≤ 7 ∧ (0 ≤ h ∧ h ≤ 10) ∧ xs.length ≤ 10 ∧ OwnI w.heap.size w' (.slice A1 L.length c1) L ∧ OwnI w.heap.size w' (.slice A2 F.length c2) F ∧ OwnI w.heap.size w' (.slice A3 xs.length c3) xs ∧ RdO w' g (Kr + 200) ∧ w.grownBy w' (some g) := by
  obtain ⟨hK0, hK1⟩ := hKr
  have hg := hR.lt
  obtain ⟨i0, hi0, hz0, hz1, hz2⟩ := info_parts infoI
  go_enter Try.func73, Try.ntmps73
  go_upto_region 2 with (go_at_call 43; go_fit (project_c g Kr 12 _ (by omega) (by omega) (hR.alloc (.cells #[.slice none 0 0, .slice none 0 0] 25))); rintro e w2 ⟨A1, c1, L, A2, c2, F, rfl, hL7, hF7, o1, o2, o12, hR2, G2⟩)
  have hgz := gr_new w (.cells #[.slice none 0 0, .slice none 0 0] 25) (some g)
  have hzs : w.heap.size < (w.alloc (.cells #[.slice none 0 0, .slice none 0 0] 25)).heap.size := by simp
  have hs0 : (w.alloc (.cells #[.slice none 0 0, .slice none 0 0] 25)).cell? ⟨w.heap.size, 0, none⟩ = some (.slice none 0 0) := by simp [go_sem]
  have hs1 : (w.alloc (.cells #[.slice none 0 0, .slice none 0 0] 25)).cell? ⟨w.heap.size, 1, none⟩ = some (.slice none 0 0) := by simp [go_sem]
  have hsf : ∀ i, (w.alloc (.cells #[.slice none 0 0, .slice none 0 0] 25)).frozen? ⟨w.heap.size, i, none⟩ = false := fun i => by simp [go_sem]
  generalize w.alloc (.cells #[.slice none 0 0, .slice none 0 0] 25) = W1 at o1 o2 G2 hgz hzs hs0 hs1 hsf ⊢
  have hgs2 := G2.size
  have hbp : Below w2.heap.size w2 (w2.alloc (.cells #[.slice A1 L.length c1, .slice A2 F.length c2] 25)) := by go_grown
  have hQ : DZ w W1 (w2.alloc (.cells #[.slice A1 L.length c1, .slice A2 F.length c2] 25)) (w2.heap.size + 1) w.heap.size g w2.heap.size (Kr + 100) A1 c1 L A2 c2 F :=
    ⟨pr_new hR2 G2 (by omega) o1 o2 o12, hgz, Nat.le_refl _, hzs, hg, ((bcell hbp).1 _ _ (by omega)).trans (far_cell G2 hs0 (by omega)), ((bcell hbp).1 _ _ (by omega)).trans (far_cell G2 hs1 (by omega)), fun i => ((bcell hbp).2 _ _ (by omega)).trans (far_frozen G2 (hsf i) (by omega) (by omega)), by omega, by omega, fun q hq => by have := (o1.lt q hq).2; omega, fun q hq => by have := (o2.lt q hq).2; omega, by simp⟩
  clear hR hR2 G2 o1 o2 o12 hgz hs0 hs1 hsf hbp hgs2
  generalize w2.alloc (.cells #[.slice A1 L.length c1, .slice A2 F.length c2] 25) = wp at hQ ⊢
  generalize w2.heap.size + 1 = T at hQ ⊢
  generalize w2.heap.size = P at hQ ⊢
  go_cut [6] (fun s wx => ∃ h : Int, s = .int .i64 h ∧ (0 ≤ h ∧ h ≤ 10) ∧ DZ w W1 wx T w.heap.size g P (Kr + 103) A1 c1 L A2 c2 F)
  case first =>
    go_wp2_with (first
      | (go_at_call 44; go_fit (pick_dz 3 _ hQ (by omega) (by omega)); rintro e w3 ⟨v1, rfl, a1, a2, hQ1, -⟩; replace a2 := a2 (by omega); have hw1 : IntKind.i64.wrap (1 + v1) = 1 + v1 := IntWalk.i64_in _ (by omega))
      | (go_at_call 44; go_fit (pick_dz 40 _ hQ1 (by omega) (by omega)); rintro e w4 ⟨v2, rfl, b1, b2, hQ2, -⟩; replace b2 := b2 (by omega); have hq2 : 0 ≤ v2.tdiv 39 ∧ v2.tdiv 39 ≤ 1 := (by rw [Int.tdiv_eq_ediv_of_nonneg (by omega)]; omega); obtain ⟨u2, hu2⟩ : ∃ u2, v2.tdiv 39 = u2 := ⟨_, rfl⟩; rw [hu2] at hq2; have hw2 : IntKind.i64.wrap u2 = u2 := IntWalk.i64_in _ (by omega); have hw3 : IntKind.i64.wrap (1 + v1 + u2) = 1 + v1 + u2 := IntWalk.i64_in _ (by omega))
      | (go_at_call 44; go_fit (pick_dz 40 _ hQ2 (by omega) (by omega)); rintro e w5 ⟨v3, rfl, d1, d2, hQ3, -⟩; replace d2 := d2 (by omega); have hq3 : 0 ≤ v3.tdiv 39 ∧ v3.tdiv 39 ≤ 1 := (by rw [Int.tdiv_eq_ediv_of_nonneg (by omega)]; omega); obtain ⟨u3, hu3⟩ : ∃ u3, v3.tdiv 39 = u3 := ⟨_, rfl⟩; rw [hu3] at hq3; have hw4 : IntKind.i64.wrap u3 = u3 := IntWalk.i64_in _ (by omega); have hw5 : IntKind.i64.wrap (1 + v1 + u2 - u3) = 1 + v1 + u2 - u3 := IntWalk.i64_in _ (by omega)))
    go_meet
    case rel => exact ⟨_, rfl, by omega, hQ3.more (by omega)⟩
  case rest =>
    clear hQ
    obtain ⟨h, rfl, hh, hQ⟩ := hcut
    go_upto_region 3 with fail
    have hll : L.length ≤ 2000000 := by omega
    have hlf : F.length ≤ 2000000 := by omega
    have p0 := hQ.pr.f0
    have p1 := hQ.pr.f1
    go_cut [30] (fun s wx => ∃ b, s = .bool b ∧ DZ w W1 wx T w.heap.size g P (Kr + 104) A1 c1 L A2 c2 F)
    case first =>
      obtain ⟨r1, i1⟩ := own_IntsR hQ.pr.o1
      obtain ⟨r2, i2⟩ := own_IntsR hQ.pr.o2
      cases hp : projOk L F
      · have Hp := hide hp
        clear hp
        go_wp2_with (go_at_call 48; go_fit (sProjectOk_c L F A1 A2 r1 0 c1 r2 0 c2 _ _ hll hlf (Nat.le_refl _) i1 i2); rintro e w3 ⟨rfl, hb3⟩; rw [Hp.out]; have hQ3 := hQ.below hb3)
        go_meet
        case rel => exact ⟨_, rfl, hQ3.more (by omega)⟩
      · have Hp := hide hp
        clear hp
        go_wp2_with (first
          | (go_at_call 48; go_fit (sProjectOk_c L F A1 A2 r1 0 c1 r2 0 c2 _ _ hll hlf (Nat.le_refl _) i1 i2); rintro e w3 ⟨rfl, hb3⟩; rw [Hp.out]; have hQ3 := hQ.below hb3)
          | (go_at_call 44; go_fit (pick_dz 4 _ hQ3 (by omega) (by omega)); rintro e w4 ⟨v4, rfl, a1, a2, hQ4, -⟩))
        go_meet
        case rel => exact ⟨_, rfl, hQ4.more (by omega)⟩
    case rest =>
      clear hQ p0 p1
      obtain ⟨b, rfl, hQ⟩ := hcut
      go_upto_if 30 with fail
      go_cut [] (fun wx => DZ w W1 wx T w.heap.size g P (Kr + 140) A1 c1 L A2 c2 F)
      case first =>
        cases b
        · go_wp2_with fail
          go_meet
          case rel => exact hQ.more (by omega)
        · have p0 := hQ.pr.f0
          have p1 := hQ.pr.f1
          go_upto_region 4 with fail
          go_cut [7, 8] (fun s7 s8 wx => ∃ A5 c5 ys ok, s7 = .slice A5 ys.length c5 ∧ s8 = .bool ok ∧ (ok = true → ys.length ≤ 10 ∧ OwnI T wx (.slice A5 ys.length c5) ys) ∧ DZ w W1 wx T w.heap.size g P (Kr + 124) A1 c1 L A2 c2 F)
          case first =>
            refine wp_regionE (fun w' => w'.cell? ⟨P, 0, none⟩ = some (.slice A1 L.length c1) ∧ w'.cell? ⟨P, 1, none⟩ = some (.slice A2 F.length c2)) 12 (by kernel_rfl) ?_
            change wpE _ _ _ _ _ _ 13 #[false, false, false, false, false, false, false, false, false, false, false, false, false] _ _
            have hS0 : wc.drew.cell? ⟨P, 0, none⟩ = some (.slice A1 L.length c1) ∧ wc.drew.cell? ⟨P, 1, none⟩ = some (.slice A2 F.length c2) := ⟨p0, p1⟩
            have hQd := hQ.below (show Below wc.heap.size wc wc.drew by go_grown)
            refine wpE_take' (v := ?_) 0 [12] (of_decide_eq_true (by kernel_rfl)) (by kernel_rfl) (by kernel_rfl) (by kernel_rfl) (by kernel_rfl) (fun _ _ _ h => h) (by kernel_rfl) ?_ hS0 ?_
            rotate_left
            · intro w' hSw
              simp only [List.getElem_toArray, List.getElem_cons_succ, List.getElem_cons_zero]
              go_simp
              all_goals with_reducible rfl
            simp only [List.getElem_toArray, List.getElem_cons_succ, List.getElem_cons_zero, Act.put, List.setIfInBounds_toArray, List.set_cons_zero, List.set_cons_succ]
            refine wpE_take' (v := ?_) 1 [12] (of_decide_eq_true (by kernel_rfl)) (by kernel_rfl) (by kernel_rfl) (by kernel_rfl) (by kernel_rfl) (fun _ _ _ h => h) (by kernel_rfl) ?_ hS0 ?_
            rotate_left
            · intro w' hSw
              simp only [List.getElem_toArray, List.getElem_cons_succ, List.getElem_cons_zero]
              go_simp
              all_goals with_reducible rfl
            simp only [List.getElem_toArray, List.getElem_cons_succ, List.getElem_cons_zero, Act.put, List.setIfInBounds_toArray, List.set_cons_zero, List.set_cons_succ]
            refine wpE_take' (v := ?_) 2 [12] (of_decide_eq_true (by kernel_rfl)) (by kernel_rfl) (by kernel_rfl) (by kernel_rfl) (by kernel_rfl) (fun _ _ _ h => h) (by kernel_rfl) ?_ hS0 ?_
            rotate_left
            · intro w' hSw
              simp only [List.getElem_toArray, List.getElem_cons_succ, List.getElem_cons_zero]
              go_simp
              all_goals with_reducible rfl
            simp only [List.getElem_toArray, List.getElem_cons_succ, List.getElem_cons_zero, Act.put, List.setIfInBounds_toArray, List.set_cons_zero, List.set_cons_succ]
            refine wpE_take' (v := ?_) 3 [12] (of_decide_eq_true (by kernel_rfl)) (by kernel_rfl) (by kernel_rfl) (by kernel_rfl) (by kernel_rfl) (fun _ _ _ h => h) (by kernel_rfl) ?_ hS0 ?_
            rotate_left
            · intro w' hSw
              simp only [List.getElem_toArray, List.getElem_cons_succ, List.getElem_cons_zero]
              go_simp
              all_goals with_reducible rfl
            simp only [List.getElem_toArray, List.getElem_cons_succ, List.getElem_cons_zero, Act.put, List.setIfInBounds_toArray, List.set_cons_zero, List.set_cons_succ]
            refine wpE_take' (v := ?_) 4 [12] (of_decide_eq_true (by kernel_rfl)) (by kernel_rfl) (by kernel_rfl) (by kernel_rfl) (by kernel_rfl) (fun _ _ _ h => h) (by kernel_rfl) ?_ hS0 ?_
            rotate_left
            · intro w' hSw
              simp only [List.getElem_toArray, List.getElem_cons_succ, List.getElem_cons_zero]
              go_simp
              all_goals with_reducible rfl
            simp only [List.getElem_toArray, List.getElem_cons_succ, List.getElem_cons_zero, Act.put, List.setIfInBounds_toArray, List.set_cons_zero, List.set_cons_succ]
            refine wpE_take' (v := ?_) 5 [12] (of_decide_eq_true (by kernel_rfl)) (by kernel_rfl) (by kernel_rfl) (by kernel_rfl) (by kernel_rfl) (fun _ _ _ h => h) (by kernel_rfl) ?_ hS0 ?_
            rotate_left
            · intro w' hSw
              simp only [List.getElem_toArray, List.getElem_cons_succ, List.getElem_cons_zero]
              go_simp
              all_goals with_reducible rfl
            simp only [List.getElem_toArray, List.getElem_cons_succ, List.getElem_cons_zero, Act.put, List.setIfInBounds_toArray, List.set_cons_zero, List.set_cons_succ]
            clear hS0
            refine wpE_step' 6 (of_decide_eq_true (by kernel_rfl)) (by kernel_rfl) (by kernel_rfl) (fun K hK => ?_)
            simp only [List.getElem_toArray, List.getElem_cons_succ, List.getElem_cons_zero]
            go_simp
            go_at_call 64
            refine (shuffle_c g L.length _ _ (by omega) (by omega) hQd.pr.rd).mono ?_
            rintro e w5 ⟨A3, c3, xs, rfl, hxl, hxc, o3, hR5, G5⟩
            have hQ5 := hQd.pick hR5 G5
            refine hK.out _ _ (.inr ⟨hQ5.pr.f0, hQ5.pr.f1⟩) ?_
            clear hK K
            simp only [Act.put, List.setIfInBounds_toArray, List.set_cons_zero, List.set_cons_succ]
            obtain ⟨r1, i1⟩ := own_IntsR hQ5.pr.o1
            obtain ⟨r2, i2⟩ := own_IntsR hQ5.pr.o2
            obtain ⟨r3, i3⟩ := own_IntsR o3
            have hlx : xs.length ≤ 2000000 := by omega
            have hx10 : xs.length ≤ 10 := by omega
            clear hxl
            have hT5 := hQ5.Tx
            cases hof : orderFits L F h xs
            · skip
              refine wpE_step' 7 (of_decide_eq_true (by kernel_rfl)) (by kernel_rfl) (by kernel_rfl) (fun K hK => ?_)
              simp only [List.getElem_toArray, List.getElem_cons_succ, List.getElem_cons_zero]
              go_simp
              go_at_call 30
              refine (sBeginsBy_no L F xs h hof A1 A2 A3 r1 0 c1 r2 0 c2 r3 0 c3 _ w5 hll hlf hlx (Nat.le_refl _) i1 i2 i3).mono ?_
              rintro e w6 ⟨A5, rfl, hb6⟩
              have hQ6 := hQ5.below hb6
              have hS0 : w6.cell? ⟨P, 0, none⟩ = some (.slice A1 L.length c1) ∧ w6.cell? ⟨P, 1, none⟩ = some (.slice A2 F.length c2) := ⟨hQ6.pr.f0, hQ6.pr.f1⟩
              refine hK.out _ _ (.inr hS0) ?_
              clear hK K
              simp only [Act.put, List.setIfInBounds_toArray, List.set_cons_zero, List.set_cons_succ]
              refine wpE_take' (v := ?_) 8 [12] (of_decide_eq_true (by kernel_rfl)) (by kernel_rfl) (by kernel_rfl) (by kernel_rfl) (by kernel_rfl) (fun _ _ _ h => h) (by kernel_rfl) ?_ hS0 ?_
              rotate_left
              · intro w' hSw
                simp only [List.getElem_toArray, List.getElem_cons_succ, List.getElem_cons_zero]
                go_simp
                all_goals with_reducible rfl
              simp only [List.getElem_toArray, List.getElem_cons_succ, List.getElem_cons_zero, Act.put, List.setIfInBounds_toArray, List.set_cons_zero, List.set_cons_succ]
              refine wpE_take' (v := ?_) 9 [12] (of_decide_eq_true (by kernel_rfl)) (by kernel_rfl) (by kernel_rfl) (by kernel_rfl) (by kernel_rfl) (fun _ _ _ h => h) (by kernel_rfl) ?_ hS0 ?_
              rotate_left
              · intro w' hSw
                simp only [List.getElem_toArray, List.getElem_cons_succ, List.getElem_cons_zero]
                go_simp
                all_goals with_reducible rfl
              simp only [List.getElem_toArray, List.getElem_cons_succ, List.getElem_cons_zero, Act.put, List.setIfInBounds_toArray, List.set_cons_zero, List.set_cons_succ]
              refine wpE_take' (v := ?_) 10 [12] (of_decide_eq_true (by kernel_rfl)) (by kernel_rfl) (by kernel_rfl) (by kernel_rfl) (by kernel_rfl) (fun _ _ _ h => h) (by kernel_rfl) ?_ hS0 ?_
              rotate_left
              · intro w' hSw
                simp only [List.getElem_toArray, List.getElem_cons_succ, List.getElem_cons_zero]
                go_simp
                all_goals with_reducible rfl
              simp only [List.getElem_toArray, List.getElem_cons_succ, List.getElem_cons_zero, Act.put, List.setIfInBounds_toArray, List.set_cons_zero, List.set_cons_succ]
              refine wpE_take' (v := ?_) 11 [12] (of_decide_eq_true (by kernel_rfl)) (by kernel_rfl) (by kernel_rfl) (by kernel_rfl) (by kernel_rfl) (fun _ _ _ h => h) (by kernel_rfl) ?_ hS0 ?_
              rotate_left
              · intro w' hSw
                simp only [List.getElem_toArray, List.getElem_cons_succ, List.getElem_cons_zero]
                go_simp
                all_goals with_reducible rfl
              simp only [List.getElem_toArray, List.getElem_cons_succ, List.getElem_cons_zero, Act.put, List.setIfInBounds_toArray, List.set_cons_zero, List.set_cons_succ]
              clear hS0
              refine wpE_step' 12 (of_decide_eq_true (by kernel_rfl)) (by kernel_rfl) (by kernel_rfl) (fun K hK => ?_)
              simp only [List.getElem_toArray, List.getElem_cons_succ, List.getElem_cons_zero]
              go_simp
              refine hK.out _ _ (.inl rfl) ?_
              clear hK K
              simp only [Act.put, List.setIfInBounds_toArray, List.set_cons_zero, List.set_cons_succ]
              refine wpE_done (by kernel_rfl) ?_ _
              go_wp2_with fail
              go_meet
              case rel => exact ⟨A5, 0, [], false, rfl, rfl, fun h => by simp at h, hQ6.more (by omega)⟩
            · have hbl : (beginsBy L F h xs).length = xs.length := by
                obtain ⟨hp, hh2, ho⟩ := orderFits_iff.1 hof
                rw [(beginsOk_iff.1 (by_ok (h := h) hp hh2 ho)).2.1, ho.1]
              have Hbl := hide hbl
              clear hbl
              refine wpE_step' 7 (of_decide_eq_true (by kernel_rfl)) (by kernel_rfl) (by kernel_rfl) (fun K hK => ?_)
              simp only [List.getElem_toArray, List.getElem_cons_succ, List.getElem_cons_zero]
              go_simp
              go_at_call 30
              refine (sBeginsBy_yes L F xs h hof A1 A2 A3 r1 0 c1 r2 0 c2 r3 0 c3 _ w5 (Nat.le_refl _) i1 i2 i3).mono ?_
              rintro e w6 ⟨A5, c5, rfl, o5, hb6⟩
              have hQ6 := hQ5.below hb6
              have o6 := own_less o5 hT5
              have hS0 : w6.cell? ⟨P, 0, none⟩ = some (.slice A1 L.length c1) ∧ w6.cell? ⟨P, 1, none⟩ = some (.slice A2 F.length c2) := ⟨hQ6.pr.f0, hQ6.pr.f1⟩
              refine hK.out _ _ (.inr hS0) ?_
              clear hK K
              simp only [Act.put, List.setIfInBounds_toArray, List.set_cons_zero, List.set_cons_succ]
              refine wpE_take' (v := ?_) 8 [12] (of_decide_eq_true (by kernel_rfl)) (by kernel_rfl) (by kernel_rfl) (by kernel_rfl) (by kernel_rfl) (fun _ _ _ h => h) (by kernel_rfl) ?_ hS0 ?_
              rotate_left
              · intro w' hSw
                simp only [List.getElem_toArray, List.getElem_cons_succ, List.getElem_cons_zero]
                go_simp
                all_goals with_reducible rfl
              simp only [List.getElem_toArray, List.getElem_cons_succ, List.getElem_cons_zero, Act.put, List.setIfInBounds_toArray, List.set_cons_zero, List.set_cons_succ]
              refine wpE_take' (v := ?_) 9 [12] (of_decide_eq_true (by kernel_rfl)) (by kernel_rfl) (by kernel_rfl) (by kernel_rfl) (by kernel_rfl) (fun _ _ _ h => h) (by kernel_rfl) ?_ hS0 ?_
              rotate_left
              · intro w' hSw
                simp only [List.getElem_toArray, List.getElem_cons_succ, List.getElem_cons_zero]
                go_simp
                all_goals with_reducible rfl
              simp only [List.getElem_toArray, List.getElem_cons_succ, List.getElem_cons_zero, Act.put, List.setIfInBounds_toArray, List.set_cons_zero, List.set_cons_succ]
              refine wpE_take' (v := ?_) 10 [12] (of_decide_eq_true (by kernel_rfl)) (by kernel_rfl) (by kernel_rfl) (by kernel_rfl) (by kernel_rfl) (fun _ _ _ h => h) (by kernel_rfl) ?_ hS0 ?_
              rotate_left
              · intro w' hSw
                simp only [List.getElem_toArray, List.getElem_cons_succ, List.getElem_cons_zero]
                go_simp
                all_goals with_reducible rfl
              simp only [List.getElem_toArray, List.getElem_cons_succ, List.getElem_cons_zero, Act.put, List.setIfInBounds_toArray, List.set_cons_zero, List.set_cons_succ]
              refine wpE_take' (v := ?_) 11 [12] (of_decide_eq_true (by kernel_rfl)) (by kernel_rfl) (by kernel_rfl) (by kernel_rfl) (by kernel_rfl) (fun _ _ _ h => h) (by kernel_rfl) ?_ hS0 ?_
              rotate_left
              · intro w' hSw
                simp only [List.getElem_toArray, List.getElem_cons_succ, List.getElem_cons_zero]
                go_simp
                all_goals with_reducible rfl
              simp only [List.getElem_toArray, List.getElem_cons_succ, List.getElem_cons_zero, Act.put, List.setIfInBounds_toArray, List.set_cons_zero, List.set_cons_succ]
              clear hS0
              refine wpE_step' 12 (of_decide_eq_true (by kernel_rfl)) (by kernel_rfl) (by kernel_rfl) (fun K hK => ?_)
              simp only [List.getElem_toArray, List.getElem_cons_succ, List.getElem_cons_zero]
              go_simp
              refine hK.out _ _ (.inl rfl) ?_
              clear hK K
              simp only [Act.put, List.setIfInBounds_toArray, List.set_cons_zero, List.set_cons_succ]
              refine wpE_done (by kernel_rfl) ?_ _
              go_wp2_with fail
              go_meet
              case rel =>
                refine ⟨A5, c5, beginsBy L F h xs, true, by rw [Hbl.out], rfl, fun _ => ⟨by rw [Hbl.out]; omega, by rw [Hbl.out]; exact o6⟩, hQ6.more (by omega)⟩
          case rest =>
            clear hQ p0 p1
            obtain ⟨A5, c5, ys, ok, rfl, rfl, hok, hQ⟩ := hcut
            cases ok
            · go_wp2_with fail
              go_meet
              case rel => exact hQ.more (by omega)
            · obtain ⟨hy10, hO⟩ := hok rfl
              clear hok
              have hgT := hQ.gT
              go_upto_region 6 with fail
              go_cut [49] (fun s wx => ∃ b, s = .bool b ∧ (b = true → 0 < ys.length) ∧ OwnI T wx (.slice A5 ys.length c5) ys ∧ DZ w W1 wx T w.heap.size g P (Kr + 125) A1 c1 L A2 c2 F)
              case first =>
                by_cases hy0 : 0 < ys.length
                · have hy0z : (0 : Int) < (ys.length : Int) := by omega
                  go_wp2_with (go_at_call 78; go_fit (odd_c g _ 4 _ ⟨by omega, by omega⟩ (by omega) hQ.pr.rd); rintro e w7 ⟨bo, rfl, hR7, G7, -⟩; have hQ7 := hQ.pick hR7 G7; have hO7 := own_far hO G7 hgT)
                  go_meet
                  case rel => exact ⟨_, rfl, fun _ => hy0, hO7, hQ7.more (by omega)⟩
                · have hy0z : ¬ (0 : Int) < (ys.length : Int) := by omega
                  go_wp2_with fail
                  go_meet
                  case rel => exact ⟨_, rfl, fun h => by simp at h, hO, hQ.more (by omega)⟩
              case rest =>
                clear hQ hO
                obtain ⟨b, rfl, hb, hO, hQ⟩ := hcut
                go_upto_if 49 with fail
                go_cut [] (fun wx => ∃ zs, zs.length = ys.length ∧ OwnI T wx (.slice A5 ys.length c5) zs ∧ DZ w W1 wx T w.heap.size g P (Kr + 130) A1 c1 L A2 c2 F)
                case first =>
                  cases b
                  · go_wp2_with fail
                    go_meet
                    case rel => exact ⟨ys, rfl, hO, hQ.more (by omega)⟩
                  · have hy0 := hb rfl
                    clear hb
                    obtain ⟨g5, hr5⟩ := own_IntsR hO
                    have hA5 := hr5.addr hy0
                    subst hA5
                    clear hr5
                    have hT5 : T ≤ g5 := (hO.lt g5 rfl).1
                    have hfar : ∀ q, some g5 = some q → T ≤ q := fun q e => by injection e with e; omega
                    go_upto_region 7 with fail
                    go_wp2_with (first
                      | (go_at_call 44; go_fit (pick_dz (ys.length : Int) _ hQ (by omega) (by omega)); rintro e w7 ⟨v, rfl, a1, a2, hQ7, G7⟩; replace a2 := a2 (by omega); have hO7 := own_far hO G7 hgT; obtain ⟨vn, rfl⟩ := Int.eq_ofNat_of_zero_le a1; have a3 : vn < ys.length := (by omega))
                      | (go_at_call 44; go_fit (pick_dz 20 _ hQ7 (by omega) (by omega)); rintro e w8 ⟨u, rfl, d1, d2, hQ8, G8⟩; have hO8 := own_far hO7 G8 hgT; obtain ⟨hO9, hc9, hf9⟩ := own_setI u hO8 a3))
                    go_meet
                    case rel => exact ⟨ys.set vn u, List.length_set, by rw [List.length_set] at hO9; exact hO9, (hQ8.far (grown_set w8 ⟨g5, vn, none⟩ (.int .i64 u)) hfar).more (by omega)⟩
                case rest =>
                  clear hQ hO hb
                  obtain ⟨zs, hzl, hO, hQ⟩ := hcut
                  have p0 := hQ.pr.f0
                  have p1 := hQ.pr.f1
                  have z0 := hQ.z0
                  have z1 := hQ.z1
                  have zf0 := hQ.zf 0
                  have zf1 := hQ.zf 1
                  have hWT := hQ.wT
                  have hgs := hQ.gw.size
                  have hO' : OwnI T wc (.slice A5 zs.length c5) zs := by rw [hzl]; exact hO
                  have hzl' := hide hzl
                  clear hzl
                  go_wp2_with fail
                  have hzl := hzl'.out
                  obtain ⟨y0, y1, o1, o2, hR9, hG9⟩ := hQ.fin (.slice A1 L.length c1) (.slice A2 F.length c2)
                  have o3 := own_less (base' := w.heap.size) (own_set_low (p := ⟨w.heap.size, 1, none⟩) (own_set_low (p := ⟨w.heap.size, 0, none⟩) hO' (by dsimp only; omega) (.slice A1 L.length c1)) (by dsimp only; omega) (.slice A2 F.length c2)) (by omega)
                  refine bodyPost_ret (v := .tuple #[.agg #[.slice A1 L.length c1, .slice A2 F.length c2], .int .i64 h, .slice A5 zs.length c5]) (by simp [results, Try.results73, go_sem, y0, y1, hzl]) rfl ?_
                  exact ⟨A1, c1, L, A2, c2, F, h, A5, c5, zs, rfl, hL7, hF7, hh, by omega, o1, o2, o3, hR9.more (by omega), hG9⟩
      case rest =>
        clear hQ
        have hQ0 := hcut.below (show Below wc.heap.size wc (wc.alloc (.cells #[] 3)) by go_grown)
        have hO0 : OwnI T (wc.alloc (.cells #[] 3)) (.slice (some ⟨wc.heap.size, 0, none⟩) 0 0) [] := own_empty (at_new rfl) hcut.Tx
        clear hcut
        go_wp2_with fail
        go_loopg [9, 10] L.length (fun gh s9 s10 wr => ∃ (k : Nat) (A5 : Option Addr) (c5 : Nat) (xs : List Int), k ≤ L.length ∧ gh = L.length - k ∧ s10 = .int .i64 k ∧ s9 = .slice A5 k c5 ∧ Hid (xs.length = k) ∧ OwnI T wr (.slice A5 k c5) xs ∧ DZ w W1 wr T w.heap.size g P (Kr + 140 + 2 * (k : Int)) A1 c1 L A2 c2 F)
        case atStart => exact ⟨0, _, _, [], Nat.zero_le _, rfl, rfl, rfl, rfl, hO0, hQ0.more (by omega)⟩
        case round =>
          clear hQ0 hO0
          obtain ⟨k, A5, c5, xs, hk, rfl, rfl, rfl, Hxl, hO, hQ⟩ := hrel
          have p0 := hQ.pr.f0
          have hgT := hQ.gT
          by_cases hlt : k < L.length
          · have hlt' : (k : Int) < (L.length : Int) := by omega
            go_upto_region 13 with fail
            go_upto_region 12 with (first
              | (go_at_call 44; go_fit (pick_dz 20 _ hQ (by omega) (by omega)); rintro e w7 ⟨v1, rfl, a1, a2, hQ7, G7⟩; replace a2 := a2 (by omega); have hO7 := own_far hO G7 hgT)
              | (go_at_call 44; go_fit (pick_dz 30 _ hQ7 (by omega) (by omega)); rintro e w8 ⟨v2, rfl, d1, d2, hQ8, G8⟩; replace d2 := d2 (by omega); have hO8 := own_far hO7 G8 hgT; have hq2 : 0 ≤ v2.tdiv 29 ∧ v2.tdiv 29 ≤ 1 := (by rw [Int.tdiv_eq_ediv_of_nonneg (by omega)]; omega); obtain ⟨u2, hu2⟩ : ∃ u2, v2.tdiv 29 = u2 := ⟨_, rfl⟩; rw [hu2] at hq2; have hw2 : IntKind.i64.wrap u2 = u2 := IntWalk.i64_in _ (by omega); have hw3 : IntKind.i64.wrap (v1 - u2) = v1 - u2 := IntWalk.i64_in _ (by omega); have hQ9 := hQ8.below (show Below w8.heap.size w8 (w8.alloc (.cells #[.int .i64 (v1 - u2)] 3)) by go_grown); have hO9 : (w8.alloc (.cells #[.int .i64 (v1 - u2)] 3)).ownsRow T 3 1 (.slice A5 k c5) k (xs.map (Value.int .i64)) := (by have := hO8.alloc (.cells #[.int .i64 (v1 - u2)] 3); unfold OwnI at this; rw [Hxl.out] at this; exact this); have hT9 := hQ9.Tx)
              | (at_builtin; refine app_list _ rfl (.tmp 69) (.tmp 76) _ rfl T 3 i0 _ 1 8 Try.underlying23 hi0 hz0 hz1 hz2 rfl (by omega) (.slice A5 k c5) k (xs.map (Value.int .i64)) rfl hO9 _ 1 _ [.int .i64 (v1 - u2)] rfl rfl (NewsAt.block (cs := #[.int .i64 (v1 - u2)]) (at_new rfl)) (by simp [Value.oneCell']) (by omega) (by omega) hT9 ?_; intro A6 c6 w9 hown9 hg9 hat9))
            have hlo : (xs ++ [v1 - u2]).length = k + 1 := by rw [List.length_append, Hxl.out]; rfl
            have hOA : OwnI T w9 (.slice A6 (k + 1) c6) (xs ++ [v1 - u2]) := by unfold OwnI; rw [hlo, List.map_append]; exact hown9
            have hQA := hQ9.far hg9 (fun q hq => (hO9.lt q hq).1)
            have Hlo := hide hlo
            clear hlo hown9 hg9 hat9 hO9 hO8 hO7 hO hQ9 hQ8 hQ7 hQ G7 G8 hw2 hw3 p0
            go_wp2_with fail
            go_roundg (L.length - (k + 1))
            case measure => go_light; omega
            case rel => go_light; exact ⟨k + 1, A6, c6, xs ++ [v1 - u2], by omega, rfl, by go_num, rfl, Hlo, hOA, hQA.more (by omega)⟩
          · obtain rfl : k = L.length := by omega
            have hzl := Hxl.out
            have p0 := hQ.pr.f0
            have p1 := hQ.pr.f1
            have z0 := hQ.z0
            have z1 := hQ.z1
            have zf0 := hQ.zf 0
            have zf1 := hQ.zf 1
            have hWT := hQ.wT
            have hgs := hQ.gw.size
            have hO' : OwnI T wr (.slice A5 xs.length c5) xs := by rw [hzl]; exact hO
            have hzl' := hide hzl
            clear hzl
            go_wp2_with fail
            have hzl := hzl'.out
            obtain ⟨y0, y1, o1, o2, hR9, hG9⟩ := hQ.fin (.slice A1 L.length c1) (.slice A2 F.length c2)
            have o3 := own_less (base' := w.heap.size) (own_set_low (p := ⟨w.heap.size, 1, none⟩) (own_set_low (p := ⟨w.heap.size, 0, none⟩) hO' (by dsimp only; omega) (.slice A1 L.length c1)) (by dsimp only; omega) (.slice A2 F.length c2)) (by omega)
            refine bodyPost_ret (v := .tuple #[.agg #[.slice A1 L.length c1, .slice A2 F.length c2], .int .i64 h, .slice A5 xs.length c5]) (by simp [results, Try.results73, go_sem, y0, y1, hzl]) rfl ?_
            exact ⟨A1, c1, L, A2, c2, F, h, A5, c5, xs, rfl, hL7, hF7, hh, by omega, o1, o2, o3, hR9.more (by omega), hG9⟩
end Go.Proofs.Ytmgikoaeomieeaa
