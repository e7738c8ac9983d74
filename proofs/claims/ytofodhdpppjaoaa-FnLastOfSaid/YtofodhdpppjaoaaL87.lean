/-
  impl: narrowed, NarrowedOf, BackTerm.
-/
import Derived.Test.YtofodhdpppjaoaaL86
import Derived.Test.YtofodhdpppjaoaaL83
namespace Go.Proofs.Ytofodhdpppjaoaa
set_option linter.unusedVariables false
set_option linter.unusedSimpArgs false
open Go Go.RowKit Pp

namespace Pp
theorem kid_fine {a k : Tm} {j : Nat} (hf : a.fine) (h : a.kids[j]? = some k) : k.fine := by
  cases a with
  | step l u => simp [Tm.kids] at h
  | wth a u => match j with
    | 0 => simp [Tm.kids] at h; subst h; exact hf.1
    | j + 1 => simp [Tm.kids] at h
  | thn a b => match j with
    | 0 => simp [Tm.kids] at h; subst h; exact hf.1
    | 1 => simp [Tm.kids] at h; subst h; exact hf.2
    | j + 2 => simp [Tm.kids] at h
  | bth a b => match j with
    | 0 => simp [Tm.kids] at h; subst h; exact hf.1
    | 1 => simp [Tm.kids] at h; subst h; exact hf.2
    | j + 2 => simp [Tm.kids] at h
theorem lens_kids {a b : Tm} {u : Int × Int} : ((Tm.thn a b).lens = some u → (∃ x, a.lens = some x) ∧ ∃ y, b.lens = some y) ∧ ((Tm.bth a b).lens = some u → (∃ x, a.lens = some x) ∧ ∃ y, b.lens = some y) := by
  constructor <;> intro h
  · simp only [Tm.lens] at h
    split at h
    · rename_i x y s t hx hy; exact ⟨⟨_, hx⟩, ⟨_, hy⟩⟩
    · simp at h
  · simp only [Tm.lens] at h
    split at h
    · rename_i x y s t hx hy; exact ⟨⟨_, hx⟩, ⟨_, hy⟩⟩
    · simp at h
theorem kid_lens {a k : Tm} {j : Nat} {u : Int × Int} (hl : a.lens = some u) (h : a.kids[j]? = some k) : ∃ x, k.lens = some x := by
  cases a with
  | step l u => simp [Tm.kids] at h
  | wth a v => match j with
    | 0 =>
      simp [Tm.kids] at h; subst h
      simp only [Tm.lens] at hl
      split at hl
      · rename_i x y hx; exact ⟨_, hx⟩
      · simp at hl
    | j + 1 => simp [Tm.kids] at h
  | thn a b =>
    have hh := lens_kids.1 hl
    match j with
    | 0 => simp [Tm.kids] at h; subst h; exact hh.1
    | 1 => simp [Tm.kids] at h; subst h; exact hh.2
    | j + 2 => simp [Tm.kids] at h
  | bth a b =>
    have hh := lens_kids.2 hl
    match j with
    | 0 => simp [Tm.kids] at h; subst h; exact hh.1
    | 1 => simp [Tm.kids] at h; subst h; exact hh.2
    | j + 2 => simp [Tm.kids] at h
theorem nar_kids {a : Tm} {lo hi u v : Int} (hl : a.lens = some (u, v)) (h : a.mark.k ≠ 1) : (nar a lo hi).kids = a.kids.map (fun k => nar k (max lo u) (min hi v)) := by
  have e1 : (lensD a).1 = u := by simp [lensD, hl]
  have e2 : (lensD a).2 = v := by simp [lensD, hl]
  cases a with
  | step l h => rfl
  | wth a w => simp [nar, Tm.kids, e1, e2]
  | thn a b => exact absurd rfl h
  | bth a b => simp [nar, Tm.kids, e1, e2]
theorem nar_mark {a : Tm} {lo hi : Int} (h : a.mark.k ≠ 0) : (nar a lo hi).mark = a.mark := by
  cases a with
  | step l h' => exact absurd rfl h
  | _ => rfl
theorem map_step {a k : Tm} {j : Nat} (f : Tm → Tm) (h : a.kids[j]? = some k) : (a.kids.take (j + 1)).map f = (a.kids.take j).map f ++ [f k] := by
  obtain ⟨hj, rfl⟩ := List.getElem?_eq_some_iff.1 h
  rw [List.take_succ_eq_append_getElem hj, List.map_append]
  rfl
end Pp

set_option maxHeartbeats 4000000 in
set_option maxRecDepth 100000 in
theorem narrowed_q : ∀ (n : Nat) (a : Tm), a.size ≤ n → n ≤ 20 → a.fine → ∀ (u v : Int), a.lens = some (u, v) → ∀ (lo hi : Int), (-1000000 + 1000 * (a.size : Int) ≤ lo ∧ lo ≤ 1000000 - 1000 * (a.size : Int)) → (-1000000 + 1000 * (a.size : Int) ≤ hi ∧ hi ≤ 1000000 - 1000 * (a.size : Int)) → ∀ (p : Nat) (w : World), PtR w w.heap.size a p →
    Calls Try.prog 40 #[.pointer (some ⟨p, 0, none⟩), .int .i64 lo, .int .i64 hi] w fun e w' => ∃ q, e = .returned (.pointer (some ⟨q, 0, none⟩)) ∧ NwR w.heap.size w' (nar a lo hi) q ∧ Below w.heap.size w w' := by
  intro n
  induction n with
  | zero => intro a hs; cases a <;> simp [Tm.size] at hs
  | succ n ih =>
    intro a hs hn20 hf u v hl lo hi hlo hhi p w hP
    obtain ⟨i0, hi0, hz0, hz1, hz2⟩ := info_parts infoP
    have hsm := lens_small hf (by omega) hl
    obtain ⟨lw, hlw⟩ : ∃ lw, max lo u = lw := ⟨_, rfl⟩
    obtain ⟨hg, hhg⟩ : ∃ hg, min hi v = hg := ⟨_, rfl⟩
    have hlw1 : (if lo < u then u else lo) = lw := by rw [← hlw]; split <;> omega
    have hhg1 : (if v < hi then v else hi) = hg := by rw [← hhg]; split <;> omega
    have hs20 : a.size ≤ 20 := by omega
    have hcl := lengths_q a p w hf hs20 hP
    by_cases hx1 : a.mark.k = 1
    · obtain ⟨a1, a2, rfl⟩ : ∃ a1 a2, a = .thn a1 a2 := by
        cases a with
        | thn a1 a2 => exact ⟨a1, a2, rfl⟩
        | _ => simp [Tm.mark] at hx1
      obtain ⟨⟨⟨u1, v1⟩, hl1⟩, ⟨u2, v2⟩, hl2⟩ := lens_kids.1 hl
      have hs1 : a1.size ≤ n := by simp only [Tm.size] at hs; omega
      have hs2 : a2.size ≤ n := by simp only [Tm.size] at hs; omega
      have hsm1 := lens_small hf.1 (by omega) hl1
      have hsm2 := lens_small hf.2 (by omega) hl2
      have hlwb : (-1000000 + 1000 * ((Tm.thn a1 a2).size : Int) ≤ lw ∧ lw ≤ 1000000 - 1000 * ((Tm.thn a1 a2).size : Int)) ∧ (-1000000 + 1000 * ((Tm.thn a1 a2).size : Int) ≤ hg ∧ hg ≤ 1000000 - 1000 * ((Tm.thn a1 a2).size : Int)) := by simp only [Tm.size] at hlo hhi hs ⊢; omega
      have hnar : Hid (nar (.thn a1 a2) lo hi = .thn (nar a1 (lw - v2) (hg - u2)) (nar a2 (lw - v1) (hg - u1))) := by
        have e1 : lensD (.thn a1 a2) = (u, v) := by simp [lensD, hl]
        have e2 : lensD a1 = (u1, v1) := by simp [lensD, hl1]
        have e3 : lensD a2 = (u2, v2) := by simp [lensD, hl2]
        unfold Hid; rw [← hlw, ← hhg]
        simp only [nar, e1, e2, e3]
      obtain ⟨A, c, b, o, q1, q2, ⟨hat, c0, c1, c2, c3⟩, rfl, hbS, hq1, hq2, hP1, hP2⟩ := hP
      dsimp only at c0 c1 c2
      dsimp only [ptr] at hq1 hq2
      have hb1 : -1000000 + 1000 * (a1.size : Int) ≤ lw - v2 ∧ lw - v2 ≤ 1000000 - 1000 * (a1.size : Int) ∧ -1000000 + 1000 * (a1.size : Int) ≤ hg - u2 ∧ hg - u2 ≤ 1000000 - 1000 * (a1.size : Int) := by simp only [Tm.size] at hlwb; omega
      have hb2 : -1000000 + 1000 * (a2.size : Int) ≤ lw - v1 ∧ lw - v1 ≤ 1000000 - 1000 * (a2.size : Int) ∧ -1000000 + 1000 * (a2.size : Int) ≤ hg - u1 ∧ hg - u1 ≤ 1000000 - 1000 * (a2.size : Int) := by simp only [Tm.size] at hlwb; omega
      have hw1 : IntKind.i64.wrap (lw - v2) = lw - v2 := IntWalk.i64_in _ (by omega)
      have hw2 : IntKind.i64.wrap (hg - u2) = hg - u2 := IntWalk.i64_in _ (by omega)
      have hw3 : IntKind.i64.wrap (lw - v1) = lw - v1 := IntWalk.i64_in _ (by omega)
      have hw4 : IntKind.i64.wrap (hg - u1) = hg - u1 := IntWalk.i64_in _ (by omega)
      have hi1 := ih a1 hs1 (by omega) hf.1 u1 v1 hl1 (lw - v2) (hg - u2) ⟨hb1.1, hb1.2.1⟩ ⟨hb1.2.2.1, hb1.2.2.2⟩ q1
      have hi2 := ih a2 hs2 (by omega) hf.2 u2 v2 hl2 (lw - v1) (hg - u1) ⟨hb2.1, hb2.2.1⟩ ⟨hb2.2.2.1, hb2.2.2.2⟩ q2
      have hcl1 := fun wq hq => lengths_q a1 q1 wq hf.1 (by omega) hq
      have hcl2 := fun wq hq => lengths_q a2 q2 wq hf.2 (by omega) hq
      have Hl := hide hl
      have Hl1 := hide hl1
      have Hl2 := hide hl2
      have Hi1 := hide hi1
      have Hi2 := hide hi2
      have Hc1 := hide hcl1
      have Hc2 := hide hcl2
      clear hl hlw hhg hx1 hlo hhi hl1 hl2 hb1 hb2 hlwb hi1 hi2 hcl1 hcl2 ih hs1 hs2 hs
      go_enter Try.func40, Try.ntmps40
      go_upto_region 7 with (go_at_call 60; refine hcl.mono ?_; rintro e w2 ⟨v0, rfl, ⟨x0, y0, rfl, hxy⟩, hb⟩; rw [Hl.out]; obtain ⟨rfl, rfl⟩ := hxy _ _ Hl.out; clear hxy hcl; have e0 := ((bcell hb).1 _ _ hat).trans c0; have e3 := ((bcell hb).1 _ _ hat).trans c3)
      have k1 := ((bcell hb).1 _ _ hbS).trans hq1
      have k2 := ((bcell hb).1 _ _ hbS).trans hq2
      have hR1 := PtR.next hP1 hb
      have hR2 := PtR.next hP2 hb
      go_upto_region 8 with (go_at_call 60; refine (Hc1.out _ hR1).mono ?_; rintro e w3 ⟨v0, rfl, ⟨x0, y0, rfl, hxy⟩, hb3⟩; rw [Hl1.out]; obtain ⟨rfl, rfl⟩ := hxy _ _ Hl1.out; clear hxy)
      have hB3 := bthen hb hb3
      clear e0 e3 k1 k2
      have e3 := ((bcell hB3).1 _ _ hat).trans c3
      have k2 := ((bcell hB3).1 _ _ hbS).trans hq2
      replace hR2 := PtR.next hR2 hb3
      go_upto_region 9 with (go_at_call 60; refine (Hc2.out _ hR2).mono ?_; rintro e w4 ⟨v0, rfl, ⟨x0, y0, rfl, hxy⟩, hb4⟩; rw [Hl2.out]; obtain ⟨rfl, rfl⟩ := hxy _ _ Hl2.out; clear hxy)
      have hB4 := bthen hB3 hb4
      clear e3 k2 hR1 hR2
      have hS : ∀ wq, Below w.heap.size w wq → (wq.cell? ⟨p, 0, none⟩ = some (.int .i64 1) ∧ wq.cell? ⟨p, 1, none⟩ = some (.int .i64 0) ∧ wq.cell? ⟨p, 2, none⟩ = some (.int .i64 0) ∧ wq.cell? ⟨p, 3, none⟩ = some (.slice (some ⟨b, o, none⟩) 2 c) ∧ wq.cell? ⟨b, o, none⟩ = some (.pointer (some ⟨q1, 0, none⟩)) ∧ wq.cell? ⟨b, o + 1, none⟩ = some (.pointer (some ⟨q2, 0, none⟩))) := fun wq hq =>
        ⟨((bcell hq).1 _ _ hat).trans c0, ((bcell hq).1 _ _ hat).trans c1, ((bcell hq).1 _ _ hat).trans c2, ((bcell hq).1 _ _ hat).trans c3, ((bcell hq).1 _ _ hbS).trans hq1, ((bcell hq).1 _ _ hbS).trans hq2⟩
      have HS := hide hS
      clear hS c0 c1 c2 c3 hq1 hq2
      refine wp_regionE (fun w' => w'.cell? ⟨p, 0, none⟩ = some (.int .i64 1) ∧ w'.cell? ⟨p, 1, none⟩ = some (.int .i64 0) ∧ w'.cell? ⟨p, 2, none⟩ = some (.int .i64 0) ∧ w'.cell? ⟨p, 3, none⟩ = some (.slice (some ⟨b, o, none⟩) 2 c) ∧ w'.cell? ⟨b, o, none⟩ = some (.pointer (some ⟨q1, 0, none⟩)) ∧ w'.cell? ⟨b, o + 1, none⟩ = some (.pointer (some ⟨q2, 0, none⟩))) 33 (by kernel_rfl) ?_
      change wpE _ _ _ _ _ _ 34 #[false, false, false, false, false, false, false, false, false, false, false, false, false, false, false, false, false, false, false, false, false, false, false, false, false, false, false, false, false, false, false, false, false, false] _ _
      have hal : Below w.heap.size w w4.drew := bthen hB4 (by go_grown)
      generalize w4.drew = wd at hal ⊢
      have hS0 := HS.out wd hal
      refine wpE_take' (v := ?_) 0 [33] (of_decide_eq_true (by kernel_rfl)) (by kernel_rfl) (by kernel_rfl) (by kernel_rfl) (by kernel_rfl) (fun _ _ _ h => h) (by kernel_rfl) ?_ hS0 ?_
      rotate_left
      · intro w' hSw
        obtain ⟨hs0, hs1, hs2, hs3, hs4, hs5⟩ := hSw
        simp only [List.getElem_toArray, List.getElem_cons_succ, List.getElem_cons_zero]
        go_simp
        all_goals with_reducible rfl
      simp only [List.getElem_toArray, List.getElem_cons_succ, List.getElem_cons_zero, Act.put, List.setIfInBounds_toArray, List.set_cons_zero, List.set_cons_succ]
      refine wpE_take' (v := ?_) 4 [33] (of_decide_eq_true (by kernel_rfl)) (by kernel_rfl) (by kernel_rfl) (by kernel_rfl) (by kernel_rfl) (fun _ _ _ h => h) (by kernel_rfl) ?_ hS0 ?_
      rotate_left
      · intro w' hSw
        obtain ⟨hs0, hs1, hs2, hs3, hs4, hs5⟩ := hSw
        simp only [List.getElem_toArray, List.getElem_cons_succ, List.getElem_cons_zero]
        go_simp
        all_goals with_reducible rfl
      simp only [List.getElem_toArray, List.getElem_cons_succ, List.getElem_cons_zero, Act.put, List.setIfInBounds_toArray, List.set_cons_zero, List.set_cons_succ]
      refine wpE_take' (v := ?_) 10 [33] (of_decide_eq_true (by kernel_rfl)) (by kernel_rfl) (by kernel_rfl) (by kernel_rfl) (by kernel_rfl) (fun _ _ _ h => h) (by kernel_rfl) ?_ hS0 ?_
      rotate_left
      · intro w' hSw
        obtain ⟨hs0, hs1, hs2, hs3, hs4, hs5⟩ := hSw
        simp only [List.getElem_toArray, List.getElem_cons_succ, List.getElem_cons_zero]
        go_simp
        all_goals with_reducible rfl
      simp only [List.getElem_toArray, List.getElem_cons_succ, List.getElem_cons_zero, Act.put, List.setIfInBounds_toArray, List.set_cons_zero, List.set_cons_succ]
      refine wpE_take' (v := ?_) 11 [33] (of_decide_eq_true (by kernel_rfl)) (by kernel_rfl) (by kernel_rfl) (by kernel_rfl) (by kernel_rfl) (fun _ _ _ h => h) (by kernel_rfl) ?_ hS0 ?_
      rotate_left
      · intro w' hSw
        obtain ⟨hs0, hs1, hs2, hs3, hs4, hs5⟩ := hSw
        simp only [List.getElem_toArray, List.getElem_cons_succ, List.getElem_cons_zero]
        go_simp
        all_goals with_reducible rfl
      simp only [List.getElem_toArray, List.getElem_cons_succ, List.getElem_cons_zero, Act.put, List.setIfInBounds_toArray, List.set_cons_zero, List.set_cons_succ]
      refine wpE_take' (v := ?_) 12 [33] (of_decide_eq_true (by kernel_rfl)) (by kernel_rfl) (by kernel_rfl) (by kernel_rfl) (by kernel_rfl) (fun _ _ _ h => h) (by kernel_rfl) ?_ hS0 ?_
      rotate_left
      · intro w' hSw
        obtain ⟨hs0, hs1, hs2, hs3, hs4, hs5⟩ := hSw
        simp only [List.getElem_toArray, List.getElem_cons_succ, List.getElem_cons_zero]
        go_simp
        all_goals with_reducible rfl
      simp only [List.getElem_toArray, List.getElem_cons_succ, List.getElem_cons_zero, Act.put, List.setIfInBounds_toArray, List.set_cons_zero, List.set_cons_succ]
      refine wpE_take' (v := ?_) 13 [33] (of_decide_eq_true (by kernel_rfl)) (by kernel_rfl) (by kernel_rfl) (by kernel_rfl) (by kernel_rfl) (fun _ _ _ h => h) (by kernel_rfl) ?_ hS0 ?_
      rotate_left
      · intro w' hSw
        obtain ⟨hs0, hs1, hs2, hs3, hs4, hs5⟩ := hSw
        simp only [List.getElem_toArray, List.getElem_cons_succ, List.getElem_cons_zero]
        go_simp
        all_goals with_reducible rfl
      simp only [List.getElem_toArray, List.getElem_cons_succ, List.getElem_cons_zero, Act.put, List.setIfInBounds_toArray, List.set_cons_zero, List.set_cons_succ]
      refine wpE_take' (v := ?_) 14 [33] (of_decide_eq_true (by kernel_rfl)) (by kernel_rfl) (by kernel_rfl) (by kernel_rfl) (by kernel_rfl) (fun _ _ _ h => h) (by kernel_rfl) ?_ hS0 ?_
      rotate_left
      · intro w' hSw
        obtain ⟨hs0, hs1, hs2, hs3, hs4, hs5⟩ := hSw
        simp only [List.getElem_toArray, List.getElem_cons_succ, List.getElem_cons_zero]
        go_simp
        all_goals with_reducible rfl
      simp only [List.getElem_toArray, List.getElem_cons_succ, List.getElem_cons_zero, Act.put, List.setIfInBounds_toArray, List.set_cons_zero, List.set_cons_succ]
      refine wpE_take' (v := ?_) 15 [33] (of_decide_eq_true (by kernel_rfl)) (by kernel_rfl) (by kernel_rfl) (by kernel_rfl) (by kernel_rfl) (fun _ _ _ h => h) (by kernel_rfl) ?_ hS0 ?_
      rotate_left
      · intro w' hSw
        obtain ⟨hs0, hs1, hs2, hs3, hs4, hs5⟩ := hSw
        simp only [List.getElem_toArray, List.getElem_cons_succ, List.getElem_cons_zero]
        go_simp
        all_goals with_reducible rfl
      simp only [List.getElem_toArray, List.getElem_cons_succ, List.getElem_cons_zero, Act.put, List.setIfInBounds_toArray, List.set_cons_zero, List.set_cons_succ]
      refine wpE_take' (v := ?_) 17 [33] (of_decide_eq_true (by kernel_rfl)) (by kernel_rfl) (by kernel_rfl) (by kernel_rfl) (by kernel_rfl) (fun _ _ _ h => h) (by kernel_rfl) ?_ hS0 ?_
      rotate_left
      · intro w' hSw
        obtain ⟨hs0, hs1, hs2, hs3, hs4, hs5⟩ := hSw
        simp only [List.getElem_toArray, List.getElem_cons_succ, List.getElem_cons_zero]
        go_simp
        all_goals with_reducible rfl
      simp only [List.getElem_toArray, List.getElem_cons_succ, List.getElem_cons_zero, Act.put, List.setIfInBounds_toArray, List.set_cons_zero, List.set_cons_succ]
      refine wpE_take' (v := ?_) 23 [33] (of_decide_eq_true (by kernel_rfl)) (by kernel_rfl) (by kernel_rfl) (by kernel_rfl) (by kernel_rfl) (fun _ _ _ h => h) (by kernel_rfl) ?_ hS0 ?_
      rotate_left
      · intro w' hSw
        obtain ⟨hs0, hs1, hs2, hs3, hs4, hs5⟩ := hSw
        simp only [List.getElem_toArray, List.getElem_cons_succ, List.getElem_cons_zero]
        go_simp
        all_goals with_reducible rfl
      simp only [List.getElem_toArray, List.getElem_cons_succ, List.getElem_cons_zero, Act.put, List.setIfInBounds_toArray, List.set_cons_zero, List.set_cons_succ]
      refine wpE_take' (v := ?_) 24 [33] (of_decide_eq_true (by kernel_rfl)) (by kernel_rfl) (by kernel_rfl) (by kernel_rfl) (by kernel_rfl) (fun _ _ _ h => h) (by kernel_rfl) ?_ hS0 ?_
      rotate_left
      · intro w' hSw
        obtain ⟨hs0, hs1, hs2, hs3, hs4, hs5⟩ := hSw
        simp only [List.getElem_toArray, List.getElem_cons_succ, List.getElem_cons_zero]
        go_simp
        all_goals with_reducible rfl
      simp only [List.getElem_toArray, List.getElem_cons_succ, List.getElem_cons_zero, Act.put, List.setIfInBounds_toArray, List.set_cons_zero, List.set_cons_succ]
      refine wpE_take' (v := ?_) 25 [33] (of_decide_eq_true (by kernel_rfl)) (by kernel_rfl) (by kernel_rfl) (by kernel_rfl) (by kernel_rfl) (fun _ _ _ h => h) (by kernel_rfl) ?_ hS0 ?_
      rotate_left
      · intro w' hSw
        obtain ⟨hs0, hs1, hs2, hs3, hs4, hs5⟩ := hSw
        simp only [List.getElem_toArray, List.getElem_cons_succ, List.getElem_cons_zero]
        go_simp
        all_goals with_reducible rfl
      simp only [List.getElem_toArray, List.getElem_cons_succ, List.getElem_cons_zero, Act.put, List.setIfInBounds_toArray, List.set_cons_zero, List.set_cons_succ]
      refine wpE_take' (v := ?_) 26 [33] (of_decide_eq_true (by kernel_rfl)) (by kernel_rfl) (by kernel_rfl) (by kernel_rfl) (by kernel_rfl) (fun _ _ _ h => h) (by kernel_rfl) ?_ hS0 ?_
      rotate_left
      · intro w' hSw
        obtain ⟨hs0, hs1, hs2, hs3, hs4, hs5⟩ := hSw
        simp only [List.getElem_toArray, List.getElem_cons_succ, List.getElem_cons_zero]
        go_simp
        all_goals with_reducible rfl
      simp only [List.getElem_toArray, List.getElem_cons_succ, List.getElem_cons_zero, Act.put, List.setIfInBounds_toArray, List.set_cons_zero, List.set_cons_succ]
      refine wpE_take' (v := ?_) 27 [33] (of_decide_eq_true (by kernel_rfl)) (by kernel_rfl) (by kernel_rfl) (by kernel_rfl) (by kernel_rfl) (fun _ _ _ h => h) (by kernel_rfl) ?_ hS0 ?_
      rotate_left
      · intro w' hSw
        obtain ⟨hs0, hs1, hs2, hs3, hs4, hs5⟩ := hSw
        simp only [List.getElem_toArray, List.getElem_cons_succ, List.getElem_cons_zero]
        go_simp
        all_goals with_reducible rfl
      simp only [List.getElem_toArray, List.getElem_cons_succ, List.getElem_cons_zero, Act.put, List.setIfInBounds_toArray, List.set_cons_zero, List.set_cons_succ]
      refine wpE_take' (v := ?_) 28 [33] (of_decide_eq_true (by kernel_rfl)) (by kernel_rfl) (by kernel_rfl) (by kernel_rfl) (by kernel_rfl) (fun _ _ _ h => h) (by kernel_rfl) ?_ hS0 ?_
      rotate_left
      · intro w' hSw
        obtain ⟨hs0, hs1, hs2, hs3, hs4, hs5⟩ := hSw
        simp only [List.getElem_toArray, List.getElem_cons_succ, List.getElem_cons_zero]
        go_simp
        all_goals with_reducible rfl
      simp only [List.getElem_toArray, List.getElem_cons_succ, List.getElem_cons_zero, Act.put, List.setIfInBounds_toArray, List.set_cons_zero, List.set_cons_succ]
      refine wpE_take' (v := ?_) 1 [33] (of_decide_eq_true (by kernel_rfl)) (by kernel_rfl) (by kernel_rfl) (by kernel_rfl) (by kernel_rfl) (fun _ _ _ h => h) (by kernel_rfl) ?_ hS0 ?_
      rotate_left
      · intro w' hSw
        obtain ⟨hs0, hs1, hs2, hs3, hs4, hs5⟩ := hSw
        simp only [List.getElem_toArray, List.getElem_cons_succ, List.getElem_cons_zero]
        go_simp
        all_goals with_reducible rfl
      simp only [List.getElem_toArray, List.getElem_cons_succ, List.getElem_cons_zero, Act.put, List.setIfInBounds_toArray, List.set_cons_zero, List.set_cons_succ]
      refine wpE_take' (v := ?_) 2 [33] (of_decide_eq_true (by kernel_rfl)) (by kernel_rfl) (by kernel_rfl) (by kernel_rfl) (by kernel_rfl) (fun _ _ _ h => h) (by kernel_rfl) ?_ hS0 ?_
      rotate_left
      · intro w' hSw
        obtain ⟨hs0, hs1, hs2, hs3, hs4, hs5⟩ := hSw
        simp only [List.getElem_toArray, List.getElem_cons_succ, List.getElem_cons_zero]
        go_simp
        all_goals with_reducible rfl
      simp only [List.getElem_toArray, List.getElem_cons_succ, List.getElem_cons_zero, Act.put, List.setIfInBounds_toArray, List.set_cons_zero, List.set_cons_succ]
      refine wpE_take' (v := ?_) 3 [33] (of_decide_eq_true (by kernel_rfl)) (by kernel_rfl) (by kernel_rfl) (by kernel_rfl) (by kernel_rfl) (fun _ _ _ h => h) (by kernel_rfl) ?_ hS0 ?_
      rotate_left
      · intro w' hSw
        obtain ⟨hs0, hs1, hs2, hs3, hs4, hs5⟩ := hSw
        simp only [List.getElem_toArray, List.getElem_cons_succ, List.getElem_cons_zero]
        go_simp
        all_goals with_reducible rfl
      simp only [List.getElem_toArray, List.getElem_cons_succ, List.getElem_cons_zero, Act.put, List.setIfInBounds_toArray, List.set_cons_zero, List.set_cons_succ]
      refine wpE_take' (v := ?_) 5 [33] (of_decide_eq_true (by kernel_rfl)) (by kernel_rfl) (by kernel_rfl) (by kernel_rfl) (by kernel_rfl) (fun _ _ _ h => h) (by kernel_rfl) ?_ hS0 ?_
      rotate_left
      · intro w' hSw
        obtain ⟨hs0, hs1, hs2, hs3, hs4, hs5⟩ := hSw
        simp only [List.getElem_toArray, List.getElem_cons_succ, List.getElem_cons_zero]
        go_simp
        all_goals with_reducible rfl
      simp only [List.getElem_toArray, List.getElem_cons_succ, List.getElem_cons_zero, Act.put, List.setIfInBounds_toArray, List.set_cons_zero, List.set_cons_succ]
      refine wpE_take' (v := ?_) 6 [33] (of_decide_eq_true (by kernel_rfl)) (by kernel_rfl) (by kernel_rfl) (by kernel_rfl) (by kernel_rfl) (fun _ _ _ h => h) (by kernel_rfl) ?_ hS0 ?_
      rotate_left
      · intro w' hSw
        obtain ⟨hs0, hs1, hs2, hs3, hs4, hs5⟩ := hSw
        simp only [List.getElem_toArray, List.getElem_cons_succ, List.getElem_cons_zero]
        go_simp
        all_goals with_reducible rfl
      simp only [List.getElem_toArray, List.getElem_cons_succ, List.getElem_cons_zero, Act.put, List.setIfInBounds_toArray, List.set_cons_zero, List.set_cons_succ]
      refine wpE_take' (v := ?_) 7 [33] (of_decide_eq_true (by kernel_rfl)) (by kernel_rfl) (by kernel_rfl) (by kernel_rfl) (by kernel_rfl) (fun _ _ _ h => h) (by kernel_rfl) ?_ hS0 ?_
      rotate_left
      · intro w' hSw
        obtain ⟨hs0, hs1, hs2, hs3, hs4, hs5⟩ := hSw
        simp only [List.getElem_toArray, List.getElem_cons_succ, List.getElem_cons_zero]
        go_simp
        all_goals with_reducible rfl
      simp only [List.getElem_toArray, List.getElem_cons_succ, List.getElem_cons_zero, Act.put, List.setIfInBounds_toArray, List.set_cons_zero, List.set_cons_succ]
      refine wpE_take' (v := ?_) 8 [33] (of_decide_eq_true (by kernel_rfl)) (by kernel_rfl) (by kernel_rfl) (by kernel_rfl) (by kernel_rfl) (fun _ _ _ h => h) (by kernel_rfl) ?_ hS0 ?_
      rotate_left
      · intro w' hSw
        obtain ⟨hs0, hs1, hs2, hs3, hs4, hs5⟩ := hSw
        simp only [List.getElem_toArray, List.getElem_cons_succ, List.getElem_cons_zero]
        go_simp
        all_goals with_reducible rfl
      simp only [List.getElem_toArray, List.getElem_cons_succ, List.getElem_cons_zero, Act.put, List.setIfInBounds_toArray, List.set_cons_zero, List.set_cons_succ]
      refine wpE_take' (v := ?_) 9 [33] (of_decide_eq_true (by kernel_rfl)) (by kernel_rfl) (by kernel_rfl) (by kernel_rfl) (by kernel_rfl) (fun _ _ _ h => h) (by kernel_rfl) ?_ hS0 ?_
      rotate_left
      · intro w' hSw
        obtain ⟨hs0, hs1, hs2, hs3, hs4, hs5⟩ := hSw
        simp only [List.getElem_toArray, List.getElem_cons_succ, List.getElem_cons_zero]
        go_simp
        all_goals with_reducible rfl
      simp only [List.getElem_toArray, List.getElem_cons_succ, List.getElem_cons_zero, Act.put, List.setIfInBounds_toArray, List.set_cons_zero, List.set_cons_succ]
      refine wpE_take' (v := ?_) 18 [33] (of_decide_eq_true (by kernel_rfl)) (by kernel_rfl) (by kernel_rfl) (by kernel_rfl) (by kernel_rfl) (fun _ _ _ h => h) (by kernel_rfl) ?_ hS0 ?_
      rotate_left
      · intro w' hSw
        obtain ⟨hs0, hs1, hs2, hs3, hs4, hs5⟩ := hSw
        simp only [List.getElem_toArray, List.getElem_cons_succ, List.getElem_cons_zero]
        go_simp
        all_goals with_reducible rfl
      simp only [List.getElem_toArray, List.getElem_cons_succ, List.getElem_cons_zero, Act.put, List.setIfInBounds_toArray, List.set_cons_zero, List.set_cons_succ]
      refine wpE_take' (v := ?_) 19 [33] (of_decide_eq_true (by kernel_rfl)) (by kernel_rfl) (by kernel_rfl) (by kernel_rfl) (by kernel_rfl) (fun _ _ _ h => h) (by kernel_rfl) ?_ hS0 ?_
      rotate_left
      · intro w' hSw
        obtain ⟨hs0, hs1, hs2, hs3, hs4, hs5⟩ := hSw
        simp only [List.getElem_toArray, List.getElem_cons_succ, List.getElem_cons_zero]
        go_simp
        all_goals with_reducible rfl
      simp only [List.getElem_toArray, List.getElem_cons_succ, List.getElem_cons_zero, Act.put, List.setIfInBounds_toArray, List.set_cons_zero, List.set_cons_succ]
      refine wpE_take' (v := ?_) 20 [33] (of_decide_eq_true (by kernel_rfl)) (by kernel_rfl) (by kernel_rfl) (by kernel_rfl) (by kernel_rfl) (fun _ _ _ h => h) (by kernel_rfl) ?_ hS0 ?_
      rotate_left
      · intro w' hSw
        obtain ⟨hs0, hs1, hs2, hs3, hs4, hs5⟩ := hSw
        simp only [List.getElem_toArray, List.getElem_cons_succ, List.getElem_cons_zero]
        go_simp
        all_goals with_reducible rfl
      simp only [List.getElem_toArray, List.getElem_cons_succ, List.getElem_cons_zero, Act.put, List.setIfInBounds_toArray, List.set_cons_zero, List.set_cons_succ]
      refine wpE_take' (v := ?_) 21 [33] (of_decide_eq_true (by kernel_rfl)) (by kernel_rfl) (by kernel_rfl) (by kernel_rfl) (by kernel_rfl) (fun _ _ _ h => h) (by kernel_rfl) ?_ hS0 ?_
      rotate_left
      · intro w' hSw
        obtain ⟨hs0, hs1, hs2, hs3, hs4, hs5⟩ := hSw
        simp only [List.getElem_toArray, List.getElem_cons_succ, List.getElem_cons_zero]
        go_simp
        all_goals with_reducible rfl
      simp only [List.getElem_toArray, List.getElem_cons_succ, List.getElem_cons_zero, Act.put, List.setIfInBounds_toArray, List.set_cons_zero, List.set_cons_succ]
      refine wpE_take' (v := ?_) 22 [33] (of_decide_eq_true (by kernel_rfl)) (by kernel_rfl) (by kernel_rfl) (by kernel_rfl) (by kernel_rfl) (fun _ _ _ h => h) (by kernel_rfl) ?_ hS0 ?_
      rotate_left
      · intro w' hSw
        obtain ⟨hs0, hs1, hs2, hs3, hs4, hs5⟩ := hSw
        simp only [List.getElem_toArray, List.getElem_cons_succ, List.getElem_cons_zero]
        go_simp
        all_goals with_reducible rfl
      simp only [List.getElem_toArray, List.getElem_cons_succ, List.getElem_cons_zero, Act.put, List.setIfInBounds_toArray, List.set_cons_zero, List.set_cons_succ]
      refine wpE_step' 16 (of_decide_eq_true (by kernel_rfl)) (by kernel_rfl) (by kernel_rfl) (fun K hK => ?_)
      simp only [List.getElem_toArray, List.getElem_cons_succ, List.getElem_cons_zero]
      go_simp
      go_at_call 40
      refine (Hi1.out _ ((PtR.below hP1 hal).more hal.size)).mono ?_
      rintro e w5 ⟨r1, rfl, hN1, hb5⟩
      have hB5 := bthen hal hb5
      refine hK.out _ _ (.inr (HS.out _ hB5)) ?_
      clear hK K hS0
      simp only [Act.put, List.setIfInBounds_toArray, List.set_cons_zero, List.set_cons_succ]
      refine wpE_step' 29 (of_decide_eq_true (by kernel_rfl)) (by kernel_rfl) (by kernel_rfl) (fun K hK => ?_)
      simp only [List.getElem_toArray, List.getElem_cons_succ, List.getElem_cons_zero]
      go_simp
      go_at_call 40
      refine (Hi2.out _ ((PtR.below hP2 hB5).more hB5.size)).mono ?_
      rintro e w6 ⟨r2, rfl, hN2, hb6⟩
      have hB6 := bthen hB5 hb6
      refine hK.out _ _ (.inr (HS.out _ hB6)) ?_
      clear hK K
      simp only [Act.put, List.setIfInBounds_toArray, List.set_cons_zero, List.set_cons_succ]
      have hb7 : Below w6.heap.size w6 (w6.alloc (.cells #[.pointer (some ⟨r1, 0, none⟩), .pointer (some ⟨r2, 0, none⟩)] 60)) := by go_grown
      have hB7 := bthen hB6 hb7
      refine wpE_step' 30 (of_decide_eq_true (by kernel_rfl)) (by kernel_rfl) (by kernel_rfl) (fun K hK => ?_)
      simp only [List.getElem_toArray, List.getElem_cons_succ, List.getElem_cons_zero]
      go_simp
      refine hK.out _ _ (.inr (HS.out _ hB7)) ?_
      clear hK K
      simp only [Act.put, List.setIfInBounds_toArray, List.set_cons_zero, List.set_cons_succ]
      have hS0 := HS.out _ hB7
      refine wpE_take' (v := ?_) 31 [33] (of_decide_eq_true (by kernel_rfl)) (by kernel_rfl) (by kernel_rfl) (by kernel_rfl) (by kernel_rfl) (fun _ _ _ h => h) (by kernel_rfl) ?_ hS0 ?_
      rotate_left
      · intro w' hSw
        obtain ⟨hs0, hs1, hs2, hs3, hs4, hs5⟩ := hSw
        simp only [List.getElem_toArray, List.getElem_cons_succ, List.getElem_cons_zero]
        go_simp
        all_goals with_reducible rfl
      simp only [List.getElem_toArray, List.getElem_cons_succ, List.getElem_cons_zero, Act.put, List.setIfInBounds_toArray, List.set_cons_zero, List.set_cons_succ]
      clear hS0
      have hb8 : Below (w6.alloc (.cells #[.pointer (some ⟨r1, 0, none⟩), .pointer (some ⟨r2, 0, none⟩)] 60)).heap.size (w6.alloc (.cells #[.pointer (some ⟨r1, 0, none⟩), .pointer (some ⟨r2, 0, none⟩)] 60)) ((w6.alloc (.cells #[.pointer (some ⟨r1, 0, none⟩), .pointer (some ⟨r2, 0, none⟩)] 60)).alloc (.cells #[.int .i64 1, .int .i64 0, .int .i64 0, .slice (some ⟨w6.heap.size, 0, none⟩) 2 2] 101)) := by go_grown
      have hB8 := bthen hB7 hb8
      refine wpE_step' 32 (of_decide_eq_true (by kernel_rfl)) (by kernel_rfl) (by kernel_rfl) (fun K hK => ?_)
      simp only [List.getElem_toArray, List.getElem_cons_succ, List.getElem_cons_zero]
      go_simp
      refine hK.out _ _ (.inr (HS.out _ hB8)) ?_
      clear hK K
      simp only [Act.put, List.setIfInBounds_toArray, List.set_cons_zero, List.set_cons_succ]
      refine wpE_step' 33 (of_decide_eq_true (by kernel_rfl)) (by kernel_rfl) (by kernel_rfl) (fun K hK => ?_)
      simp only [List.getElem_toArray, List.getElem_cons_succ, List.getElem_cons_zero]
      go_simp
      refine hK.out _ _ (.inl rfl) ?_
      clear hK K
      simp only [Act.put, List.setIfInBounds_toArray, List.set_cons_zero, List.set_cons_succ]
      refine wpE_done (by kernel_rfl) ?_ _
      have hF : Hid (NwR w.heap.size ((w6.alloc (.cells #[.pointer (some ⟨r1, 0, none⟩), .pointer (some ⟨r2, 0, none⟩)] 60)).alloc (.cells #[.int .i64 1, .int .i64 0, .int .i64 0, .slice (some ⟨w6.heap.size, 0, none⟩) 2 2] 101)) (nar (.thn a1 a2) lo hi) (w6.heap.size + 1)) := by
        have z1 := hal.size
        have z2 := hb5.size
        have z3 := hb6.size
        rw [hnar.out]
        refine ⟨some ⟨w6.heap.size, 0, none⟩, 2, w6.heap.size, 0, r1, r2, ⟨⟨by omega, by simp⟩, by simp [go_sem], by simp [go_sem], by simp [go_sem], by simp [go_sem]⟩, rfl, ⟨by omega, by simp only [World.size_alloc]; omega⟩, by simp [go_sem, ptr], by simp [go_sem, ptr], ?_, ?_⟩
        · exact ((NwR.next (NwR.next (NwR.next hN1 hb6) hb7) hb8).less z1)
        · exact ((NwR.next (NwR.next hN2 hb7) hb8).less (by omega))
      have HB8 := hide hB8
      have e9 : (w6.alloc (.cells #[.pointer (some ⟨r1, 0, none⟩), .pointer (some ⟨r2, 0, none⟩)] 60)).heap.size = w6.heap.size + 1 := by simp
      go_wp2_with fail
      go_ret
      exact ⟨_, rfl, hF.out, HB8.out⟩
    · by_cases hx0 : a.mark.k = 0
      · obtain ⟨l, h, rfl⟩ : ∃ l h, a = .step l h := by
          cases a with
          | step l h => exact ⟨l, h, rfl⟩
          | _ => simp [Tm.mark] at hx0
        obtain ⟨A, c, ⟨hat, c0, c1, c2, c3⟩⟩ := hP
        dsimp only at c0 c1 c2
        have hnar : Hid (nar (.step l h) lo hi = .step lw hg) := by
          have e : some (l, h) = some (u, v) := hl
          injection e with e
          injection e with e1 e2
          unfold Hid; rw [← hlw, ← hhg, e1, e2]; rfl
        have Hl := hide hl
        clear hl hlw hhg hx1 hx0 hlo hhi
        go_enter Try.func40, Try.ntmps40
        go_wp2_with (go_at_call 60; refine hcl.mono ?_; rintro e w2 ⟨v0, rfl, ⟨x0, y0, rfl, hxy⟩, hb⟩; rw [Hl.out]; obtain ⟨rfl, rfl⟩ := hxy _ _ Hl.out; clear hxy; have e0 := ((bcell hb).1 _ _ hat).trans c0)
        have hO := okp_new hb ⟨0, lw, hg⟩ 101
        go_ret
        exact ⟨_, rfl, by rw [hnar.out]; exact hO.fin rfl rfl, hO.bel⟩
      · have hnk := nar_kids (lo := lo) (hi := hi) hl hx1
        rw [hlw, hhg] at hnk
        have hnm := nar_mark (a := a) (lo := lo) (hi := hi) hx0
        have hkf := fun (j : Nat) (k : Tm) (h : a.kids[j]? = some k) => And.intro (kid_fine hf h) (kid_lens hl h)
        obtain ⟨A, c, b, o, ⟨hat, c0, c1, c2, c3⟩, hA, hk⟩ := hP.opened
        have hkl := a.kids_len
        obtain ⟨m, hm⟩ : ∃ m, a.kids.length = m := ⟨_, rfl⟩
        obtain ⟨x, hxm⟩ : ∃ x, a.mark = x := ⟨_, rfl⟩
        rw [hm] at hA hkl c3
        rw [hxm] at c0 c1 c2 hx1 hx0 hnm
        have hx1' : (x.k == 1) = false := by simpa using hx1
        have hx0' : (x.k == 0) = false := by simpa using hx0
        have hlwb : (-1000000 + 1000 * (a.size : Int) ≤ lw ∧ lw ≤ 1000000 - 1000 * (a.size : Int)) ∧ (-1000000 + 1000 * (a.size : Int) ≤ hg ∧ hg ≤ 1000000 - 1000 * (a.size : Int)) := by omega
        have Hlwb := hide hlwb
        have Hm := hide hm
        have Hk := hide hk
        have Hkf := hide hkf
        have Hl := hide hl
        have Hnk := hide hnk
        have Hnm := hide hnm
        obtain ⟨f, hfn⟩ : ∃ f : Tm → Tm, f = fun k => nar k lw hg := ⟨_, rfl⟩
        rw [← hfn] at Hnk
        have Hfn := hide hfn
        clear hm hxm hk hP hkf hl hnk hnm hfn hlwb hx1 hx0 hlw hhg hlo hhi hsm
        go_enter Try.func40, Try.ntmps40
        go_upto_region 11 with (go_at_call 60; refine hcl.mono ?_; rintro e w2 ⟨v0, rfl, ⟨x0, y0, rfl, hxy⟩, hb⟩; rw [Hl.out]; obtain ⟨rfl, rfl⟩ := hxy _ _ Hl.out; clear hxy hcl; have e0 := ((bcell hb).1 _ _ hat).trans c0; have e1 := ((bcell hb).1 _ _ hat).trans c1; have e2 := ((bcell hb).1 _ _ hat).trans c2)
        have hO := okp_new hb x 101
        clear e0 e1 e2
        (try (rename (x.k == 2) = _ => hee; clear hee))
        (try (rename (x.k == 3) = _ => hee; clear hee))
        obtain ⟨X, hX⟩ : ∃ X, X = w2.heap.size := ⟨_, rfl⟩
        generalize w2.alloc (.cells #[.int .i64 x.k, .int .i64 x.l, .int .i64 x.h, .slice none 0 0] 101) = W at hO ⊢
        rw [← hX] at hO ⊢
        have HX := hide hX
        clear hX
        have e3 := ((bcell hO.bel).1 _ _ hat).trans c3
        go_wp2_with fail
        go_loopg [111] m (fun gh s17 wr => ∃ (k : Nat) (A1 : Option Addr) (c1 : Nat) (qs : List Nat), k ≤ m ∧ gh = m - k ∧ s17 = .int .i64 k ∧ OKP w wr X x A1 c1 ((a.kids.take k).map f) qs)
        case atStart => exact ⟨0, none, 0, [], Nat.zero_le _, rfl, rfl, hO⟩
        case round =>
          clear e3 hO
          obtain ⟨k, A1, c1', qs, hkm, rfl, rfl, hO⟩ := hrel
          by_cases hlt : k < m
          · obtain ⟨rfl, hbS⟩ := hA (by omega)
            have hkid : a.kids[k]? = some (a.kids[k]'(by rw [Hm.out]; exact hlt)) := List.getElem?_eq_getElem _
            obtain ⟨q, hq, hPq⟩ := Hk.out _ _ hkid
            have hsz := Tm.kid_size hkid
            have hbs := map_step f hkid
            have hkf := Hkf.out _ _ hkid
            generalize a.kids[k]'(by rw [Hm.out]; exact hlt) = kt at hkid hPq hsz hbs hkf
            obtain ⟨hkf1, ⟨ku, kv⟩, hkl2⟩ := hkf
            have hqs : qs.length ≤ 2 := by rw [hO.len, List.length_map, List.length_take]; omega
            have hkz : (k : Int) < (m : Int) := by omega
            obtain ⟨ks, hks⟩ : ∃ ks, (a.kids.take k).map f = ks := ⟨_, rfl⟩
            rw [hks] at hO hbs
            have Hbs := hide hbs
            replace hq := ((bcell hO.bel).1 _ _ hbS).trans hq
            dsimp only [ptr] at hq
            have hal : Below wr.heap.size wr wr.drew := by go_grown
            have hPq' := (PtR.below hPq hO.bel).more hO.bel.size
            replace hPq' := PtR.next hPq' hal
            have hlwb := Hlwb.out
            have hcall := ih kt (by omega) (by omega) hkf1 ku kv hkl2 lw hg (by omega) (by omega) q wr.drew hPq'
            have hfk : nar kt lw hg = f kt := by rw [Hfn.out]
            rw [hfk] at hcall
            clear hbs hks hkid hPq hPq' hkl2 hlwb hfk
            go_upto_region 14 with fail
            refine wp_regionE (fun w' => w'.cell? ⟨X, 3, none⟩ = some (.slice A1 qs.length c1')) 13 (by kernel_rfl) ?_
            change wpE _ _ _ _ _ _ 14 #[false, false, false, false, false, false, false, false, false, false, false, false, false, false] _ _
            replace hO := hO.below hal
            clear hal
            generalize wr.drew = wd at hO hcall ⊢
            have hcf := hO.cf
            have hS0 : wd.cell? ⟨X, 3, none⟩ = some (.slice A1 qs.length c1') := hO.c3
            refine wpE_take' (v := ?_) 0 [13] (of_decide_eq_true (by kernel_rfl)) (by kernel_rfl) (by kernel_rfl) (by kernel_rfl) (by kernel_rfl) (fun _ _ _ h => h) (by kernel_rfl) ?_ hS0 ?_
            rotate_left
            · intro w' hSw
              simp only [List.getElem_toArray, List.getElem_cons_succ, List.getElem_cons_zero]
              go_simp
              all_goals with_reducible rfl
            simp only [List.getElem_toArray, List.getElem_cons_succ, List.getElem_cons_zero, Act.put, List.setIfInBounds_toArray, List.set_cons_zero, List.set_cons_succ]
            refine wpE_take' (v := ?_) 1 [13] (of_decide_eq_true (by kernel_rfl)) (by kernel_rfl) (by kernel_rfl) (by kernel_rfl) (by kernel_rfl) (fun _ _ _ h => h) (by kernel_rfl) ?_ hS0 ?_
            rotate_left
            · intro w' hSw
              simp only [List.getElem_toArray, List.getElem_cons_succ, List.getElem_cons_zero]
              go_simp
              all_goals with_reducible rfl
            simp only [List.getElem_toArray, List.getElem_cons_succ, List.getElem_cons_zero, Act.put, List.setIfInBounds_toArray, List.set_cons_zero, List.set_cons_succ]
            refine wpE_take' (v := ?_) 5 [13] (of_decide_eq_true (by kernel_rfl)) (by kernel_rfl) (by kernel_rfl) (by kernel_rfl) (by kernel_rfl) (fun _ _ _ h => h) (by kernel_rfl) ?_ hS0 ?_
            rotate_left
            · intro w' hSw
              simp only [List.getElem_toArray, List.getElem_cons_succ, List.getElem_cons_zero]
              go_simp
              all_goals with_reducible rfl
            simp only [List.getElem_toArray, List.getElem_cons_succ, List.getElem_cons_zero, Act.put, List.setIfInBounds_toArray, List.set_cons_zero, List.set_cons_succ]
            refine wpE_take' (v := ?_) 6 [13] (of_decide_eq_true (by kernel_rfl)) (by kernel_rfl) (by kernel_rfl) (by kernel_rfl) (by kernel_rfl) (fun _ _ _ h => h) (by kernel_rfl) ?_ hS0 ?_
            rotate_left
            · intro w' hSw
              simp only [List.getElem_toArray, List.getElem_cons_succ, List.getElem_cons_zero]
              go_simp
              all_goals with_reducible rfl
            simp only [List.getElem_toArray, List.getElem_cons_succ, List.getElem_cons_zero, Act.put, List.setIfInBounds_toArray, List.set_cons_zero, List.set_cons_succ]
            refine wpE_take' (v := ?_) 7 [13] (of_decide_eq_true (by kernel_rfl)) (by kernel_rfl) (by kernel_rfl) (by kernel_rfl) (by kernel_rfl) (fun _ _ _ h => h) (by kernel_rfl) ?_ hS0 ?_
            rotate_left
            · intro w' hSw
              simp only [List.getElem_toArray, List.getElem_cons_succ, List.getElem_cons_zero]
              go_simp
              all_goals with_reducible rfl
            simp only [List.getElem_toArray, List.getElem_cons_succ, List.getElem_cons_zero, Act.put, List.setIfInBounds_toArray, List.set_cons_zero, List.set_cons_succ]
            refine wpE_take' (v := ?_) 2 [13] (of_decide_eq_true (by kernel_rfl)) (by kernel_rfl) (by kernel_rfl) (by kernel_rfl) (by kernel_rfl) (fun _ _ _ h => h) (by kernel_rfl) ?_ hS0 ?_
            rotate_left
            · intro w' hSw
              simp only [List.getElem_toArray, List.getElem_cons_succ, List.getElem_cons_zero]
              go_simp
              all_goals with_reducible rfl
            simp only [List.getElem_toArray, List.getElem_cons_succ, List.getElem_cons_zero, Act.put, List.setIfInBounds_toArray, List.set_cons_zero, List.set_cons_succ]
            refine wpE_take' (v := ?_) 3 [13] (of_decide_eq_true (by kernel_rfl)) (by kernel_rfl) (by kernel_rfl) (by kernel_rfl) (by kernel_rfl) (fun _ _ _ h => h) (by kernel_rfl) ?_ hS0 ?_
            rotate_left
            · intro w' hSw
              simp only [List.getElem_toArray, List.getElem_cons_succ, List.getElem_cons_zero]
              go_simp
              all_goals with_reducible rfl
            simp only [List.getElem_toArray, List.getElem_cons_succ, List.getElem_cons_zero, Act.put, List.setIfInBounds_toArray, List.set_cons_zero, List.set_cons_succ]
            refine wpE_take' (v := ?_) 4 [13] (of_decide_eq_true (by kernel_rfl)) (by kernel_rfl) (by kernel_rfl) (by kernel_rfl) (by kernel_rfl) (fun _ _ _ h => h) (by kernel_rfl) ?_ hS0 ?_
            rotate_left
            · intro w' hSw
              simp only [List.getElem_toArray, List.getElem_cons_succ, List.getElem_cons_zero]
              go_simp
              all_goals with_reducible rfl
            simp only [List.getElem_toArray, List.getElem_cons_succ, List.getElem_cons_zero, Act.put, List.setIfInBounds_toArray, List.set_cons_zero, List.set_cons_succ]
            refine wpE_step' 8 (of_decide_eq_true (by kernel_rfl)) (by kernel_rfl) (by kernel_rfl) (fun K hK => ?_)
            simp only [List.getElem_toArray, List.getElem_cons_succ, List.getElem_cons_zero]
            go_simp
            go_at_call 40
            refine hcall.mono ?_
            clear hcall
            rintro e w3 ⟨q2, rfl, hN, hb2⟩
            have hO2 := hO.below hb2
            refine hK.out _ _ (.inr hO2.c3) ?_
            clear hK K hS0
            simp only [Act.put, List.setIfInBounds_toArray, List.set_cons_zero, List.set_cons_succ]
            have hb3 : Below w3.heap.size w3 (w3.alloc (.cells #[.pointer (some ⟨q2, 0, none⟩)] 60)) := by go_grown
            have hnew : (w3.alloc (.cells #[.pointer (some ⟨q2, 0, none⟩)] 60)).heap[w3.heap.size]? = some (.cells #[.pointer (some ⟨q2, 0, none⟩)] 60 (0, 0)) := at_new rfl
            have hO3 := hO2.below hb3
            refine wpE_step' 9 (of_decide_eq_true (by kernel_rfl)) (by kernel_rfl) (by kernel_rfl) (fun K hK => ?_)
            simp only [List.getElem_toArray, List.getElem_cons_succ, List.getElem_cons_zero]
            go_simp
            refine hK.out _ _ (.inr hO3.c3) ?_
            clear hK K
            simp only [Act.put, List.setIfInBounds_toArray, List.set_cons_zero, List.set_cons_succ]
            refine wpE_step' 10 (of_decide_eq_true (by kernel_rfl)) (by kernel_rfl) (by kernel_rfl) (fun K hK => ?_)
            simp only [List.getElem_toArray, List.getElem_cons_succ, List.getElem_cons_zero]
            refine app_wp _ (.tmp 119) (.tmp 124) _ rfl w.heap.size 60 i0 _ 1 8 Try.underlying97 hi0 hz0 hz1 hz2 rfl (by omega) (.slice A1 qs.length c1') qs.length (qs.map ptr) rfl hO3.own (some ⟨w3.heap.size, 0, none⟩) 1 _ [.pointer (some ⟨q2, 0, none⟩)] rfl rfl (NewsAt.block (cs := #[.pointer (some ⟨q2, 0, none⟩)]) hnew) (by simp [Value.oneCell']) (by omega) (by omega) hO3.bel.size ?_
            intro A5 c5 w5 hown5 hg5 hat5
            obtain ⟨⟨x3, xf⟩, hO5⟩ := hO.push hb2 hN hb3 hg5 hown5 hat5
            refine hK.out _ _ (.inr x3) ?_
            clear hK K
            simp only [Act.put, List.setIfInBounds_toArray, List.set_cons_zero, List.set_cons_succ]
            have hS0 : w5.cell? ⟨X, 3, none⟩ = some (.slice A1 qs.length c1') := x3
            refine wpE_take' (v := ?_) 11 [12, 13] (of_decide_eq_true (by kernel_rfl)) (by kernel_rfl) (by kernel_rfl) (by kernel_rfl) (by kernel_rfl) (fun _ _ _ h => h) (by kernel_rfl) ?_ hS0 ?_
            rotate_left
            · intro w' hSw
              simp only [List.getElem_toArray, List.getElem_cons_succ, List.getElem_cons_zero]
              go_simp
              all_goals with_reducible rfl
            simp only [List.getElem_toArray, List.getElem_cons_succ, List.getElem_cons_zero, Act.put, List.setIfInBounds_toArray, List.set_cons_zero, List.set_cons_succ]
            refine wpE_take' (v := ?_) 12 [13] (of_decide_eq_true (by kernel_rfl)) (by kernel_rfl) (by kernel_rfl) (by kernel_rfl) (by kernel_rfl) (fun _ _ _ h => h) (by kernel_rfl) ?_ hS0 ?_
            rotate_left
            · intro w' hSw
              simp only [List.getElem_toArray, List.getElem_cons_succ, List.getElem_cons_zero]
              go_simp
              all_goals with_reducible rfl
            simp only [List.getElem_toArray, List.getElem_cons_succ, List.getElem_cons_zero, Act.put, List.setIfInBounds_toArray, List.set_cons_zero, List.set_cons_succ]
            refine wpE_step' 13 (of_decide_eq_true (by kernel_rfl)) (by kernel_rfl) (by kernel_rfl) (fun K hK => ?_)
            simp only [List.getElem_toArray, List.getElem_cons_succ, List.getElem_cons_zero]
            go_simp
            refine hK.out _ _ (.inl rfl) ?_
            clear hK K
            simp only [Act.put, List.setIfInBounds_toArray, List.set_cons_zero, List.set_cons_succ]
            refine wpE_done (by kernel_rfl) ?_ _
            clear hS0 x3 xf hown5 hg5 hat5 hO3 hnew hb3 hO2 hb2 hN hO hcf
            rw [← Hbs.out] at hO5
            generalize w5.setCell ⟨X, 3, none⟩ (.slice A5 (qs.length + 1) c5) = w6 at hO5 ⊢
            generalize qs ++ [q2] = qs2 at hO5
            go_wp2_with fail
            go_roundg (m - (k + 1))
            case measure => go_light; omega
            case rel => go_light; exact ⟨k + 1, A5, c5, qs2, by omega, rfl, by go_num, hO5⟩
          · obtain rfl : k = m := by omega
            have hO' := hO
            rw [show (a.kids.take k).map f = a.kids.map f by rw [← Hm.out, List.take_length]] at hO'
            clear hO
            go_wp2_with fail
            go_ret
            exact ⟨X, rfl, hO'.fin Hnm.out Hnk.out, hO'.bel⟩
namespace Pp
def backTerm (t : List Mk) : List Mk := match termOf t with
  | some a => a.back.marks
  | none => []
def narrowOf (t : List Mk) : List Mk := match termOf t with
  | some a => match a.lens with
    | some (u, v) => (nar a u v).marks
    | none => []
  | none => []
end Pp
set_option maxHeartbeats 2000000 in
theorem backTerm_q (t : List Mk) (A : Option Addr) (b o c B : Nat) (w : World) (hB : B ≤ w.heap.size) (hR : MkR w B b o A t) (hn : t.length ≤ 2000000) :
    Calls Try.prog 23 #[.slice A t.length c] w fun e w' => ∃ A1 c1, e = .returned (.slice A1 (backTerm t).length c1) ∧ OwnM w.heap.size w' (.slice A1 (backTerm t).length c1) (backTerm t) ∧ Below w.heap.size w w' := by
  cases ht : termOf t with
  | none =>
    have hl : backTerm t = [] := by unfold backTerm; rw [ht]
    rw [hl]
    have Ht := hide ht
    clear ht hl
    go_enter Try.func23, Try.ntmps23
    go_wp2_with (go_at_call 39; go_fit (build_no t Ht.out A b o c B w hB hR hn); rintro e w2 ⟨rfl, hb⟩)
    go_ret
    exact ⟨none, 0, rfl, World.ownsRow_nil _ _ _ _, hb⟩
  | some a =>
    have hl : backTerm t = a.back.marks := by unfold backTerm; rw [ht]
    rw [hl]
    obtain ⟨hf, hm, h11⟩ := term_back ht
    have hsz : a.size ≤ 20 := by rw [← Tm.marks_len, hm]; omega
    have hsz2 : a.back.size ≤ 20 := by rw [← Tm.marks_len, (back_steps a).2.2.2, hm]; omega
    obtain ⟨ms, hms⟩ : ∃ ms, a.back.marks = ms := ⟨_, rfl⟩
    have Hms := hide hms
    rw [hms]
    have Ht := hide ht
    clear ht hl hm h11 hms
    go_enter Try.func23, Try.ntmps23
    go_wp2_with (first
      | (go_at_call 39; go_fit (build_yes t Ht.out A b o c B w hB hR hn); rintro e w2 ⟨p, rfl, hP, hb⟩; dsimp only [ptr])
      | (go_at_call 52; go_fit (back_q 20 a hsz (Nat.le_refl _) p _ hP); rintro e w3 ⟨q, rfl, hN, hb3⟩; have hb4 := bthen hb hb3)
      | (go_at_call 41; have hcall := marks_c hsz2 q _ hN.ptr; rw [Hms.out] at hcall; refine hcall.mono ?_; rintro e w5 ⟨A1, c1, rfl, hown, hb5⟩))
    go_ret
    exact ⟨A1, c1, rfl, own_less hown hb4.size, bthen hb4 hb5⟩
set_option maxHeartbeats 2000000 in
theorem narrowedOf_q (t : List Mk) (A : Option Addr) (b o c B : Nat) (w : World) (hB : B ≤ w.heap.size) (hR : MkR w B b o A t) (hn : t.length ≤ 2000000) :
    Calls Try.prog 9 #[.slice A t.length c] w fun e w' => ∃ A1 c1, e = .returned (.tuple #[.slice A1 (narrowOf t).length c1, .bool (lensOf t).isSome]) ∧ OwnM w.heap.size w' (.slice A1 (narrowOf t).length c1) (narrowOf t) ∧ Below w.heap.size w w' := by
  cases hl : lensOf t with
  | none =>
    have hnn : narrowOf t = [] := by
      unfold narrowOf
      unfold lensOf at hl
      cases ht : termOf t with
      | none => rfl
      | some a => rw [ht] at hl; have : a.lens = none := hl; simp [this]
    rw [hnn]
    have Hl := hide hl
    clear hl hnn
    go_enter Try.func9, Try.ntmps9
    go_wp2_with (go_at_call 28; go_fit (lengthsOf_q t A b o c B w hB hR hn); rintro e w2 ⟨rfl, hb⟩; rw [Hl.out]; dsimp only [Option.getD, Option.isSome])
    go_ret2
    exact ⟨none, 0, rfl, World.ownsRow_nil _ _ _ _, hb⟩
  | some uv =>
    obtain ⟨u, v⟩ := uv
    obtain ⟨a, ht, hal⟩ : ∃ a, termOf t = some a ∧ a.lens = some (u, v) := by
      unfold lensOf at hl
      cases ht : termOf t with
      | none => rw [ht] at hl; cases hl
      | some a => rw [ht] at hl; exact ⟨a, rfl, hl⟩
    have hnn : narrowOf t = (nar a u v).marks := by unfold narrowOf; rw [ht]; simp only [hal]
    rw [hnn]
    obtain ⟨hf, hm, h11⟩ := term_back ht
    have hsz : a.size ≤ 20 := by rw [← Tm.marks_len, hm]; omega
    have hsz2 : (nar a u v).size ≤ 20 := by rw [← Tm.marks_len, nar_marks, hm]; omega
    have hsm := lens_small hf hsz hal
    have hcall1 := fun p wq hq => narrowed_q 20 a hsz (Nat.le_refl _) hf u v hal u v ⟨by omega, by omega⟩ ⟨by omega, by omega⟩ p wq hq
    obtain ⟨ms, hms⟩ : ∃ ms, (nar a u v).marks = ms := ⟨_, rfl⟩
    have Hms := hide hms
    rw [hms]
    have Ht := hide ht
    have Hl := hide hl
    have Hc1 := hide hcall1
    clear ht hl hm h11 hms hnn hcall1 hal
    go_enter Try.func9, Try.ntmps9
    go_wp2_with (first
      | (go_at_call 28; go_fit (lengthsOf_q t A b o c B w hB hR hn); rintro e w1 ⟨rfl, hb1⟩; rw [Hl.out]; dsimp only [Option.getD, Option.isSome])
      | (go_at_call 39; go_fit (build_yes t Ht.out A b o c B w1 (Nat.le_trans hB hb1.size) (hR.below (hb1.mono hB)) hn); rintro e w2 ⟨p, rfl, hP, hb⟩; dsimp only [ptr])
      | (go_at_call 40; refine (Hc1.out p _ hP).mono ?_; rintro e w3 ⟨q, rfl, hN, hb3⟩; have hb4 := bthen (bthen hb1 hb) hb3)
      | (go_at_call 41; have hcall := marks_c hsz2 q _ hN.ptr; rw [Hms.out] at hcall; refine hcall.mono ?_; rintro e w5 ⟨A1, c1, rfl, hown, hb5⟩))
    go_ret2
    exact ⟨A1, c1, rfl, own_less hown hb4.size, bthen hb4 hb5⟩
end Go.Proofs.Ytofodhdpppjaoaa
