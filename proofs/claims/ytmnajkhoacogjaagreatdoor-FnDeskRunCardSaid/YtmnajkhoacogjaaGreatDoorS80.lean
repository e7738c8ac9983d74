/-
 spec: l11Ok, TermOk, StepsOf, l11Starts.
 spec: TermOk, StepsOf, l11Starts.
 spec: l12Lengths, LengthsOf.
-/
import Derived.Test.YtmnajkhoacogjaaGreatDoorL82
import Derived.Test.YtmnajkhoacogjaaGreatDoorS1
namespace Go.Proofs.YtmnajkhoacogjaaGreatDoor
set_option linter.unusedVariables false
set_option linter.unusedSimpArgs false
open Go Go.RowKit Pp

def mkOk (m : Mk) : Bool := decide (0 ≤ partsN m)
theorem mkOk_iff (m : Mk) : mkOk m = true ↔ (m.k = 0 ∧ inB m.h 0 19 = true ∧ inB m.l 0 m.h = true) ∨ ((m.k = 1 ∨ m.k = 2) ∧ m.l = 0 ∧ m.h = 0) ∨ (m.k = 3 ∧ m.l = 0 ∧ inB m.h 0 19 = true) := by
 unfold mkOk partsN
 rw [decide_eq_true_eq]
 split
 ·rename_i h; exact ⟨fun _ => .inl h, fun _ => by omega⟩
 ·rename_i h
  split
  ·rename_i h2; exact ⟨fun _ => .inr (.inl h2), fun _ => by omega⟩
  ·rename_i h2
   split
   ·rename_i h3; exact ⟨fun _ => .inr (.inr h3), fun _ => by omega⟩
   ·rename_i h3
    refine ⟨fun x => by omega, fun x => ?_⟩
    rcases x with x | x | x
    ·exact absurd x h
    ·exact absurd x h2
    ·exact absurd x h3
theorem bool_iff {a b : Bool} (h : a = true ↔ b = true) : a = b := by cases a <;> cases b <;> simp_all
theorem mkOk_step (l h : Int) : mkOk ⟨0, l, h⟩ = (inB l 0 h && decide (h ≤ 19)) := bool_iff (by
 rw [mkOk_iff]
 simp [inB]
 omega)
theorem mkOk_wth (l h : Int) : mkOk ⟨3, l, h⟩ = (decide (l = 0) && inB h 0 19) := bool_iff (by
 rw [mkOk_iff]
 simp [inB])
theorem mkOk_two {k l h : Int} (h0 : k ≠ 0) (h3 : k ≠ 3) : mkOk ⟨k, l, h⟩ = (decide (k = 1 ∧ l = 0 ∧ h = 0) || decide (k = 2 ∧ l = 0 ∧ h = 0)) := bool_iff (by
 rw [mkOk_iff]
 simp only [Bool.or_eq_true, decide_eq_true_eq]
 constructor
 ·rintro (x | ⟨x | x, y⟩ | x)
  ·exact absurd x.1 h0
  ·exact .inl ⟨x, y⟩
  ·exact .inr ⟨x, y⟩
  ·exact absurd x.1 h3
 ·rintro (x | x)
  ·exact .inr (.inl ⟨.inl x.1, x.2⟩)
  ·exact .inr (.inl ⟨.inr x.1, x.2⟩))
set_option maxHeartbeats 2000000 in
theorem l11Ok_c (m : Mk) (w : World) : Calls Tryz.prog 115 #[.agg #[.int .i64 m.k, .int .i64 m.l, .int .i64 m.h]] w fun e w' => e = .returned (.bool (mkOk m)) ∧ Below w.heap.size w w' := by
 obtain ⟨k, l, h⟩ := m
 dsimp only
 by_cases k0 : k = 0
 ·subst k0
  obtain ⟨a, ha⟩ : ∃ a, inB l 0 h = a := ⟨_, rfl⟩
  have hR := mkOk_step l h
  rw [ha] at hR
  have HR := hide hR
  have Ha := hide ha
  clear ha hR
  cases a
  ·go_enter Tryz.func115, Tryz.ntmps115
   go_wp2_with (go_at_call 71; refine (l1In_c _ _ _ _).mono ?_; rintro e w' ⟨rfl, rfl⟩; rw [Ha.out])
   go_ret
   exact ⟨by rw [HR.out]; rfl, by go_grown⟩
  ·go_enter Tryz.func115, Tryz.ntmps115
   go_wp2_with (go_at_call 71; refine (l1In_c _ _ _ _).mono ?_; rintro e w' ⟨rfl, rfl⟩; rw [Ha.out])
   go_ret
   exact ⟨by rw [HR.out]; rfl, by go_grown⟩
 ·have k0' : (k == 0) = false := by simpa using k0
  by_cases k3 : k = 3
  ·subst k3
   obtain ⟨a, ha⟩ : ∃ a, inB h 0 19 = a := ⟨_, rfl⟩
   have hR := mkOk_wth l h
   rw [ha] at hR
   have HR := hide hR
   have Ha := hide ha
   clear ha hR
   by_cases hl : l = 0
   ·subst hl
    go_enter Tryz.func115, Tryz.ntmps115
    go_wp2_with (go_at_call 71; refine (l1In_c _ _ _ _).mono ?_; rintro e w' ⟨rfl, rfl⟩; rw [Ha.out])
    go_ret
    exact ⟨by rw [HR.out]; cases a <;> rfl, by go_grown⟩
   ·have hl' : (l == 0) = false := by simpa using hl
    go_enter Tryz.func115, Tryz.ntmps115
    go_wp2_with (go_at_call 71; refine (l1In_c _ _ _ _).mono ?_; rintro e w' ⟨rfl, rfl⟩; rw [Ha.out])
    go_ret
    exact ⟨by rw [HR.out]; simp [hl], by go_grown⟩
  ·have k3' : (k == 3) = false := by simpa using k3
   have HR := hide (mkOk_two (l := l) (h := h) k0 k3)
   clear k0 k3
   by_cases hl : l = 0
   all_goals by_cases hh : h = 0
   all_goals by_cases h1 : k = 1
   all_goals by_cases h2 : k = 2
   all_goals (try (exfalso; omega))
   all_goals (try (have hl' : (l == 0) = false := (by simpa using hl)))
   all_goals (try (have hh' : (h == 0) = false := (by simpa using hh)))
   all_goals (try (have h1' : (k == 1) = false := (by simpa using h1)))
   all_goals (try (have h2' : (k == 2) = false := (by simpa using h2)))
   all_goals (try subst hl)
   all_goals (try subst hh)
   all_goals (try subst h1)
   all_goals (try subst h2)
   all_goals
    go_enter Tryz.func115, Tryz.ntmps115
    go_wp2_with fail
    go_ret
    exact ⟨by rw [HR.out]; simp [*], by go_grown⟩

open Go Go.RowKit Pp

theorem run_step {t : List Mk} {k : Nat} {L : List Tm} {x : Mk} (hx : t[k]? = some x) (h : runM (t.take k) [] = some L.reverse) : runM (t.take (k + 1)) [] = pushM L.reverse x := by
 obtain ⟨hk, rfl⟩ := List.getElem?_eq_some_iff.1 hx
 rw [List.take_succ_eq_append_getElem hk, runM_append, h]
 simp only [Option.bind_some, runM]
 cases pushM L.reverse t[k] <;> rfl
theorem termOk_dead {t : List Mk} {k : Nat} (h : runM (t.take k) [] = none) : termOk t = false := by
 unfold termOk termOf
 rw [run_dead h]
 split <;> rfl
theorem termOk_run {t : List Mk} {L : List Tm} (h : runM t [] = some L.reverse) : termOk t = (decide (L.length = 1) && decide (t.length ≤ 11)) := by
 unfold termOk termOf
 rw [h]
 by_cases h1 : t.length ≤ 11
 ·rw [if_pos h1, decide_eq_true h1, Bool.and_true]
  match L with
  | [] => rfl
  | [a] => rfl
  | a :: b :: L =>
    simp only [List.reverse_cons, List.append_assoc]
    rw [decide_eq_false (by simp)]
    generalize L.reverse = r
    match r with
    | [] => rfl
    | x :: [] => rfl
    | x :: y :: r => rfl
 ·rw [if_neg h1, decide_eq_false h1, Bool.and_false]; rfl
/-- How many parts a fine mark puts together. -/
theorem partsN_of {m : Mk} (h : mkOk m = true) : (m.k = 0 → partsN m = 0) ∧ (m.k = 3 → partsN m = 1) ∧ (m.k ≠ 0 → m.k ≠ 3 → partsN m = 2) := by
 rw [mkOk_iff] at h
 unfold partsN
 rcases h with h | h | h
 ·rw [if_pos h]
  exact ⟨fun _ => rfl, fun x => by have := h.1; omega, fun x => absurd h.1 x⟩
 ·have e : ¬ (m.k = 0 ∧ inB m.h 0 19 = true ∧ inB m.l 0 m.h = true) := by rintro ⟨x, -⟩; rcases h.1 with y | y <;> omega
  rw [if_neg e, if_pos h]
  exact ⟨fun x => by rcases h.1 with y | y <;> omega, fun x => by rcases h.1 with y | y <;> omega, fun _ _ => rfl⟩
 ·have e : ¬ (m.k = 0 ∧ inB m.h 0 19 = true ∧ inB m.l 0 m.h = true) := by rintro ⟨x, -⟩; have := h.1; omega
  have e2 : ¬ ((m.k = 1 ∨ m.k = 2) ∧ m.l = 0 ∧ m.h = 0) := by rintro ⟨x, -⟩; have := h.1; omega
  rw [if_neg e, if_neg e2, if_pos h]
  exact ⟨fun x => by have := h.1; omega, fun _ => rfl, fun _ x => absurd h.1 x⟩
set_option maxHeartbeats 4000000 in
set_option maxRecDepth 100000 in
theorem sTermOk_c (t : List Mk) (A : Option Addr) (b o c B : Nat) (w : World) (hB : B ≤ w.heap.size) (hR : MkR w B b o A t) (hn : t.length ≤ 2000000) :
  Calls Tryz.prog 98 #[.slice A t.length c] w fun e w' => e = .returned (.bool (termOk t)) ∧ Below w.heap.size w w' := by
 have hR0 := hR.more hB
 clear hR hB
 go_enter Tryz.func98, Tryz.ntmps98
 go_wp2_with fail
 go_loopg [3, 4] t.length (fun gh s3 s4 wr => ∃ (k : Nat) (L : List Tm), k ≤ t.length ∧ gh = t.length - k ∧ s4 = .int .i64 k ∧ s3 = .int .i64 L.length ∧ L.length ≤ k ∧ Hid (runM (t.take k) [] = some L.reverse) ∧ Below w.heap.size w wr)
 case atStart => exact ⟨0, [], Nat.zero_le _, rfl, rfl, rfl, Nat.le_refl _, rfl, Below.refl _ _⟩
 case round =>
  obtain ⟨k, L, hk, rfl, rfl, rfl, hLk, HL, hW⟩ := hrel
  by_cases hlt : k < t.length
  ·have hx := List.getElem?_eq_getElem hlt
   have hRr := (hR0.below hW).more hW.size
   obtain rfl := hRr.addr (by omega)
   obtain ⟨d0, d1, d2⟩ := mk_cells hRr hx
   have hlt9 := hRr.lt (by omega)
   generalize t[k] = x at hx d0 d1 d2
   have hst := run_step hx HL.out
   have Hst := hide hst
   have hkz : (k : Int) < (t.length : Int) := by omega
   obtain ⟨q, hq⟩ : ∃ q, mkOk x = q := ⟨_, rfl⟩
   have Hok := hide hq
   clear hx hRr hst
   cases q
   ·have HD : Hid (termOk t = false) := termOk_dead (k := k + 1) (by rw [Hst.out]; exact push_no (.inl (by unfold mkOk at hq; simp at hq; omega)))
    clear hq
    go_wp2_with (go_at_call 115; refine (l11Ok_c x _).mono ?_; rintro e w2 ⟨rfl, hb⟩; rw [Hok.out]; have e0 := ((bcell hb).1 _ _ hlt9).trans d0)
    go_ret
    exact ⟨by rw [HD.out]; rfl, bthen hW hb⟩
   ·obtain ⟨p0, p3, p2⟩ := partsN_of hq
    by_cases k0 : x.k = 0
    ·have hp := p0 k0
     obtain ⟨a, ha, -, -⟩ := push_yes (L := L) (m := x) (n := L.length) (by omega) (by omega)
     have HN : Hid (runM (t.take (k + 1)) [] = some (L.take L.length ++ [a]).reverse) := by rw [Hst.out]; exact ha
     obtain ⟨L2, hL2⟩ : ∃ L2, L.take L.length ++ [a] = L2 := ⟨_, rfl⟩
     have hl2 : L2.length = L.length + 1 := by rw [← hL2]; simp
     rw [hL2] at HN
     have Hl2 := hide hl2
     have k0' : (x.k == 0) = true := by simpa using k0
     clear hp ha hL2 hl2 hq p0 p2 p3 k0
     go_wp2_with (go_at_call 115; refine (l11Ok_c x _).mono ?_; rintro e w2 ⟨rfl, hb⟩; rw [Hok.out]; have e0 := ((bcell hb).1 _ _ hlt9).trans d0)
     go_roundg (t.length - (k + 1))
     case measure => go_light; omega
     case rel => go_light; exact ⟨k + 1, L2, by omega, rfl, by go_num, by rw [Hl2.out]; go_num, by rw [Hl2.out]; omega, HN, bthen hW hb⟩
    ·have k0' : (x.k == 0) = false := by simpa using k0
     by_cases k3 : x.k = 3
     ·have hp := p3 k3
      have k3' : (x.k == 3) = true := by simpa using k3
      by_cases hL1 : L.length < 1
      ·have HD : Hid (termOk t = false) := termOk_dead (k := k + 1) (by rw [Hst.out]; exact push_no (.inr (by omega)))
       have hLz : (L.length : Int) < 1 := by omega
       clear hp hq p0 p2 p3 k0 k3 hL1
       go_wp2_with (go_at_call 115; refine (l11Ok_c x _).mono ?_; rintro e w2 ⟨rfl, hb⟩; rw [Hok.out]; have e0 := ((bcell hb).1 _ _ hlt9).trans d0)
       go_ret
       exact ⟨by rw [HD.out]; rfl, bthen hW hb⟩
      ·obtain ⟨a, ha, -, -⟩ := push_yes (L := L) (m := x) (n := L.length - 1) (by omega) (by omega)
       have HN : Hid (runM (t.take (k + 1)) [] = some (L.take (L.length - 1) ++ [a]).reverse) := by rw [Hst.out]; exact ha
       obtain ⟨L2, hL2⟩ : ∃ L2, L.take (L.length - 1) ++ [a] = L2 := ⟨_, rfl⟩
       have hl2 : L2.length = L.length := by rw [← hL2]; simp; omega
       rw [hL2] at HN
       have Hl2 := hide hl2
       have hLz : ¬ (L.length : Int) < 1 := by omega
       clear hp ha hL2 hl2 hq p0 p2 p3 k0 k3 hL1
       go_wp2_with (go_at_call 115; refine (l11Ok_c x _).mono ?_; rintro e w2 ⟨rfl, hb⟩; rw [Hok.out]; have e0 := ((bcell hb).1 _ _ hlt9).trans d0)
       go_roundg (t.length - (k + 1))
       case measure => go_light; omega
       case rel => go_light; exact ⟨k + 1, L2, by omega, rfl, by go_num, by rw [Hl2.out], by rw [Hl2.out]; omega, HN, bthen hW hb⟩
     ·have k3' : (x.k == 3) = false := by simpa using k3
      have hp := p2 k0 k3
      by_cases hL1 : L.length < 2
      ·have HD : Hid (termOk t = false) := termOk_dead (k := k + 1) (by rw [Hst.out]; exact push_no (.inr (by omega)))
       have hLz : (L.length : Int) < 2 := by omega
       clear hp hq p0 p2 p3 k0 k3 hL1
       go_wp2_with (go_at_call 115; refine (l11Ok_c x _).mono ?_; rintro e w2 ⟨rfl, hb⟩; rw [Hok.out]; have e0 := ((bcell hb).1 _ _ hlt9).trans d0)
       go_ret
       exact ⟨by rw [HD.out]; rfl, bthen hW hb⟩
      ·obtain ⟨a, ha, -, -⟩ := push_yes (L := L) (m := x) (n := L.length - 2) (by omega) (by omega)
       have HN : Hid (runM (t.take (k + 1)) [] = some (L.take (L.length - 2) ++ [a]).reverse) := by rw [Hst.out]; exact ha
       obtain ⟨L2, hL2⟩ : ∃ L2, L.take (L.length - 2) ++ [a] = L2 := ⟨_, rfl⟩
       have hl2 : L2.length + 1 = L.length := by rw [← hL2]; simp; omega
       rw [hL2] at HN
       have hLz : ¬ (L.length : Int) < 2 := by omega
       have Hl2 := hide hl2
       clear hp ha hL2 hl2 hq p0 p2 p3 k0 k3 hL1
       go_wp2_with (go_at_call 115; refine (l11Ok_c x _).mono ?_; rintro e w2 ⟨rfl, hb⟩; rw [Hok.out]; have e0 := ((bcell hb).1 _ _ hlt9).trans d0)
       go_roundg (t.length - (k + 1))
       case measure => go_light; omega
       case rel => go_light; exact ⟨k + 1, L2, by omega, rfl, by go_num, by rw [show (L2.length : Int) = (L.length : Int) - 1 by have := Hl2.out; omega], by have := Hl2.out; omega, HN, bthen hW hb⟩
  ·obtain rfl : k = t.length := by omega
   have hrun : runM t [] = some L.reverse := by have := HL.out; rwa [List.take_length] at this
   have hT := termOk_run hrun
   have HT := hide hT
   clear hT hrun HL
   by_cases h1 : L.length = 1
   ·by_cases h11 : t.length ≤ 11
    ·have HR : Hid (termOk t = true) := by rw [Hid, HT.out, decide_eq_true h1, decide_eq_true h11]; rfl
     have hz1 : ((L.length : Int) == 1) = true := by simp; omega
     have hz2 : (t.length : Int) ≤ 11 := by omega
     clear HT h1
     go_wp2_with fail
     go_ret
     exact ⟨by rw [HR.out]; rfl, hW⟩
    ·have HR : Hid (termOk t = false) := by rw [Hid, HT.out, decide_eq_true h1, decide_eq_false h11]; rfl
     have hz1 : ((L.length : Int) == 1) = true := by simp; omega
     have hz2 : ¬ (t.length : Int) ≤ 11 := by omega
     clear HT h1
     go_wp2_with fail
     go_ret
     exact ⟨by rw [HR.out]; rfl, hW⟩
   ·have HR : Hid (termOk t = false) := by rw [Hid, HT.out, decide_eq_false h1]; rfl
    have hz1 : ((L.length : Int) == 1) = false := by simp; omega
    clear HT h1
    go_wp2_with fail
    go_ret
    exact ⟨by rw [HR.out]; rfl, hW⟩
namespace Pp
theorem sumW_bound : ∀ l : List Mk, -(l.length : Int) ≤ sumW l ∧ sumW l ≤ l.length
 | [] => by simp [sumW]
 | m :: l => by
   have := sumW_bound l
   have h : -1 ≤ wgt m ∧ wgt m ≤ 1 := by unfold wgt; split; omega; split <;> omega
   simp only [sumW, List.length_cons]; omega
/-- What is needed still, with so many marks left. -/
def needN (a : Tm) (j : Nat) : Int := 1 + sumW (a.marks.drop j)
theorem needN_pos {a : Tm} {j : Nat} (hj : 0 < j) (hl : j ≤ a.size) : 0 < needN a j := by
 have h := sumW_back a (a.marks.take j) (a.marks.drop j) (List.take_append_drop j a.marks).symm (by
  intro e
  have h1 : (a.marks.take j).length = 0 := by rw [e]; rfl
  rw [List.length_take, Tm.marks_len] at h1
  omega)
 unfold needN; omega
theorem needN_zero (a : Tm) : needN a 0 = 0 := by unfold needN; rw [List.drop_zero, sumW_marks]; rfl
theorem needN_all (a : Tm) : needN a a.size = 1 := by unfold needN; rw [List.drop_eq_nil_of_le (by rw [Tm.marks_len]; exact Nat.le_refl _)]; rfl
theorem needN_step {a : Tm} {j : Nat} {x : Mk} (h : a.marks[j]? = some x) : needN a j = needN a (j + 1) + wgt x := by
 obtain ⟨hj, rfl⟩ := List.getElem?_eq_some_iff.1 h
 unfold needN
 rw [List.drop_eq_getElem_cons hj]
 simp only [sumW]; omega
theorem needN_bound (a : Tm) (j : Nat) : -(a.size : Int) ≤ needN a j ∧ needN a j ≤ 1 + a.size := by
 have h := sumW_bound (a.marks.drop j)
 have h2 : (a.marks.drop j).length ≤ a.size := by rw [List.length_drop, Tm.marks_len]; omega
 unfold needN; omega
end Pp
set_option maxHeartbeats 2000000 in
theorem l11Starts_c (a : Tm) (t : List Mk) (pl : Nat) (ht : ∀ j x, a.marks[j]? = some x → t[pl + j]? = some x) (hs : a.size ≤ 20) (e : Int) (he : e = (pl : Int) + a.size - 1) (A : Option Addr) (b o c B : Nat) (w : World) (hB : B ≤ w.heap.size) (hR : MkR w B b o A t) (hn : t.length ≤ 2000000) :
  Calls Tryz.prog 117 #[.slice A t.length c, .int .i64 e] w fun en w' => en = .returned (.int .i64 (pl : Int)) ∧ w' = w := by
 have Ht := hide ht
 have hpos : 0 < a.size := by cases a <;> simp [Tm.size]
 obtain ⟨N, hN⟩ : ∃ N, a.size = N := ⟨_, rfl⟩
 have hpl : pl + N ≤ t.length := by
  obtain ⟨x, hx⟩ : ∃ x, a.marks[a.size - 1]? = some x := ⟨_, List.getElem?_eq_getElem (by rw [Tm.marks_len]; omega)⟩
  have := (List.getElem?_eq_some_iff.1 (ht _ _ hx)).1
  omega
 rw [hN] at he hpos hs
 have HN := hide hN
 have hAd : A = some ⟨b, o, none⟩ := hR.addr (by omega)
 subst hAd
 have hn1 := needN_all a
 rw [hN] at hn1
 have Hn1 := hide hn1
 clear ht hN hn1
 go_enter Tryz.func117, Tryz.ntmps117
 go_wp2_with fail
 go_loopg [5, 6] (N + 1) (fun gh s5 s6 wr => ∃ (j : Nat) (v : Int), j ≤ N ∧ gh = j + 1 ∧ s6 = .int .i64 ((pl : Int) + j - 1) ∧ s5 = .int .i64 v ∧ Hid (needN a j = v) ∧ wr = w)
 case atStart => exact ⟨N, 1, Nat.le_refl _, rfl, by rw [he], rfl, Hn1.out, rfl⟩
 case round =>
  clear he
  obtain ⟨j, v, hj, rfl, rfl, rfl, Hv, rfl⟩ := hrel
  have hvb := needN_bound a j
  rw [Hv.out, HN.out] at hvb
  cases j with
  | zero =>
    have hv0 : ¬ 0 < v := by have := needN_zero a; rw [Hv.out] at this; omega
    have hw : IntKind.i64.wrap ((pl : Int) + ((0 : Nat) : Int) - 1 + 1) = (pl : Int) := by rw [IntWalk.i64_in _ (by omega)]; omega
    go_wp2_with fail
    go_ret
    exact ⟨rfl, rfl⟩
  | succ j =>
    have hv0 : 0 < v := by have := needN_pos (a := a) (j := j + 1) (by omega) (by rw [HN.out]; exact hj); rw [Hv.out] at this; omega
    have hx : a.marks[j]? = some (a.marks[j]'(by rw [Tm.marks_len, HN.out]; omega)) := List.getElem?_eq_getElem _
    have hst := needN_step hx
    have htx := Ht.out _ _ hx
    obtain ⟨d0, d1, d2⟩ := mk_cells hR htx
    generalize a.marks[j]'(by rw [Tm.marks_len, HN.out]; omega) = x at hx hst htx d0 d1 d2
    rw [Hv.out] at hst
    have Hst := hide hst
    have hjt : pl + j < t.length := by omega
    have hjz : ((pl + j : Nat) : Int) < (t.length : Int) := by omega
    have ej : (pl : Int) + ((j + 1 : Nat) : Int) - 1 = ((pl + j : Nat) : Int) := by omega
    rw [ej]
    have hw1 : IntKind.i64.wrap (((pl + j : Nat) : Int) - 1) = (pl : Int) + (j : Int) - 1 := by rw [IntWalk.i64_in _ (by omega)]; omega
    clear hx htx hst ej d1 d2
    by_cases k0 : x.k = 0
    ·have hv1 : IntKind.i64.wrap (v - 1) = v - 1 := IntWalk.i64_in _ (by omega)
     have Hv1 : Hid (needN a j = v - 1) := by rw [Hid, Hst.out]; unfold wgt; rw [if_pos k0]; omega
     have k0' : (x.k == 0) = true := by simpa using k0
     clear k0
     go_wp2_with fail
     go_roundg (j + 1)
     case measure => go_light; omega
     case rel => go_light; exact ⟨j, v - 1, by omega, rfl, by first | rfl | go_num, rfl, Hv1, rfl⟩
    ·have k0' : (x.k == 0) = false := by simpa using k0
     by_cases k3 : x.k = 3
     ·have Hv1 : Hid (needN a j = v) := by rw [Hid, Hst.out]; unfold wgt; rw [if_neg k0, if_pos k3]; omega
      have k3' : (x.k == 3) = true := by simpa using k3
      clear k0 k3
      go_wp2_with fail
      go_roundg (j + 1)
      case measure => go_light; omega
      case rel => go_light; exact ⟨j, v, by omega, rfl, by first | rfl | go_num, rfl, Hv1, rfl⟩
     ·have hv1 : IntKind.i64.wrap (v + 1) = v + 1 := IntWalk.i64_in _ (by omega)
      have Hv1 : Hid (needN a j = v + 1) := by rw [Hid, Hst.out]; unfold wgt; rw [if_neg k0, if_neg k3]
      have k3' : (x.k == 3) = false := by simpa using k3
      clear k0 k3
      go_wp2_with fail
      go_roundg (j + 1)
      case measure => go_light; omega
      case rel => go_light; exact ⟨j, v + 1, by omega, rfl, by first | rfl | go_num, rfl, Hv1, rfl⟩

/-- A part in a row of marks: its last mark, and what lies before it. -/
theorem mk_app {w : World} {B b o : Nat} {A : Option Addr} {t1 t2 : List Mk} (h : MkR w B b o A (t1 ++ t2)) : MkR w B b o A t1 ∧ MkR w B b (o + t1.length * 3) (some ⟨b, o + t1.length * 3, none⟩) t2 := by
 have h1 := h.take t1.length
 have h2 := h.drop t1.length (A' := some ⟨b, o + t1.length * 3, none⟩) (fun _ => rfl)
 rw [List.take_left] at h1
 rw [List.drop_left] at h2
 exact ⟨h1, h2⟩
theorem mk_end {w : World} {B b o : Nat} {A : Option Addr} {t1 : List Mk} {m : Mk} (h : MkR w B b o A (t1 ++ [m])) :
  A = some ⟨b, o, none⟩ ∧ b < B ∧ w.cell? ⟨b, o + t1.length * 3, none⟩ = some (.int .i64 m.k) ∧ w.cell? ⟨b, o + t1.length * 3 + 1, none⟩ = some (.int .i64 m.l) ∧ w.cell? ⟨b, o + t1.length * 3 + 2, none⟩ = some (.int .i64 m.h) := by
 have hx : (t1 ++ [m])[t1.length]? = some m := by simp
 exact ⟨h.addr (by simp), h.lt (by simp), mk_cells h hx⟩

theorem lenV_dec {x y : Int} {o : Option (Int × Int)} {p : Prop} [Decidable p] (h : o = if p then some (x, y) else none) : LenV o (.tuple #[.int .i64 x, .int .i64 y, .bool (decide p)]) := by
 by_cases h1 : p
 ·rw [if_pos h1] at h; rw [decide_eq_true h1]; exact lenV_yes h
 ·rw [if_neg h1] at h; rw [decide_eq_false h1]; exact lenV_no _ _ h
def lens2thn (x y u v : Int) : Option (Int × Int) := some (x + u, y + v)
def lens2bth (x y u v : Int) : Option (Int × Int) := if max x u ≤ min y v then some (max x u, min y v) else none
end Go.Proofs.YtmnajkhoacogjaaGreatDoor
