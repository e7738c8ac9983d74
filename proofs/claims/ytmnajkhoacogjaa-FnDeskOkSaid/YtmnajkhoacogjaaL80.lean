/-
  impl: the parts of a mark, slices.Clone of parts, build.
  impl: build.
-/
import Derived.Test.YtmnajkhoacogjaaR70
import Derived.Test.YtmnajkhoacogjaaL1
import Derived.Test.YtmnajkhoacogjaaZ1
import Derived.Test.YtmnajkhoacogjaaL11a
import Derived.Lib.SliceRun
import Derived.Deep.CutBlock
namespace Go.Proofs.Ytmnajkhoacogjaa
set_option linter.unusedVariables false
set_option linter.unusedSimpArgs false
open Go Go.RowKit Pp

def partsN (m : Mk) : Int :=
  if m.k = 0 ∧ inB m.h 0 19 = true ∧ inB m.l 0 m.h = true then 0
  else if (m.k = 1 ∨ m.k = 2) ∧ m.l = 0 ∧ m.h = 0 then 2
  else if m.k = 3 ∧ m.l = 0 ∧ inB m.h 0 19 = true then 1 else -1
theorem ptr_one (qs : List Nat) : ∀ u ∈ qs.map ptr, u.oneCell' = true := by
  intro u hu
  obtain ⟨n, _, rfl⟩ := List.mem_map.1 hu
  rfl
theorem parts_le (m : Mk) : -1 ≤ partsN m ∧ partsN m ≤ 2 := by
  unfold partsN
  split
  · omega
  · split
    · omega
    · split <;> omega
/-- One mark, in the order of the program's stack. -/
theorem push_no {L : List Tm} {m : Mk} (h : partsN m < 0 ∨ (L.length : Int) - partsN m < 0) : pushM L.reverse m = none := by
  obtain ⟨R, rfl⟩ : ∃ R : List Tm, L = R.reverse := ⟨L.reverse, by simp⟩
  rw [List.reverse_reverse]
  rw [List.length_reverse] at h
  obtain ⟨k, l, u⟩ := m
  unfold partsN at h
  unfold pushM
  simp only [inB, Bool.and_eq_true, decide_eq_true_eq] at h ⊢
  by_cases k0 : k = 0
  · subst k0
    rw [if_pos rfl]
    by_cases hc : 0 ≤ l ∧ l ≤ u ∧ u ≤ 19
    · rw [if_pos ⟨rfl, by omega, by omega⟩] at h; omega
    · rw [if_neg hc]
  · rw [if_neg k0]
    rw [if_neg (fun h => k0 h.1)] at h
    by_cases k3 : k = 3
    · subst k3
      rw [if_pos rfl]
      rw [if_neg (by rintro ⟨h1, -⟩; omega)] at h
      by_cases hc : l = 0 ∧ 0 ≤ u ∧ u ≤ 19
      · rw [if_pos ⟨rfl, hc.1, by omega, by omega⟩] at h
        rw [if_pos hc]
        cases R with
        | nil => rfl
        | cons a R => simp at h; omega
      · rw [if_neg hc]
    · rw [if_neg k3]
      by_cases hc : l = 0 ∧ u = 0
      · by_cases k1 : k = 1
        · subst k1
          rw [if_pos ⟨.inl rfl, hc⟩] at h
          rw [if_pos rfl, if_pos hc]
          match R, h with
          | [], _ => rfl
          | [a], _ => rfl
          | a :: b :: R, h => simp at h; omega
        · rw [if_neg k1]
          by_cases k2 : k = 2
          · subst k2
            rw [if_pos ⟨.inr rfl, hc⟩] at h
            rw [if_pos rfl, if_pos hc]
            match R, h with
            | [], _ => rfl
            | [a], _ => rfl
            | a :: b :: R, h => simp at h; omega
          · rw [if_neg k2]
      · by_cases k1 : k = 1
        · rw [if_pos k1, if_neg hc]
        · rw [if_neg k1]
          by_cases k2 : k = 2
          · rw [if_pos k2, if_neg hc]
          · rw [if_neg k2]
theorem push_yes {L : List Tm} {m : Mk} {n : Nat} (h0 : 0 ≤ partsN m) (hn : (L.length : Int) - partsN m = n) : ∃ a : Tm, pushM L.reverse m = some (L.take n ++ [a]).reverse ∧ a.mark = m ∧ a.kids = L.drop n := by
  obtain ⟨R, rfl⟩ : ∃ R : List Tm, L = R.reverse := ⟨L.reverse, by simp⟩
  rw [List.reverse_reverse]
  rw [List.length_reverse] at hn
  obtain ⟨k, l, u⟩ := m
  unfold partsN at h0 hn
  unfold pushM
  simp only [inB, Bool.and_eq_true, decide_eq_true_eq] at h0 hn ⊢
  by_cases k0 : k = 0 ∧ (0 ≤ u ∧ u ≤ 19) ∧ 0 ≤ l ∧ l ≤ u
  · rw [if_pos k0] at h0 hn
    obtain ⟨rfl, h1, h2⟩ := k0
    obtain rfl : n = R.length := by omega
    rw [if_pos rfl, if_pos ⟨by omega, by omega, by omega⟩]
    refine ⟨.step l u, ?_, rfl, ?_⟩
    · rw [List.take_of_length_le (by simp)]; simp
    · rw [List.drop_eq_nil_of_le (by simp)]; rfl
  · rw [if_neg k0] at h0 hn
    by_cases k12 : (k = 1 ∨ k = 2) ∧ l = 0 ∧ u = 0
    · rw [if_pos k12] at h0 hn
      obtain ⟨k12, rfl, rfl⟩ := k12
      match R, hn with
      | [], hn => simp at hn <;> omega
      | [a], hn => simp at hn <;> omega
      | b :: a :: R, hn =>
        obtain rfl : n = R.reverse.length := by simp at hn ⊢ <;> omega
        have e1 : (b :: a :: R).reverse = R.reverse ++ [a, b] := by simp
        rw [e1, List.take_left, List.drop_left]
        rcases k12 with rfl | rfl
        · exact ⟨.thn a b, by simp, rfl, rfl⟩
        · exact ⟨.bth a b, by simp, rfl, rfl⟩
    · rw [if_neg k12] at h0 hn
      by_cases k3 : k = 3 ∧ l = 0 ∧ 0 ≤ u ∧ u ≤ 19
      · rw [if_pos k3] at h0 hn
        obtain ⟨rfl, rfl, hc⟩ := k3
        match R, hn with
        | [], hn => simp at hn <;> omega
        | a :: R, hn =>
          obtain rfl : n = R.reverse.length := by simp at hn ⊢ <;> omega
          have e1 : (a :: R).reverse = R.reverse ++ [a] := by simp
          rw [e1, List.take_left, List.drop_left]
          rw [if_neg (by omega), if_pos rfl, if_pos ⟨rfl, hc⟩]
          exact ⟨.wth a u, by simp, rfl, rfl⟩
      · rw [if_neg k3] at h0; omega

theorem own_len (A : Option Addr) (n m c c' : Nat) : (Value.slice A n c).ownBlock = (Value.slice A m c').ownBlock := by cases A <;> rfl
theorem CsR.drop1 {w : World} {B b o : Nat} {A A' : Option Addr} {qs : List Nat} (h : CsR w B b o A qs.length (qs.map ptr)) (n : Nat) (hA : n < qs.length → A' = some ⟨b, o + n, Option.none⟩) : CsR w B b (o + n) A' (qs.drop n).length ((qs.drop n).map ptr) := by
  have hl : (qs.drop n).length = qs.length - n := List.length_drop
  refine ⟨fun hx => hA (by omega), fun hx => h.lt (by omega), fun j u hu => ?_, fun h0 => by rw [List.eq_nil_of_length_eq_zero h0]; rfl⟩
  rw [List.map_drop, List.getElem?_drop] at hu
  have := h.cell _ u hu
  rwa [← Nat.add_assoc] at this
theorem own_take1 {base : Nat} {w : World} {e : TypeId} {A : Option Addr} {c n : Nat} {qs : List Nat} (h : w.ownsRow base e 1 (.slice A qs.length c) qs.length (qs.map ptr)) (hn : n ≤ qs.length) : w.ownsRow base e 1 (.slice A n c) n ((qs.take n).map ptr) := by
  rcases h.2 with ⟨hv, hx⟩ | ⟨g, cap, cur, hv, _⟩
  · injection hv with e1 e2 e3
    subst e1; subst e3
    obtain rfl : n = 0 := by omega
    simpa using World.ownsRow_nil w base e 1
  · injection hv with e1 e2 e3
    subst e1
    obtain ⟨f, hf, hxx, hb, hnc, hcm⟩ := own_row h
    refine row_own hf (fun j hj => ?_) (by simp; omega) hb (by omega) hcm
    rw [List.map_take, List.getElem?_take, if_pos (by omega)]
    exact hxx j (by omega)
/-- What build hands back. -/
def Built (w : World) (o : Option Tm) (v : Value) : Prop := match o with
  | none => v = .pointer none
  | some a => ∃ p, v = ptr p ∧ PtR w w.heap.size a p
theorem run_dead {t : List Mk} {k : Nat} (h : runM (t.take k) [] = none) : runM t [] = none := by
  rw [← List.take_append_drop k t, runM_append, h]; rfl

/-- A mark in a box. -/
structure MB (W : World) (V : Nat) (x : Mk) : Prop where
  ex : V < W.heap.size
  c0 : W.cell? ⟨V, 0, none⟩ = some (.int .i64 x.k)
  c1 : W.cell? ⟨V, 1, none⟩ = some (.int .i64 x.l)
  c2 : W.cell? ⟨V, 2, none⟩ = some (.int .i64 x.h)
theorem MB.below {W W' : World} {V : Nat} {x : Mk} (h : MB W V x) (hb : Below W.heap.size W W') : MB W' V x :=
  ⟨Nat.lt_of_lt_of_le h.ex hb.size, ((bcell hb).1 _ _ h.ex).trans h.c0, ((bcell hb).1 _ _ h.ex).trans h.c1, ((bcell hb).1 _ _ h.ex).trans h.c2⟩
theorem mb_new (W : World) (x : Mk) (t : TypeId) : MB (W.alloc (.cells #[.int .i64 x.k, .int .i64 x.l, .int .i64 x.h] t)) W.heap.size x :=
  ⟨by simp, by simp [go_sem], by simp [go_sem], by simp [go_sem]⟩

end Go.Proofs.Ytmnajkhoacogjaa
