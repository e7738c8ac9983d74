/-
  impl: how long a part may last.
-/
import Derived.Test.YtofodhdpppjaoaaL81
namespace Go.Proofs.Ytofodhdpppjaoaa
set_option linter.unusedVariables false
set_option linter.unusedSimpArgs false
open Go Go.RowKit Pp

theorem bel_drewN (w : World) (n : Nat) : Below w.heap.size w (w.drewN n) := ⟨rfl, rfl, rfl, Nat.le_refl _, fun _ _ => rfl⟩
theorem lens_small {a : Tm} {u v : Int} (hf : a.fine) (hs : a.size ≤ 20) (hl : a.lens = some (u, v)) : 0 ≤ u ∧ u ≤ v ∧ v ≤ 400 := by
  have h := lens_le hf hl
  have h2 : ∀ a : Tm, a.steps ≤ a.size := fun a => by
    induction a with
    | step l h => simp [Tm.steps, Tm.size]
    | wth a h ih => simp only [Tm.steps, Tm.size]; omega
    | thn a b iha ihb => simp only [Tm.steps, Tm.size]; omega
    | bth a b iha ihb => simp only [Tm.steps, Tm.size]; omega
  have := h2 a
  omega
/-- What is told of the lengths. -/
def LenV (o : Option (Int × Int)) (v : Value) : Prop := ∃ x y, v = .tuple #[.int .i64 x, .int .i64 y, .bool o.isSome] ∧ ∀ u v, o = some (u, v) → x = u ∧ y = v
theorem lenV_no (x y : Int) {o : Option (Int × Int)} (h : o = none) : LenV o (.tuple #[.int .i64 x, .int .i64 y, .bool false]) := by subst h; exact ⟨x, y, rfl, fun u v h => by cases h⟩
theorem lenV_yes {x y : Int} {o : Option (Int × Int)} (h : o = some (x, y)) : LenV o (.tuple #[.int .i64 x, .int .i64 y, .bool true]) := by subst h; exact ⟨x, y, rfl, fun u v h => by injection h with h; injection h with h1 h2; exact ⟨h1, h2⟩⟩
theorem lenV_if {x y : Int} {o : Option (Int × Int)} (h : o = if x ≤ y then some (x, y) else none) : LenV o (.tuple #[.int .i64 x, .int .i64 y, .bool (decide (x ≤ y))]) := by
  by_cases h1 : x ≤ y
  · rw [if_pos h1] at h; rw [decide_eq_true h1]; exact lenV_yes h
  · rw [if_neg h1] at h; rw [decide_eq_false h1]; exact lenV_no _ _ h

set_option maxHeartbeats 4000000 in
set_option maxRecDepth 100000 in
theorem lengths_q : ∀ (a : Tm) (p : Nat) (w : World), a.fine → a.size ≤ 20 → PtR w w.heap.size a p →
    Calls Try.prog 60 #[.pointer (some ⟨p, 0, none⟩)] w fun e w' => ∃ v, e = .returned v ∧ LenV a.lens v ∧ Below w.heap.size w w' := by
  intro a
  induction a with
  | step l h =>
    intro p w hf hs hP
    obtain ⟨A, c, ⟨hat, c0, c1, c2, c3⟩⟩ := hP
    dsimp only at c0 c1 c2
    go_enter Try.func60, Try.ntmps60
    go_upto_region 2 with fail
    go_region
    go_wp2_with fail
    go_ret3
    exact ⟨_, rfl, lenV_yes rfl, by go_grown⟩
  | wth a h ih0 =>
    intro p w hf hs hP
    obtain ⟨A, c, b, o, q, ⟨hat, c0, c1, c2, c3⟩, rfl, hbS, hq, hP0⟩ := hP
    dsimp only at c0 c1 c2
    dsimp only [ptr] at hq
    obtain ⟨hf0, hh1, hh2⟩ := hf
    have Hl : Hid ((Tm.wth a h).lens = match a.lens with | some (x, y) => if x ≤ h then some (x, min y h) else none | none => none) := rfl
    cases hl : a.lens with
    | none =>
      have Hr : Hid ((Tm.wth a h).lens = none) := by rw [Hid, Hl.out, hl]
      have Ha0 := hide hl
      clear hl Hl
      go_enter Try.func60, Try.ntmps60
      go_wp2_with ((go_at_call 60; go_fit (ih0 _ w hf0 (by have := hs; simp only [Tm.size] at this; omega) hP0); rintro e w2 ⟨v0, rfl, ⟨x0, y0, rfl, hxy0⟩, hb0⟩; rw [Ha0.out]))
      go_ret3
      exact ⟨_, rfl, lenV_no _ _ Hr.out, hb0⟩
    | some uv =>
      obtain ⟨u, v⟩ := uv
      have hsm := lens_small hf0 (by simp only [Tm.size] at hs; omega) hl
      obtain ⟨m, hm⟩ : ∃ m, min v h = m := ⟨_, rfl⟩
      have Hr : Hid ((Tm.wth a h).lens = if u ≤ m then some (u, m) else none) := by
        rw [Hid, Hl.out, hl]
        dsimp only
        by_cases h1 : u ≤ h
        · rw [if_pos h1, hm, if_pos (by omega)]
        · rw [if_neg h1, if_neg (by omega)]
      have Ha0 := hide hl
      have hm1 : (if h < v then h else v) = m := by rw [← hm]; split <;> omega
      clear hl Hl hm
      go_enter Try.func60, Try.ntmps60
      go_wp2_with ((go_at_call 60; go_fit (ih0 _ w hf0 (by have := hs; simp only [Tm.size] at this; omega) hP0); rintro e w2 ⟨v0, rfl, ⟨x0, y0, rfl, hxy0⟩, hb0⟩; rw [Ha0.out]) ; obtain ⟨rfl, rfl⟩ := hxy0 _ _ Ha0.out; have e0 := ((bcell hb0).1 _ _ hat).trans c0; have e2 := ((bcell hb0).1 _ _ hat).trans c2; have e3 := ((bcell hb0).1 _ _ hat).trans c3)
      go_ret3
      exact ⟨_, rfl, lenV_if Hr.out, hb0⟩
  | thn a b ih0 ih1 =>
    intro p w hf hs hP
    obtain ⟨A, c, bb, o, q, q', ⟨hat, c0, c1, c2, c3⟩, rfl, hbS, hq, hq', hP0, hP1⟩ := hP
    dsimp only at c0 c1 c2
    dsimp only [ptr] at hq hq'
    obtain ⟨hf0, hf1⟩ := hf
    have Hl : Hid ((Tm.thn a b).lens = match a.lens, b.lens with | some (x, y), some (u, v) => some (x + u, y + v) | _, _ => none) := rfl
    cases hl : a.lens with
    | none =>
      have Hr : Hid ((Tm.thn a b).lens = none) := by rw [Hid, Hl.out, hl]
      have Ha0 := hide hl
      clear hl Hl
      go_enter Try.func60, Try.ntmps60
      go_wp2_with ((go_at_call 60; go_fit (ih0 _ w hf0 (by have := hs; simp only [Tm.size] at this; omega) hP0); rintro e w2 ⟨v0, rfl, ⟨x0, y0, rfl, hxy0⟩, hb0⟩; rw [Ha0.out]))
      go_ret3
      exact ⟨_, rfl, lenV_no _ _ Hr.out, hb0⟩
    | some uv =>
      obtain ⟨u, v⟩ := uv
      have hsm := lens_small hf0 (by simp only [Tm.size] at hs; omega) hl
      have Ha0 := hide hl
      cases hl1 : b.lens with
      | none =>
        have Hr : Hid ((Tm.thn a b).lens = none) := by rw [Hid, Hl.out, hl, hl1]
        have Ha1 := hide hl1
        clear hl Hl hl1
        go_enter Try.func60, Try.ntmps60
        go_upto_region 9 with ((go_at_call 60; go_fit (ih0 _ w hf0 (by have := hs; simp only [Tm.size] at this; omega) hP0); rintro e w2 ⟨v0, rfl, ⟨x0, y0, rfl, hxy0⟩, hb0⟩; rw [Ha0.out]) ; obtain ⟨rfl, rfl⟩ := hxy0 _ _ Ha0.out; have e0 := ((bcell hb0).1 _ _ hat).trans c0; have e2 := ((bcell hb0).1 _ _ hat).trans c2; have e3 := ((bcell hb0).1 _ _ hat).trans c3)
        have k1 := ((bcell hb0).1 _ _ hbS).trans hq'
        replace hP1 := PtR.next hP1 hb0
        go_wp2_with ((go_at_call 60; go_fit (ih1 _ w2 hf1 (by have := hs; simp only [Tm.size] at this; omega) hP1); rintro e w3 ⟨v1, rfl, ⟨x1, y1, rfl, hxy1⟩, hb1⟩; rw [Ha1.out]))
        go_ret3
        exact ⟨_, rfl, lenV_no _ _ Hr.out, bthen hb0 hb1⟩
      | some uv1 =>
        obtain ⟨u1, v1⟩ := uv1
        have hsm1 := lens_small hf1 (by simp only [Tm.size] at hs; omega) hl1
        have Hr : Hid ((Tm.thn a b).lens = some (u + u1, v + v1)) := by rw [Hid, Hl.out, hl, hl1]
        have Ha1 := hide hl1
        have hw1 : IntKind.i64.wrap (u + u1) = u + u1 := IntWalk.i64_in _ (by omega)
        have hw2 : IntKind.i64.wrap (v + v1) = v + v1 := IntWalk.i64_in _ (by omega)
        clear hl Hl hl1
        go_enter Try.func60, Try.ntmps60
        go_upto_region 9 with ((go_at_call 60; go_fit (ih0 _ w hf0 (by have := hs; simp only [Tm.size] at this; omega) hP0); rintro e w2 ⟨v0, rfl, ⟨x0, y0, rfl, hxy0⟩, hb0⟩; rw [Ha0.out]) ; obtain ⟨rfl, rfl⟩ := hxy0 _ _ Ha0.out; have e0 := ((bcell hb0).1 _ _ hat).trans c0; have e2 := ((bcell hb0).1 _ _ hat).trans c2; have e3 := ((bcell hb0).1 _ _ hat).trans c3)
        have k1 := ((bcell hb0).1 _ _ hbS).trans hq'
        replace hP1 := PtR.next hP1 hb0
        go_wp2_with ((go_at_call 60; go_fit (ih1 _ w2 hf1 (by have := hs; simp only [Tm.size] at this; omega) hP1); rintro e w3 ⟨v1, rfl, ⟨x1, y1, rfl, hxy1⟩, hb1⟩; rw [Ha1.out]) ; obtain ⟨rfl, rfl⟩ := hxy1 _ _ Ha1.out; have f0 := ((bcell hb1).1 _ _ (Nat.lt_of_lt_of_le hat hb0.size)).trans e0)
        go_ret3
        exact ⟨_, rfl, lenV_yes Hr.out, bthen hb0 hb1⟩
  | bth a b ih0 ih1 =>
    intro p w hf hs hP
    obtain ⟨A, c, bb, o, q, q', ⟨hat, c0, c1, c2, c3⟩, rfl, hbS, hq, hq', hP0, hP1⟩ := hP
    dsimp only at c0 c1 c2
    dsimp only [ptr] at hq hq'
    obtain ⟨hf0, hf1⟩ := hf
    have Hl : Hid ((Tm.bth a b).lens = match a.lens, b.lens with | some (x, y), some (u, v) => if max x u ≤ min y v then some (max x u, min y v) else none | _, _ => none) := rfl
    cases hl : a.lens with
    | none =>
      have Hr : Hid ((Tm.bth a b).lens = none) := by rw [Hid, Hl.out, hl]
      have Ha0 := hide hl
      clear hl Hl
      go_enter Try.func60, Try.ntmps60
      go_wp2_with ((go_at_call 60; go_fit (ih0 _ w hf0 (by have := hs; simp only [Tm.size] at this; omega) hP0); rintro e w2 ⟨v0, rfl, ⟨x0, y0, rfl, hxy0⟩, hb0⟩; rw [Ha0.out]))
      go_ret3
      exact ⟨_, rfl, lenV_no _ _ Hr.out, hb0⟩
    | some uv =>
      obtain ⟨u, v⟩ := uv
      have hsm := lens_small hf0 (by simp only [Tm.size] at hs; omega) hl
      have Ha0 := hide hl
      cases hl1 : b.lens with
      | none =>
        have Hr : Hid ((Tm.bth a b).lens = none) := by rw [Hid, Hl.out, hl, hl1]
        have Ha1 := hide hl1
        clear hl Hl hl1
        go_enter Try.func60, Try.ntmps60
        go_upto_region 9 with ((go_at_call 60; go_fit (ih0 _ w hf0 (by have := hs; simp only [Tm.size] at this; omega) hP0); rintro e w2 ⟨v0, rfl, ⟨x0, y0, rfl, hxy0⟩, hb0⟩; rw [Ha0.out]) ; obtain ⟨rfl, rfl⟩ := hxy0 _ _ Ha0.out; have e0 := ((bcell hb0).1 _ _ hat).trans c0; have e2 := ((bcell hb0).1 _ _ hat).trans c2; have e3 := ((bcell hb0).1 _ _ hat).trans c3)
        have k1 := ((bcell hb0).1 _ _ hbS).trans hq'
        replace hP1 := PtR.next hP1 hb0
        go_wp2_with ((go_at_call 60; go_fit (ih1 _ w2 hf1 (by have := hs; simp only [Tm.size] at this; omega) hP1); rintro e w3 ⟨v1, rfl, ⟨x1, y1, rfl, hxy1⟩, hb1⟩; rw [Ha1.out]))
        go_ret3
        exact ⟨_, rfl, lenV_no _ _ Hr.out, bthen hb0 hb1⟩
      | some uv1 =>
        obtain ⟨u1, v1⟩ := uv1
        have hsm1 := lens_small hf1 (by simp only [Tm.size] at hs; omega) hl1
        obtain ⟨X, hX⟩ : ∃ X, max u u1 = X := ⟨_, rfl⟩
        obtain ⟨Y, hY⟩ : ∃ Y, min v v1 = Y := ⟨_, rfl⟩
        have Hr : Hid ((Tm.bth a b).lens = if X ≤ Y then some (X, Y) else none) := by rw [Hid, Hl.out, hl, hl1, ← hX, ← hY]
        have Ha1 := hide hl1
        have hx1 : (if u < u1 then u1 else u) = X := by rw [← hX]; split <;> omega
        have hy1 : (if v1 < v then v1 else v) = Y := by rw [← hY]; split <;> omega
        clear hl Hl hl1 hX hY
        go_enter Try.func60, Try.ntmps60
        go_upto_region 9 with ((go_at_call 60; go_fit (ih0 _ w hf0 (by have := hs; simp only [Tm.size] at this; omega) hP0); rintro e w2 ⟨v0, rfl, ⟨x0, y0, rfl, hxy0⟩, hb0⟩; rw [Ha0.out]) ; obtain ⟨rfl, rfl⟩ := hxy0 _ _ Ha0.out; have e0 := ((bcell hb0).1 _ _ hat).trans c0; have e2 := ((bcell hb0).1 _ _ hat).trans c2; have e3 := ((bcell hb0).1 _ _ hat).trans c3)
        have k1 := ((bcell hb0).1 _ _ hbS).trans hq'
        replace hP1 := PtR.next hP1 hb0
        go_wp2_with ((go_at_call 60; go_fit (ih1 _ w2 hf1 (by have := hs; simp only [Tm.size] at this; omega) hP1); rintro e w3 ⟨v1, rfl, ⟨x1, y1, rfl, hxy1⟩, hb1⟩; rw [Ha1.out]) ; obtain ⟨rfl, rfl⟩ := hxy1 _ _ Ha1.out; have f0 := ((bcell hb1).1 _ _ (Nat.lt_of_lt_of_le hat hb0.size)).trans e0)
        go_ret3
        exact ⟨_, rfl, lenV_if Hr.out, bthen hb0 hb1⟩
end Go.Proofs.Ytofodhdpppjaoaa
