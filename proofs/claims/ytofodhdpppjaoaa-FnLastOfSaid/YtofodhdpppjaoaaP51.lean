/-
  The plan of a term (no program).
-/
import Derived.Test.YtofodhdpppjaoaaP50
namespace Go.Proofs.Ytofodhdpppjaoaa.Pp
set_option linter.unusedVariables false
set_option linter.unusedSimpArgs false

/-- The bounds of a part between two points, and the next free point. -/
def tmB : Tm → Nat → Nat → Nat → List Bd × Nat
  | .step l h, b, e, f => ([⟨b, e, h⟩, ⟨e, b, -l⟩], f)
  | .wth a h, b, e, f => ((tmB a b e f).1 ++ [⟨b, e, h⟩], (tmB a b e f).2)
  | .thn a c, b, e, f => ((tmB a b f (f + 1)).1 ++ (tmB c f e (tmB a b f (f + 1)).2).1, (tmB c f e (tmB a b f (f + 1)).2).2)
  | .bth a c, b, e, f => ((tmB a b e f).1 ++ (tmB c b e (tmB a b e f).2).1, (tmB c b e (tmB a b e f).2).2)
theorem tmB_free : ∀ (a : Tm) (b e f : Nat), f ≤ (tmB a b e f).2
  | .step l h, b, e, f => Nat.le_refl _
  | .wth a h, b, e, f => tmB_free a b e f
  | .thn a c, b, e, f => by
    have h1 := tmB_free a b f (f + 1)
    have h2 := tmB_free c f e (tmB a b f (f + 1)).2
    simp only [tmB]; omega
  | .bth a c, b, e, f => by
    have h1 := tmB_free a b e f
    have h2 := tmB_free c b e (tmB a b e f).2
    simp only [tmB]; omega
/-- All points of its bounds lie below the next free one. -/
theorem tmB_lt : ∀ (a : Tm) (b e f : Nat), b < f → e < f → ∀ x ∈ (tmB a b e f).1, ∃ i j : Nat, x.f = i ∧ x.t = j ∧ i < (tmB a b e f).2 ∧ j < (tmB a b e f).2
  | .step l h, b, e, f, hb, he, x, hx => by
    simp only [tmB, List.mem_cons, List.not_mem_nil, or_false] at hx
    rcases hx with rfl | rfl
    · exact ⟨b, e, rfl, rfl, hb, he⟩
    · exact ⟨e, b, rfl, rfl, he, hb⟩
  | .wth a h, b, e, f, hb, he, x, hx => by
    have hf := tmB_free a b e f
    simp only [tmB, List.mem_append, List.mem_singleton] at hx ⊢
    rcases hx with hx | rfl
    · exact tmB_lt a b e f hb he x hx
    · exact ⟨b, e, rfl, rfl, by omega, by omega⟩
  | .thn a c, b, e, f, hb, he, x, hx => by
    have h1 := tmB_free a b f (f + 1)
    have h2 := tmB_free c f e (tmB a b f (f + 1)).2
    simp only [tmB, List.mem_append] at hx ⊢
    rcases hx with hx | hx
    · obtain ⟨i, j, e1, e2, e3, e4⟩ := tmB_lt a b f (f + 1) (by omega) (by omega) x hx
      exact ⟨i, j, e1, e2, by omega, by omega⟩
    · exact tmB_lt c f e _ (by omega) (by omega) x hx
  | .bth a c, b, e, f, hb, he, x, hx => by
    have h1 := tmB_free a b e f
    have h2 := tmB_free c b e (tmB a b e f).2
    simp only [tmB, List.mem_append] at hx ⊢
    rcases hx with hx | hx
    · obtain ⟨i, j, e1, e2, e3, e4⟩ := tmB_lt a b e f (by omega) (by omega) x hx
      exact ⟨i, j, e1, e2, by omega, by omega⟩
    · exact tmB_lt c b e _ (by omega) (by omega) x hx
theorem sol_congr {bs : List Bd} {y y' : Nat → Int} {N : Nat} (hp : ∀ x ∈ bs, ∃ i j : Nat, x.f = i ∧ x.t = j ∧ i < N ∧ j < N) (he : ∀ k, k < N → y' k = y k) (h : Sol bs y) : Sol bs y' := fun x hx => by
  obtain ⟨i, j, e1, e2, h1, h2⟩ := hp x hx
  have := h x hx
  rw [e1, e2, Int.toNat_natCast, Int.toNat_natCast] at this ⊢
  rw [he i h1, he j h2]; exact this
theorem sol_app {a b : List Bd} {y : Nat → Int} : Sol (a ++ b) y ↔ Sol a y ∧ Sol b y :=
  ⟨fun h => ⟨fun x hx => h x (List.mem_append_left _ hx), fun x hx => h x (List.mem_append_right _ hx)⟩, fun h x hx => by
    rcases List.mem_append.1 hx with hx | hx
    · exact h.1 x hx
    · exact h.2 x hx⟩
theorem sol_bd {i j : Nat} {m : Int} {y : Nat → Int} : Sol [(⟨i, j, m⟩ : Bd)] y ↔ y j - y i ≤ m := by
  unfold Sol
  simp
theorem lens_le : ∀ {a : Tm} {u v : Int}, a.fine → a.lens = some (u, v) → 0 ≤ u ∧ u ≤ v ∧ v ≤ 19 * (a.steps : Int)
  | .step l h, u, v, hf, hl => by
    obtain ⟨h1, h2, h3⟩ := hf
    simp only [Tm.lens, Option.some.injEq, Prod.mk.injEq] at hl
    simp only [Tm.steps]; omega
  | .wth a h, u, v, hf, hl => by
    simp only [Tm.lens] at hl
    split at hl
    · rename_i x y hx
      have := lens_le hf.1 hx
      split at hl
      · simp only [Option.some.injEq, Prod.mk.injEq] at hl
        simp only [Tm.steps]; omega
      · simp at hl
    · simp at hl
  | .thn a b, u, v, hf, hl => by
    simp only [Tm.lens] at hl
    split at hl
    · rename_i x y s t hx hy
      have := lens_le hf.1 hx
      have := lens_le hf.2 hy
      simp only [Option.some.injEq, Prod.mk.injEq] at hl
      simp only [Tm.steps]; omega
    · simp at hl
  | .bth a b, u, v, hf, hl => by
    simp only [Tm.lens] at hl
    split at hl
    · rename_i x y s t hx hy
      have := lens_le hf.1 hx
      have := lens_le hf.2 hy
      split at hl
      · simp only [Option.some.injEq, Prod.mk.injEq] at hl
        simp only [Tm.steps]; omega
      · simp at hl
    · simp at hl
/-- Times that keep the bounds of a part last as long as it may. -/
theorem tm_low : ∀ {a : Tm} {b e f : Nat} {y : Nat → Int}, Sol (tmB a b e f).1 y → ∃ u v, a.lens = some (u, v) ∧ u ≤ y e - y b ∧ y e - y b ≤ v
  | .step l h, b, e, f, y, hs => by
    have h1 := hs ⟨b, e, h⟩ (by simp [tmB])
    have h2 := hs ⟨e, b, -l⟩ (by simp [tmB])
    simp only [Int.toNat_natCast] at h1 h2
    exact ⟨l, h, rfl, by omega, by omega⟩
  | .wth a h, b, e, f, y, hs => by
    simp only [tmB, sol_app, sol_bd] at hs
    obtain ⟨u, v, hl, h1, h2⟩ := tm_low hs.1
    refine ⟨u, min v h, ?_, h1, by omega⟩
    simp only [Tm.lens, hl]
    rw [if_pos (by omega)]
  | .thn a c, b, e, f, y, hs => by
    simp only [tmB, sol_app] at hs
    obtain ⟨u, v, hl, h1, h2⟩ := tm_low hs.1
    obtain ⟨u', v', hl', h3, h4⟩ := tm_low hs.2
    exact ⟨u + u', v + v', by simp only [Tm.lens, hl, hl'], by omega, by omega⟩
  | .bth a c, b, e, f, y, hs => by
    simp only [tmB, sol_app] at hs
    obtain ⟨u, v, hl, h1, h2⟩ := tm_low hs.1
    obtain ⟨u', v', hl', h3, h4⟩ := tm_low hs.2
    refine ⟨max u u', min v v', ?_, by omega, by omega⟩
    simp only [Tm.lens, hl, hl']
    rw [if_pos (by omega)]
/-- Whatever length may be, there are times for it. -/
theorem tm_ex : ∀ {a : Tm} {b e f : Nat} {y : Nat → Int} {u v : Int}, a.fine → b < f → e < f → a.lens = some (u, v) → u ≤ y e - y b → y e - y b ≤ v → ∃ y', (∀ k, k < f → y' k = y k) ∧ Sol (tmB a b e f).1 y'
  | .step l h, b, e, f, y, u, v, hf, hb, he, hl, h1, h2 => by
    simp only [Tm.lens, Option.some.injEq, Prod.mk.injEq] at hl
    refine ⟨y, fun _ _ => rfl, fun x hx => ?_⟩
    simp only [tmB, List.mem_cons, List.not_mem_nil, or_false] at hx
    rcases hx with rfl | rfl
    · simp only [Int.toNat_natCast]; omega
    · simp only [Int.toNat_natCast]; omega
  | .wth a h, b, e, f, y, u, v, hf, hb, he, hl, h1, h2 => by
    simp only [Tm.lens] at hl
    split at hl
    · rename_i x z hx
      split at hl
      · simp only [Option.some.injEq, Prod.mk.injEq] at hl
        obtain ⟨y', h3, h4⟩ := tm_ex (y := y) hf.1 hb he hx (by omega) (by omega)
        refine ⟨y', h3, ?_⟩
        simp only [tmB, sol_app, sol_bd]
        refine ⟨h4, ?_⟩
        rw [h3 e he, h3 b hb]; omega
      · simp at hl
    · simp at hl
  | .thn a c, b, e, f, y, u, v, hf, hb, he, hl, h1, h2 => by
    simp only [Tm.lens] at hl
    split at hl
    · rename_i x1 v1 x2 v2 hx1 hx2
      simp only [Option.some.injEq, Prod.mk.injEq] at hl
      have l1 := lens_le hf.1 hx1
      have l2 := lens_le hf.2 hx2
      have hfr := tmB_free a b f (f + 1)
      obtain ⟨m, hm1, hm2, hm3, hm4⟩ : ∃ m : Int, x1 ≤ m - y b ∧ m - y b ≤ v1 ∧ x2 ≤ y e - m ∧ y e - m ≤ v2 := ⟨y b + max x1 (y e - y b - v2), by omega, by omega, by omega, by omega⟩
      have hyf : ∀ k, k < f → (fun k => if k = f then m else y k) k = y k := fun k hk => if_neg (by omega)
      have hff : (fun k => if k = f then m else y k) f = m := if_pos rfl
      obtain ⟨y1, h3, h4⟩ := tm_ex (y := fun k => if k = f then m else y k) hf.1 (b := b) (e := f) (f := f + 1) (by omega) (by omega) hx1 (by rw [if_pos rfl, if_neg (by omega)]; exact hm1) (by rw [if_pos rfl, if_neg (by omega)]; exact hm2)
      have e1 : y1 f = m := by rw [h3 f (by omega)]; exact hff
      have e2 : ∀ k, k < f → y1 k = y k := fun k hk => by rw [h3 k (by omega)]; exact hyf k hk
      obtain ⟨y2, h5, h6⟩ := tm_ex (y := y1) hf.2 (b := f) (e := e) (f := (tmB a b f (f + 1)).2) (by omega) (by omega) hx2 (by rw [e1, e2 e he]; exact hm3) (by rw [e1, e2 e he]; exact hm4)
      refine ⟨y2, fun k hk => by rw [h5 k (by omega), e2 k hk], ?_⟩
      simp only [tmB, sol_app]
      exact ⟨sol_congr (tmB_lt a b f (f + 1) (by omega) (by omega)) h5 h4, h6⟩
    · simp at hl
  | .bth a c, b, e, f, y, u, v, hf, hb, he, hl, h1, h2 => by
    simp only [Tm.lens] at hl
    split at hl
    · rename_i x1 v1 x2 v2 hx1 hx2
      split at hl
      · simp only [Option.some.injEq, Prod.mk.injEq] at hl
        have hfr := tmB_free a b e f
        obtain ⟨y1, h3, h4⟩ := tm_ex (y := y) hf.1 hb he hx1 (by omega) (by omega)
        obtain ⟨y2, h5, h6⟩ := tm_ex (y := y1) hf.2 (b := b) (e := e) (f := (tmB a b e f).2) (by omega) (by omega) hx2 (by rw [h3 e he, h3 b hb]; omega) (by rw [h3 e he, h3 b hb]; omega)
        refine ⟨y2, fun k hk => by rw [h5 k (by omega), h3 k hk], ?_⟩
        simp only [tmB, sol_app]
        exact ⟨sol_congr (tmB_lt a b e f hb he) h5 h4, h6⟩
      · simp at hl
    · simp at hl
end Go.Proofs.Ytofodhdpppjaoaa.Pp
