/-
  The plan of a term and its lengths (no program).
-/
import Derived.Test.YtofodhdpppjaoaaP52
namespace Go.Proofs.Ytofodhdpppjaoaa.Pp
set_option linter.unusedVariables false
set_option linter.unusedSimpArgs false

def tmP (a : Tm) : Pl := ⟨((tmB a 0 1 2).2 : Int), (tmB a 0 1 2).1⟩
theorem tm_nn (a : Tm) : nn (tmP a) = (tmB a 0 1 2).2 ∧ 2 ≤ nn (tmP a) := by
  have h : nn (tmP a) = (tmB a 0 1 2).2 := by unfold nn tmP; simp
  have := tmB_free a 0 1 2
  exact ⟨h, by omega⟩
def y01 (d : Int) : Nat → Int := fun k => if k = 1 then d else 0
theorem tm_time {a : Tm} {u v d : Int} (hf : a.fine) (hl : a.lens = some (u, v)) (h1 : u ≤ d) (h2 : d ≤ v) : ∃ y, Sol (tmP a).bs y ∧ y 1 - y 0 = d := by
  obtain ⟨y, h3, h4⟩ := tm_ex (y := y01 d) (b := 0) (e := 1) (f := 2) hf (by omega) (by omega) hl (by simp [y01]; exact h1) (by simp [y01]; exact h2)
  refine ⟨y, h4, ?_⟩
  rw [h3 1 (by omega), h3 0 (by omega)]
  simp [y01]
theorem tm_fits {a : Tm} (hf : a.fine) (hp : planOk (tmP a) = true) : fits (tmP a) = a.lens.isSome := by
  rw [Bool.eq_iff_iff, fits_iff hp]
  constructor
  · rintro ⟨y, hy⟩
    obtain ⟨u, v, hl, -⟩ := tm_low (a := a) (b := 0) (e := 1) (f := 2) hy
    rw [hl]; rfl
  · intro h
    obtain ⟨⟨u, v⟩, hl⟩ := Option.isSome_iff_exists.1 h
    have := lens_le hf hl
    obtain ⟨y, hy, -⟩ := tm_time (d := u) hf hl (Int.le_refl _) this.2.1
    exact ⟨y, hy⟩
theorem tm_tight {a : Tm} {u v : Int} (hf : a.fine) (hp : planOk (tmP a) = true) (hl : a.lens = some (u, v)) : fits (tmP a) = true ∧ clT (tmP a) 0 1 = v ∧ clT (tmP a) 1 0 = -u := by
  have hfi : fits (tmP a) = true := by rw [tm_fits hf hp, hl]; rfl
  have G := fit_of hfi
  obtain ⟨hn, hn2⟩ := tm_nn a
  have hle := lens_le hf hl
  have hb : ∀ y, Sol (tmP a).bs y → u ≤ y 1 - y 0 ∧ y 1 - y 0 ≤ v := fun y hy => by
    obtain ⟨u', v', hl', h1, h2⟩ := tm_low (a := a) (b := 0) (e := 1) (f := 2) hy
    rw [hl] at hl'
    simp only [Option.some.injEq, Prod.mk.injEq] at hl'
    omega
  obtain ⟨a1, a2⟩ := G.tight (i := 0) (j := 1) (by omega) (by omega) v (fun y hy => (hb y hy).2)
  obtain ⟨c1, c2⟩ := G.tight (i := 1) (j := 0) (by omega) (by omega) (-u) (fun y hy => by have := (hb y hy).1; omega)
  obtain ⟨y1, hy1, e1⟩ := tm_time (d := v) hf hl hle.2.1 (Int.le_refl _)
  obtain ⟨y2, hy2, e2⟩ := tm_time (d := u) hf hl (Int.le_refl _) hle.2.1
  have a3 := G.le (i := 0) (j := 1) (by omega) (by omega) hy1 a1
  have c3 := G.le (i := 1) (j := 0) (by omega) (by omega) hy2 c1
  exact ⟨hfi, by omega, by omega⟩
theorem tm_most {a : Tm} {u v : Int} (hf : a.fine) (hp : planOk (tmP a) = true) (hl : a.lens = some (u, v)) : mostOf (tmP a) 0 1 = (v, true) ∧ leastOf (tmP a) 0 1 = (u, true) := by
  obtain ⟨h1, h2, h3⟩ := tm_tight hf hp hl
  obtain ⟨hn, hn2⟩ := tm_nn a
  have hn3 := nn_ok hp
  have hv := lens_le hf hl
  have G := fit_of h1
  have f1 : clT (tmP a) 0 1 < Far := (G.tight (i := 0) (j := 1) (by omega) (by omega) v (fun y hy => by
    obtain ⟨u', v', hl', h1, h2⟩ := tm_low (a := a) (b := 0) (e := 1) (f := 2) hy
    rw [hl] at hl'
    simp only [Option.some.injEq, Prod.mk.injEq] at hl'
    omega)).1
  have f2 : clT (tmP a) 1 0 < Far := (G.tight (i := 1) (j := 0) (by omega) (by omega) (-u) (fun y hy => by
    obtain ⟨u', v', hl', h1, h2⟩ := tm_low (a := a) (b := 0) (e := 1) (f := 2) hy
    rw [hl] at hl'
    simp only [Option.some.injEq, Prod.mk.injEq] at hl'
    omega)).1
  have m1 : mostOf (tmP a) 0 1 = (v, true) := by
    rw [mostOf_is h1 (by omega) (by omega) (by simpa using f1)]
    simp [h2]
  have m2 : mostOf (tmP a) 1 0 = (-u, true) := by
    rw [mostOf_is h1 (by omega) (by omega) (by simpa using f2)]
    simp [h3]
  refine ⟨m1, ?_⟩
  unfold leastOf
  rw [m2]
  simp
theorem tm_may {a : Tm} {u v d : Int} (hf : a.fine) (hp : planOk (tmP a) = true) (hl : a.lens = some (u, v)) (h1 : u ≤ d) (h2 : d ≤ v) (hd : d ≤ 2000) : mayBe (tmP a) 0 1 d = true := by
  obtain ⟨g1, g2, g3⟩ := tm_tight hf hp hl
  obtain ⟨hn, hn2⟩ := tm_nn a
  have hv := lens_le hf hl
  have hpn : (2 : Int) ≤ (tmP a).n := by show (2 : Int) ≤ ((tmB a 0 1 2).2 : Int); omega
  have e1 : (0 : Int).toNat = 0 := rfl
  have e2 : (1 : Int).toNat = 1 := rfl
  unfold mayBe mayT
  rw [e1, e2, g1, g2, g3]
  simp only [Bool.true_and, Bool.and_eq_true, inB_iff, Bool.or_eq_true, decide_eq_true_eq]
  exact ⟨⟨⟨⟨by omega, by omega⟩, by omega, by omega⟩, by omega, hd⟩, .inr h2, .inr (by omega)⟩
end Go.Proofs.Ytofodhdpppjaoaa.Pp
