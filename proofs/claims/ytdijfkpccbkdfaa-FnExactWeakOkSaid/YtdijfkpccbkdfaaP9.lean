/-
  Deals: promises, and the plan of the own points. No program.
-/
import Derived.Test.YtdijfkpccbkdfaaP4
namespace Go.Proofs.Ytdijfkpccbkdfaa
set_option linter.unusedVariables false
set_option linter.unusedSimpArgs false
namespace Pp

structure Pr where
  f : Int
  t : Int
  l : Int
  h : Int
instance : Inhabited Pr := ⟨⟨0, 0, 0, 0⟩⟩

def PrOk (n : Int) (x : Pr) : Prop := (0 ≤ x.f ∧ x.f < n) ∧ (0 ≤ x.t ∧ x.t < n) ∧ x.f ≠ x.t ∧ 0 ≤ x.l ∧ x.l ≤ x.h ∧ x.h ≤ 12
def Apart (ps : List Pr) (i : Nat) (x : Pr) (m : Nat) : Prop := ∀ k y, k < m → ps[k]? = some y → i ≠ k → x.t ≠ y.f ∧ x.t ≠ y.t
def PrsOk (n : Int) (ps : List Pr) (m : Nat) : Prop := ∀ i x, i < m → ps[i]? = some x → PrOk n x ∧ Apart ps i x ps.length
def DealOk (p : Pl) (ps : List Pr) : Prop := planOk p = true ∧ p.bs.length ≤ 12 ∧ ps.length ≤ 2 ∧ PrsOk p.n ps ps.length

theorem apart_step {ps : List Pr} {i : Nat} {x y : Pr} {m : Nat} (h : Apart ps i x m) (hy : ps[m]? = some y) (h2 : i ≠ m → x.t ≠ y.f ∧ x.t ≠ y.t) : Apart ps i x (m + 1) := by
  intro k z hk hz hne
  by_cases e : k = m
  · subst e; rw [hy] at hz; cases hz; exact h2 hne
  · exact h k z (by omega) hz hne
theorem prsOk_step {n : Int} {ps : List Pr} {m : Nat} {x : Pr} (h : PrsOk n ps m) (hx : ps[m]? = some x) (h2 : PrOk n x ∧ Apart ps m x ps.length) : PrsOk n ps (m + 1) := by
  intro k z hk hz
  by_cases e : k = m
  · subst e; rw [hx] at hz; cases hz; exact h2
  · exact h k z (by omega) hz

/-- One bound of the plan of the own points: the reference's way. -/
def ownS (b : Bd) (x : Pr) : Bd :=
  let b := if b.t = x.t then ⟨b.f, x.f, b.m - x.h⟩ else b
  if b.f = x.t then ⟨x.f, b.t, b.m + x.l⟩ else b
def ownSs (ps : List Pr) (b : Bd) : Bd := ps.foldl ownS b
/-- .. the program's way: b is the bound as it was, c what is written. -/
def ownI (b : Bd) (c : Bd) (x : Pr) : Bd :=
  let c := if b.t = x.t then ⟨c.f, x.f, c.m - x.h⟩ else c
  if b.f = x.t then ⟨x.f, c.t, c.m + x.l⟩ else c
def ownIs (ps : List Pr) (b : Bd) : Bd := ps.foldl (ownI b) b
def ownB (ps : List Pr) (b : Bd) : Bd := if b.f = b.t then b else ownIs ps b
def own (p : Pl) (ps : List Pr) : Pl := ⟨p.n, p.bs.map (ownB ps)⟩

theorem own_same {n : Int} {ps : List Pr} (h2 : ps.length ≤ 2) (h : PrsOk n ps ps.length) (b : Bd) : ownSs ps b = ownIs ps b := by
  match ps, h2 with
  | [], _ => rfl
  | [x], _ =>
    obtain ⟨⟨_, _, hx, _⟩, _⟩ := h 0 x (by simp) rfl
    simp only [ownSs, ownIs, List.foldl, ownS, ownI]
    by_cases e : b.t = x.t <;> simp [e]
  | [x, y], _ =>
    obtain ⟨⟨_, _, hx, _⟩, ax⟩ := h 0 x (by simp) rfl
    obtain ⟨⟨_, _, hy, _⟩, ay⟩ := h 1 y (by simp) rfl
    have a1 := ax 1 y (by simp) rfl (by omega)
    have a2 := ay 0 x (by simp) rfl (by omega)
    have a3 : ¬ x.f = y.t := fun e => a2.1 e.symm
    have a4 : ¬ y.f = x.t := fun e => a1.1 e.symm
    have a5 : ¬ x.t = y.t := a1.2
    have a6 : ¬ y.t = x.t := a2.2
    have a7 : ¬ y.t = x.f := a2.1
    have a8 : ¬ x.t = y.f := a1.1
    clear ax ay a1 a2
    simp only [ownSs, ownIs, List.foldl, ownS, ownI]
    by_cases e1 : b.t = x.t <;> by_cases e2 : b.f = x.t <;> by_cases e3 : b.t = y.t <;> by_cases e4 : b.f = y.t <;> simp_all

theorem ownI_abs {n M : Int} {x : Pr} (hx : PrOk n x) {b c : Bd} (hf : 0 ≤ c.f ∧ c.f < n) (ht : 0 ≤ c.t ∧ c.t < n) (hm : -M ≤ c.m ∧ c.m ≤ M) :
    (0 ≤ (ownI b c x).f ∧ (ownI b c x).f < n) ∧ (0 ≤ (ownI b c x).t ∧ (ownI b c x).t < n) ∧ (-(M + 12) ≤ (ownI b c x).m ∧ (ownI b c x).m ≤ M + 12) := by
  obtain ⟨xf, xt, _, l0, l1, l2⟩ := hx
  unfold ownI
  by_cases e1 : b.t = x.t <;> by_cases e2 : b.f = x.t <;> simp only [e1, e2, if_true, if_false] <;> (refine ⟨?_, ?_, ?_⟩ <;> omega)
theorem ownB_abs {n : Int} {ps : List Pr} (h2 : ps.length ≤ 2) (h : PrsOk n ps ps.length) {b : Bd} (hb : bdOk n b = true) :
    (0 ≤ (ownB ps b).f ∧ (ownB ps b).f < n) ∧ (0 ≤ (ownB ps b).t ∧ (ownB ps b).t < n) ∧ (-200 ≤ (ownB ps b).m ∧ (ownB ps b).m ≤ 200) := by
  obtain ⟨hf, ht, hm⟩ := bdOk_iff.1 hb
  unfold ownB
  split
  · exact ⟨hf, ht, by omega⟩
  · match ps, h2 with
    | [], _ => exact ⟨hf, ht, by simp [ownIs]; omega⟩
    | [x], _ =>
      obtain ⟨a1, a2, a3⟩ := ownI_abs (h 0 x (by simp) rfl).1 (b := b) hf ht hm
      exact ⟨a1, a2, by simp only [ownIs, List.foldl]; omega⟩
    | [x, y], _ =>
      obtain ⟨a1, a2, a3⟩ := ownI_abs (h 0 x (by simp) rfl).1 (b := b) hf ht hm
      obtain ⟨c1, c2, c3⟩ := ownI_abs (h 1 y (by simp) rfl).1 (b := b) a1 a2 a3
      exact ⟨c1, c2, by simp only [ownIs, List.foldl]; omega⟩

theorem own_within {p : Pl} {ps : List Pr} (h : DealOk p ps) : Within (nn p) 200 (own p ps).bs := by
  intro c hc
  obtain ⟨hp, _, h2, hps⟩ := h
  obtain ⟨b, hb, rfl⟩ := List.mem_map.1 hc
  have := ownB_abs h2 hps ((planOk_iff.1 hp).2.2 b hb)
  rw [(nn_ok hp).2.2]
  exact this

/-- The table of the own points, closed by the program's way. -/
def strong (p : Pl) (ps : List Pr) : Bool := diagOk (nn p) (clo (tab0 (own p ps).bs) (nn p))
theorem small_clF {n : Nat} (hn : n ≤ 6) {M : Int} (h0 : 0 ≤ M) (hM : M ≤ 700) {bs : List Bd} (h : Within n M bs) (w : Int → Int) (hw : Fine w) :
    diagOk n (clF w (tab0 bs) n n) = diagOk n (clo (tab0 bs) n) := by
  obtain ⟨_, hlow⟩ := small_ok hn h0 hM h
  rw [Bool.eq_iff_iff, diagOk_iff, diagOk_iff]
  exact clF_diag hw (fun i j _ _ => (tab0_le _ i j).1) hlow
end Pp
end Go.Proofs.Ytdijfkpccbkdfaa
