/-
  Deals: promises, and the plan of the own points. No program.
  Deals whose promises last so long: the plan, and how many ways fit. No program.
  Deals: the laws of PlanFor, WeakOk, CountFit. No program.
-/
import Derived.Test.YtledgblepdjjlaaP2
namespace Go.Proofs.Ytledgblepdjjlaa
set_option linter.unusedVariables false
set_option linter.unusedSimpArgs false
open Pp

namespace Pp

structure Pr where
  f : Int
  t : Int
  l : Int
  h : Int
instance : Inhabited Pr := ⟨⟨0, 0, 0, 0⟩⟩

def PrOk (n : Int) (x : Pr) : Prop := (0 ≤ x.f ∧ x.f < n) ∧ (0 ≤ x.t ∧ x.t < n) ∧ x.f ≠ x.t ∧ 0 ≤ x.l ∧ x.l ≤ x.h ∧ x.h ≤ 12
def Apart (ps : List Pr) (i : Nat) (x : Pr) (m : Nat) : Prop := ∀ k y, k < m → ps[k]? = some y → i ≠ k → x.t ≠ y.f ∧ x.t ≠ y.t
def PrsOk (n : Int) (ps : List Pr) (m : Nat) : Prop := ∀ i x, i < m → ps[i]? = some x → PrOk n x ∧ Apart ps i x ps.length
def DealOk (p : Pl) (ps : List Pr) : Prop := planOk p = true ∧ p.bs.length ≤ 12 ∧ ps.length ≤ 2 ∧ PrsOk p.n ps ps.length

theorem apart_step {ps : List Pr} {i : Nat} {x y : Pr} {m : Nat} (h : Apart ps i x m) (hy : ps[m]? = some y) (h2 : i ≠ m → x.t ≠ y.f ∧ x.t ≠ y.t) : Apart ps i x (m + 1) := by
  intro k z hk hz hne
  by_cases e : k = m
  · subst e; rw [hy] at hz; cases hz; exact h2 hne
  · exact h k z (by omega) hz hne
theorem prsOk_step {n : Int} {ps : List Pr} {m : Nat} {x : Pr} (h : PrsOk n ps m) (hx : ps[m]? = some x) (h2 : PrOk n x ∧ Apart ps m x ps.length) : PrsOk n ps (m + 1) := by
  intro k z hk hz
  by_cases e : k = m
  · subst e; rw [hx] at hz; cases hz; exact h2
  · exact h k z (by omega) hz

/-- One bound of the plan of the own points: the reference's way. -/
def ownS (b : Bd) (x : Pr) : Bd :=
  let b := if b.t = x.t then ⟨b.f, x.f, b.m - x.h⟩ else b
  if b.f = x.t then ⟨x.f, b.t, b.m + x.l⟩ else b
def ownSs (ps : List Pr) (b : Bd) : Bd := ps.foldl ownS b
/-- .. the program's way: b is the bound as it was, c what is written. -/
def ownI (b : Bd) (c : Bd) (x : Pr) : Bd :=
  let c := if b.t = x.t then ⟨c.f, x.f, c.m - x.h⟩ else c
  if b.f = x.t then ⟨x.f, c.t, c.m + x.l⟩ else c
def ownIs (ps : List Pr) (b : Bd) : Bd := ps.foldl (ownI b) b
def ownB (ps : List Pr) (b : Bd) : Bd := if b.f = b.t then b else ownIs ps b
def own (p : Pl) (ps : List Pr) : Pl := ⟨p.n, p.bs.map (ownB ps)⟩

theorem own_same {n : Int} {ps : List Pr} (h2 : ps.length ≤ 2) (h : PrsOk n ps ps.length) (b : Bd) : ownSs ps b = ownIs ps b := by
  match ps, h2 with
  | [], _ => rfl
  | [x], _ =>
    obtain ⟨⟨_, _, hx, _⟩, _⟩ := h 0 x (by simp) rfl
    simp only [ownSs, ownIs, List.foldl, ownS, ownI]
    by_cases e : b.t = x.t <;> simp [e]
  | [x, y], _ =>
    obtain ⟨⟨_, _, hx, _⟩, ax⟩ := h 0 x (by simp) rfl
    obtain ⟨⟨_, _, hy, _⟩, ay⟩ := h 1 y (by simp) rfl
    have a1 := ax 1 y (by simp) rfl (by omega)
    have a2 := ay 0 x (by simp) rfl (by omega)
    have a3 : ¬ x.f = y.t := fun e => a2.1 e.symm
    have a4 : ¬ y.f = x.t := fun e => a1.1 e.symm
    have a5 : ¬ x.t = y.t := a1.2
    have a6 : ¬ y.t = x.t := a2.2
    have a7 : ¬ y.t = x.f := a2.1
    have a8 : ¬ x.t = y.f := a1.1
    clear ax ay a1 a2
    simp only [ownSs, ownIs, List.foldl, ownS, ownI]
    by_cases e1 : b.t = x.t <;> by_cases e2 : b.f = x.t <;> by_cases e3 : b.t = y.t <;> by_cases e4 : b.f = y.t <;> simp_all

theorem ownI_abs {n M : Int} {x : Pr} (hx : PrOk n x) {b c : Bd} (hf : 0 ≤ c.f ∧ c.f < n) (ht : 0 ≤ c.t ∧ c.t < n) (hm : -M ≤ c.m ∧ c.m ≤ M) :
    (0 ≤ (ownI b c x).f ∧ (ownI b c x).f < n) ∧ (0 ≤ (ownI b c x).t ∧ (ownI b c x).t < n) ∧ (-(M + 12) ≤ (ownI b c x).m ∧ (ownI b c x).m ≤ M + 12) := by
  obtain ⟨xf, xt, _, l0, l1, l2⟩ := hx
  unfold ownI
  by_cases e1 : b.t = x.t <;> by_cases e2 : b.f = x.t <;> simp only [e1, e2, if_true, if_false] <;> (refine ⟨?_, ?_, ?_⟩ <;> omega)
theorem ownB_abs {n : Int} {ps : List Pr} (h2 : ps.length ≤ 2) (h : PrsOk n ps ps.length) {b : Bd} (hb : bdOk n b = true) :
    (0 ≤ (ownB ps b).f ∧ (ownB ps b).f < n) ∧ (0 ≤ (ownB ps b).t ∧ (ownB ps b).t < n) ∧ (-200 ≤ (ownB ps b).m ∧ (ownB ps b).m ≤ 200) := by
  obtain ⟨hf, ht, hm⟩ := bdOk_iff.1 hb
  unfold ownB
  split
  · exact ⟨hf, ht, by omega⟩
  · match ps, h2 with
    | [], _ => exact ⟨hf, ht, by simp [ownIs]; omega⟩
    | [x], _ =>
      obtain ⟨a1, a2, a3⟩ := ownI_abs (h 0 x (by simp) rfl).1 (b := b) hf ht hm
      exact ⟨a1, a2, by simp only [ownIs, List.foldl]; omega⟩
    | [x, y], _ =>
      obtain ⟨a1, a2, a3⟩ := ownI_abs (h 0 x (by simp) rfl).1 (b := b) hf ht hm
      obtain ⟨c1, c2, c3⟩ := ownI_abs (h 1 y (by simp) rfl).1 (b := b) a1 a2 a3
      exact ⟨c1, c2, by simp only [ownIs, List.foldl]; omega⟩

theorem own_within {p : Pl} {ps : List Pr} (h : DealOk p ps) : Within (nn p) 200 (own p ps).bs := by
  intro c hc
  obtain ⟨hp, _, h2, hps⟩ := h
  obtain ⟨b, hb, rfl⟩ := List.mem_map.1 hc
  have := ownB_abs h2 hps ((planOk_iff.1 hp).2.2 b hb)
  rw [(nn_ok hp).2.2]
  exact this

/-- The table of the own points, closed by the program's way. -/
def strong (p : Pl) (ps : List Pr) : Bool := diagOk (nn p) (clo (tab0 (own p ps).bs) (nn p))
theorem small_clF {n : Nat} (hn : n ≤ 6) {M : Int} (h0 : 0 ≤ M) (hM : M ≤ 700) {bs : List Bd} (h : Within n M bs) (w : Int → Int) (hw : Fine w) :
    diagOk n (clF w (tab0 bs) n n) = diagOk n (clo (tab0 bs) n) := by
  obtain ⟨_, hlow⟩ := small_ok hn h0 hM h
  rw [Bool.eq_iff_iff, diagOk_iff, diagOk_iff]
  exact clF_diag hw (fun i j _ _ => (tab0_le _ i j).1) hlow
end Pp

namespace Pp

def pairOf (x : Pr) (l : Int) : List Bd := [⟨x.f, x.t, l⟩, ⟨x.t, x.f, -l⟩]
def forBs : List Pr → List Int → List Bd
  | x :: ps, l :: ls => pairOf x l ++ forBs ps ls
  | [], _ => []
  | _, [] => []
theorem forBs_nil (ps : List Pr) : forBs ps [] = [] := by cases ps <;> rfl
def planFor (p : Pl) (ps : List Pr) (ls : List Int) : Pl := ⟨p.n, p.bs ++ forBs ps ls⟩

theorem forBs_step : ∀ (ps : List Pr) (ls : List Int) (k : Nat) (x : Pr) (l : Int), ps[k]? = some x → ls[k]? = some l → forBs (ps.take (k + 1)) (ls.take (k + 1)) = forBs (ps.take k) (ls.take k) ++ pairOf x l
  | [], ls, k, x, l, h, _ => by simp at h
  | y :: ps, [], k, x, l, _, h => by simp at h
  | y :: ps, m :: ls, 0, x, l, h1, h2 => by
    simp at h1 h2
    subst h1; subst h2
    simp [forBs]
  | y :: ps, m :: ls, k + 1, x, l, h1, h2 => by
    have := forBs_step ps ls k x l (by simpa using h1) (by simpa using h2)
    simp only [List.take_succ_cons, forBs, this, List.append_assoc]
theorem forBs_take : ∀ (ps : List Pr) (ls : List Int), forBs (ps.take ls.length) ls = forBs ps ls
  | [], ls => by simp
  | x :: ps, [] => by simp [forBs]
  | x :: ps, l :: ls => by simp [forBs, forBs_take ps ls]
theorem forBs_length : ∀ (ps : List Pr) (ls : List Int), (forBs ps ls).length ≤ 2 * ps.length
  | [], ls => by simp [forBs]
  | x :: ps, [] => by simp [forBs]
  | x :: ps, l :: ls => by have := forBs_length ps ls; simp [forBs, pairOf]; omega
theorem forBs_len_eq : ∀ (ps : List Pr) (ls : List Int), ls.length = ps.length → (forBs ps ls).length = 2 * ps.length
  | [], ls, _ => by simp [forBs]
  | x :: ps, [], h => by simp at h
  | x :: ps, l :: ls, h => by have := forBs_len_eq ps ls (by simpa using h); simp [forBs, pairOf]; omega
theorem forBs_app : ∀ (ps : List Pr) (ls : List Int) (k : Nat), k ≤ ls.length → (forBs (ps.take k) (ls.take k)).length ≤ 2 * k := fun ps ls k _ => by
  have h := forBs_length (ps.take k) (ls.take k)
  have : (ps.take k).length ≤ k := by simp; omega
  omega

def LastsTo (ps : List Pr) (ls : List Int) (k : Nat) : Prop := ∀ (i : Nat) (x : Pr) (l : Int), i < k → ps[i]? = some x → ls[i]? = some l → inB l x.l x.h = true
def LastsOk (p : Pl) (ps : List Pr) (ls : List Int) : Prop := DealOk p ps ∧ ls.length = ps.length ∧ LastsTo ps ls ls.length
theorem lastsTo_step {ps : List Pr} {ls : List Int} {k : Nat} {x : Pr} {l : Int} (h : LastsTo ps ls k) (hx : ps[k]? = some x) (hl : ls[k]? = some l) (h2 : inB l x.l x.h = true) : LastsTo ps ls (k + 1) := by
  intro i y m hi hy hm
  by_cases e : i = k
  · subst e; rw [hx] at hy; rw [hl] at hm; cases hy; cases hm; exact h2
  · exact h i y m (by omega) hy hm
/-- Each length is at least 0, and at most 12. -/
theorem lasts_small {p : Pl} {ps : List Pr} {ls : List Int} (h : LastsOk p ps ls) (i : Nat) (l : Int) (hl : ls[i]? = some l) : 0 ≤ l ∧ l ≤ 12 := by
  have hi : i < ls.length := (List.getElem?_eq_some_iff.1 hl).1
  have hip : i < ps.length := by rw [← h.2.1]; exact hi
  have hx := List.getElem?_eq_getElem hip
  have h1 := inB_iff.1 (h.2.2 i _ l hi hx hl)
  have h2 := (h.1.2.2.2 i _ hip hx).1.2.2.2
  omega

/-- For how many ways that go on these lengths the plan fits. -/
def countF (p : Pl) (ps : List Pr) : Nat → List Int → Int
  | 0, ls => if fits (planFor p ps ls) then 1 else 0
  | m + 1, ls => match ps[ls.length]? with
    | none => 0
    | some x => ((List.range (x.h - x.l + 1).toNat).map fun (i : Nat) => countF p ps m (ls ++ [x.l + (i : Int)])).sum
end Pp
noncomputable def lastsOk (p : Pp.Pl) (ps : List Pp.Pr) (ls : List Int) : Bool := @decide (Pp.LastsOk p ps ls) (Classical.propDecidable _)
theorem lastsOk_iff {p : Pp.Pl} {ps : List Pp.Pr} {ls : List Int} : lastsOk p ps ls = true ↔ Pp.LastsOk p ps ls := by unfold lastsOk; exact @decide_eq_true_iff _ (Classical.propDecidable _)
theorem lastsOk_no {p : Pp.Pl} {ps : List Pp.Pr} {ls : List Int} (h : ¬ Pp.LastsOk p ps ls) : lastsOk p ps ls = false := by
  cases e : lastsOk p ps ls
  · rfl
  · exact (h (lastsOk_iff.1 e)).elim
noncomputable def planForR (p : Pp.Pl) (ps : List Pp.Pr) (ls : List Int) : Pp.Pl × Bool := if lastsOk p ps ls then (Pp.planFor p ps ls, true) else (⟨0, []⟩, false)

theorem forBs_mem : ∀ (ps : List Pr) (ls : List Int) (b : Bd), b ∈ forBs ps ls → ∃ (i : Nat) (x : Pr) (l : Int), ps[i]? = some x ∧ ls[i]? = some l ∧ b ∈ pairOf x l
  | [], ls, b, h => by simp [forBs] at h
  | x :: ps, [], b, h => by simp [forBs] at h
  | x :: ps, l :: ls, b, h => by
    rw [forBs] at h
    rcases List.mem_append.1 h with h1 | h1
    · exact ⟨0, x, l, rfl, rfl, h1⟩
    · obtain ⟨i, x', l', h2, h3, h4⟩ := forBs_mem ps ls b h1
      exact ⟨i + 1, x', l', by simpa using h2, by simpa using h3, h4⟩
theorem forBs_in : ∀ (ps : List Pr) (ls : List Int) (i : Nat) (x : Pr) (l : Int), ps[i]? = some x → ls[i]? = some l → ∀ b ∈ pairOf x l, b ∈ forBs ps ls
  | [], ls, i, x, l, h, _, b, _ => by simp at h
  | y :: ps, [], i, x, l, _, h, b, _ => by simp at h
  | y :: ps, m :: ls, 0, x, l, h1, h2, b, hb => by
    simp at h1 h2
    subst h1; subst h2
    rw [forBs]; exact List.mem_append_left _ hb
  | y :: ps, m :: ls, i + 1, x, l, h1, h2, b, hb => by
    rw [forBs]; exact List.mem_append_right _ (forBs_in ps ls i x l (by simpa using h1) (by simpa using h2) b hb)
theorem planFor_ok {p : Pl} {ps : List Pr} {ls : List Int} (h : LastsOk p ps ls) : planOk (planFor p ps ls) = true := by
  have hs := lasts_small h
  obtain ⟨⟨hp, h12, h2, hpr⟩, hq, hl⟩ := h
  have h0 := planOk_iff.1 hp
  refine planOk_iff.2 ⟨h0.1, ?_, fun b hb => ?_⟩
  · have := forBs_length ps ls
    simp only [planFor, List.length_append]; omega
  · rcases List.mem_append.1 hb with h1 | h1
    · exact h0.2.2 b h1
    · obtain ⟨i, x, l, hx, hll, hb⟩ := forBs_mem ps ls b h1
      obtain ⟨a1, a2, _⟩ := (hpr i x (List.getElem?_eq_some_iff.1 hx).1 hx).1
      have hl2 := hs i l hll
      simp only [pairOf, List.mem_cons, List.not_mem_nil, or_false] at hb
      rcases hb with rfl | rfl
      · exact bdOk_iff.2 ⟨a1, a2, by dsimp only; omega⟩
      · exact bdOk_iff.2 ⟨a2, a1, by dsimp only; omega⟩
theorem planFor_len {p : Pl} {ps : List Pr} {ls : List Int} (h : LastsOk p ps ls) : (planFor p ps ls).bs.length = p.bs.length + 2 * ls.length := by
  have := forBs_len_eq ps ls h.2.1
  have h2 := h.2.1
  simp only [planFor, List.length_append]; omega
theorem planFor_implies {p : Pl} {ps : List Pr} {ls : List Int} (h : LastsOk p ps ls) : implies (planFor p ps ls) p = true :=
  (implies_iff (planFor_ok h) h.1.1 rfl).2 fun y hy => (sol_append.1 hy).1
/-- If it fits, each To is just so much later than its From. -/
theorem planFor_most {p : Pl} {ps : List Pr} {ls : List Int} (h : LastsOk p ps ls) (hf : fits (planFor p ps ls) = true) (i : Nat) (x : Pr) (l : Int) (hx : ps[i]? = some x) (hl : ls[i]? = some l) :
    mostOf (planFor p ps ls) x.f x.t = (l, true) ∧ leastOf (planFor p ps ls) x.f x.t = (l, true) := by
  have F := fit_of hf
  obtain ⟨⟨f1, f2⟩, ⟨t1, t2⟩, hne, _⟩ := (h.1.2.2.2 i x (List.getElem?_eq_some_iff.1 hx).1 hx).1
  have hn : nn (planFor p ps ls) = p.n.toNat := rfl
  obtain ⟨y0, hy0⟩ := (fits_iff F.ok).1 hf
  have he : ∀ y, Sol (planFor p ps ls).bs y → y x.t.toNat - y x.f.toNat = l := fun y hy => by
    have hb := forBs_in ps ls i x l hx hl
    have e1 := (sol_append.1 hy).2 _ (hb ⟨x.f, x.t, l⟩ (by simp [pairOf]))
    have e2 := (sol_append.1 hy).2 _ (hb ⟨x.t, x.f, -l⟩ (by simp [pairOf]))
    dsimp only at e1 e2
    omega
  obtain ⟨a1, a2⟩ := F.tight (i := x.f.toNat) (j := x.t.toNat) (by omega) (by omega) l (fun z hz => by have := he z hz; omega)
  obtain ⟨b1, b2⟩ := F.tight (i := x.t.toNat) (j := x.f.toNat) (by omega) (by omega) (-l) (fun z hz => by have := he z hz; omega)
  have a3 := F.le (i := x.f.toNat) (j := x.t.toNat) (by omega) (by omega) hy0 a1
  have b3 := F.le (i := x.t.toNat) (j := x.f.toNat) (by omega) (by omega) hy0 b1
  have h0 := he y0 hy0
  have ea : clT (planFor p ps ls) x.f.toNat x.t.toNat = l := by omega
  have eb : clT (planFor p ps ls) x.t.toNat x.f.toNat = -l := by omega
  have hfi : inB x.f 0 ((planFor p ps ls).n - 1) = true := inB_iff.2 ⟨f1, by simp only [planFor]; omega⟩
  have hti : inB x.t 0 ((planFor p ps ls).n - 1) = true := inB_iff.2 ⟨t1, by simp only [planFor]; omega⟩
  rw [ea] at a1
  rw [eb] at b1
  unfold leastOf mostOf
  rw [hf, hfi, hti, ea, eb, decide_eq_true a1, decide_eq_true b1]
  simp
end Go.Proofs.Ytledgblepdjjlaa
