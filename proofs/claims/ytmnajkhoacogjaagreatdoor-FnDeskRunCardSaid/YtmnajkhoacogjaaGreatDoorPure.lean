/-
 Plain mathematics of plans: bounds, tables, closing, times. No program is imported here.
-/
namespace Go.Proofs.YtmnajkhoacogjaaGreatDoor
set_option linter.unusedVariables false
set_option linter.unusedSimpArgs false
namespace Pp

/-- A bound: from, to, most. -/
structure Bd where
 f : Int
 t : Int
 m : Int

theorem Bd.ext' {a b : Bd} (h1 : a.f = b.f) (h2 : a.t = b.t) (h3 : a.m = b.m) : a = b := by
 cases a; cases b; simp_all

instance : DecidableEq Bd := fun a b =>
 if h : a.f = b.f ∧ a.t = b.t ∧ a.m = b.m then isTrue (Bd.ext' h.1 h.2.1 h.2.2) else isFalse (fun e => h (by subst e; exact ⟨rfl, rfl, rfl⟩))

/-- A plan: points and bounds. -/
structure Pl where
 n : Int
 bs : List Bd

def inB (x lo hi : Int) : Bool := decide (lo ≤ x) && decide (x ≤ hi)
def bdOk (n : Int) (b : Bd) : Bool := inB b.f 0 (n - 1) && inB b.t 0 (n - 1) && inB b.m (-99) 99
def planOk (p : Pl) : Bool := inB p.n 1 6 && decide (p.bs.length ≤ 16) && p.bs.all (bdOk p.n)

theorem inB_iff {x lo hi : Int} : inB x lo hi = true ↔ lo ≤ x ∧ x ≤ hi := by simp [inB]

theorem bdOk_iff {n : Int} {b : Bd} : bdOk n b = true ↔ (0 ≤ b.f ∧ b.f < n) ∧ (0 ≤ b.t ∧ b.t < n) ∧ (-99 ≤ b.m ∧ b.m ≤ 99) := by
 simp [bdOk, inB_iff]; omega

theorem planOk_iff {p : Pl} : planOk p = true ↔ (1 ≤ p.n ∧ p.n ≤ 6) ∧ p.bs.length ≤ 16 ∧ ∀ b ∈ p.bs, bdOk p.n b = true := by
 simp [planOk, inB_iff, and_assoc]

/-! ### tables -/

def Far : Int := 100000
abbrev Tb := Nat → Nat → Int

def upd (T : Tb) (i j : Nat) (x : Int) : Tb := fun a b => if a = i ∧ b = j then x else T a b

/-- The entry of the table of some bounds. -/
def ent (i j : Nat) (n : Int) (b : Bd) : Int := if b.f = (i : Int) ∧ b.t = (j : Int) then min n b.m else n
def tab0 (bs : List Bd) : Tb := fun i j => bs.foldl (ent i j) (if i = j then 0 else Far)

def relax (k : Nat) (T : Tb) : Tb := fun i j => if T i k < Far ∧ T k j < Far then min (T i j) (T i k + T k j) else T i j
def clo (T : Tb) : Nat → Tb
 | 0 => T
 | k + 1 => relax k (clo T k)

def diagOk (n : Nat) (T : Tb) : Bool := (List.range n).all fun i => decide (0 ≤ T i i)
theorem diagOk_iff {n : Nat} {T : Tb} : diagOk n T = true ↔ ∀ i, i < n → 0 ≤ T i i := by simp [diagOk]

def nn (p : Pl) : Nat := p.n.toNat
def clT (p : Pl) : Tb := clo (tab0 p.bs) (nn p)
def fits (p : Pl) : Bool := planOk p && diagOk (nn p) (clT p)

theorem relax_le (k : Nat) (T : Tb) (i j : Nat) : relax k T i j ≤ T i j := by
 unfold relax; split <;> omega
theorem relax_via {k : Nat} {T : Tb} {i j : Nat} (h1 : T i k < Far) (h2 : T k j < Far) : relax k T i j ≤ T i k + T k j := by
 unfold relax; rw [if_pos ⟨h1, h2⟩]; omega
theorem relax_or (k : Nat) (T : Tb) (i j : Nat) : relax k T i j = T i j ∨ (T i k < Far ∧ T k j < Far ∧ relax k T i j = T i k + T k j) := by
 unfold relax; split
 ·rename_i h; omega
 ·exact .inl rfl

theorem clo_mono (T : Tb) (k d : Nat) (i j : Nat) : clo T (k + d) i j ≤ clo T k i j := by
 induction d with
 | zero => simp
 | succ d ih => exact Int.le_trans (relax_le _ _ _ _) ih

theorem clo_le (T : Tb) (k : Nat) (i j : Nat) : clo T k i j ≤ T i j := by
 have := clo_mono T 0 k i j; simpa [clo] using this

/-- What is less than Far is less than half of it: so sums of two are less than Far. -/
def Mild (n : Nat) (T : Tb) : Prop := ∀ i j, i < n → j < n → T i j < Far → 2 * T i j < Far

/-- Closed over the points below m. -/
def ClosedTo (m n : Nat) (T : Tb) : Prop := ∀ k, k < m → ∀ i j, i < n → j < n → T i k < Far → T k j < Far → T i j ≤ T i k + T k j

theorem closed_step {m n : Nat} {T : Tb} (hm : m < n) (hM : Mild n T) (h : ClosedTo m n T) (hd : 0 ≤ T m m) : ClosedTo (m + 1) n (relax m T) := by
 intro k hk i j hi hj h1 h2
 have hkn : k < n := by omega
 have key := relax_le m T i j
 have M1 := hM i k hi hkn
 have M2 := hM k j hkn hj
 have M3 := hM i m hi hm
 have M4 := hM m k hm hkn
 have M5 := hM k m hkn hm
 have M6 := hM m j hm hj
 by_cases e : k = m
 ·subst e
  have a1 : relax k T i k = T i k := by
   rcases relax_or k T i k with h' | ⟨x, y, h'⟩
   ·exact h'
   ·have := relax_le k T i k; omega
  have a2 : relax k T k j = T k j := by
   rcases relax_or k T k j with h' | ⟨x, y, h'⟩
   ·exact h'
   ·have := relax_le k T k j; omega
  rw [a1] at h1 ⊢; rw [a2] at h2 ⊢
  exact relax_via h1 h2
 ·have hk' : k < m := by omega
  have C := h k hk'
  rcases relax_or m T i k with e1 | ⟨f1, f2, e1⟩ <;> rcases relax_or m T k j with e2 | ⟨f3, f4, e2⟩
  ·rw [e1] at h1 ⊢; rw [e2] at h2 ⊢
   exact Int.le_trans key (C i j hi hj h1 h2)
  ·rw [e1] at h1 ⊢; rw [e2]
   have := C i m hi hm h1 f3
   have hf : T i m < Far := by omega
   have := relax_via hf f4; omega
  ·rw [e1]; rw [e2] at h2 ⊢
   have := C m j hm hj f2 h2
   have hf : T m j < Far := by omega
   have := relax_via f1 hf; omega
  ·rw [e1, e2]
   have := C m m hm hm f2 f3
   have := relax_via f1 f4; omega

/-- Mild at each stage. -/
def MildTo (n : Nat) (T : Tb) : Prop := ∀ k, k ≤ n → Mild n (clo T k)

theorem clo_closed {n : Nat} {T : Tb} (hM : MildTo n T) (hd : ∀ i, i < n → 0 ≤ clo T n i i) : ClosedTo n n (clo T n) := by
 have key : ∀ k, k ≤ n → ClosedTo k n (clo T k) := by
  intro k
  induction k with
  | zero => intro _ m hm; omega
  | succ k ih =>
    intro hk
    refine closed_step (by omega) (hM k (by omega)) (ih (by omega)) ?_
    have h1 := hd k (by omega)
    have h2 := clo_mono T k (n - k) k k
    have e : k + (n - k) = n := by omega
    rw [e] at h2; omega
 exact key n (Nat.le_refl n)

/-- Times keep a table. -/
def TSol (n : Nat) (T : Tb) (x : Nat → Int) : Prop := ∀ i j, i < n → j < n → T i j < Far → x j - x i ≤ T i j

theorem tsol_relax {n k : Nat} {T : Tb} (hk : k < n) (x : Nat → Int) : TSol n (relax k T) x ↔ TSol n T x := by
 constructor
 ·intro h i j hi hj hf
  have := relax_le k T i j
  have := h i j hi hj (by omega)
  omega
 ·intro h i j hi hj hf
  rcases relax_or k T i j with e | ⟨a, b, e⟩
  ·rw [e] at hf ⊢; exact h i j hi hj hf
  ·have := h i k hi hk a
   have := h k j hk hj b
   omega

theorem tsol_clo {n : Nat} {T : Tb} (x : Nat → Int) : TSol n (clo T n) x ↔ TSol n T x := by
 have key : ∀ k, k ≤ n → (TSol n (clo T k) x ↔ TSol n T x) := by
  intro k
  induction k with
  | zero => intro _; exact Iff.rfl
  | succ k ih => intro hk; exact (tsol_relax (by omega) x).trans (ih (by omega))
 exact key n (Nat.le_refl n)

/-! ### some times between bounds, one by one -/

theorem exists_between (L U : List Int) (h : ∀ a ∈ L, ∀ b ∈ U, a ≤ b) : ∃ v : Int, (∀ a ∈ L, a ≤ v) ∧ ∀ b ∈ U, v ≤ b := by
 induction L with
 | nil =>
   clear h
   induction U with
   | nil => exact ⟨0, by simp, by simp⟩
   | cons u U ih =>
     obtain ⟨v, _, hv⟩ := ih
     refine ⟨min u v, by simp, fun b hb => ?_⟩
     rcases List.mem_cons.1 hb with rfl | hb
     ·omega
     ·have := hv b hb; omega
 | cons a L ih =>
   obtain ⟨v, h1, h2⟩ := ih (fun x hx b hb => h x (List.mem_cons_of_mem _ hx) b hb)
   refine ⟨max a v, fun x hx => ?_, fun b hb => ?_⟩
   ·rcases List.mem_cons.1 hx with rfl | hx
    ·omega
    ·have := h1 x hx; omega
   ·have := h2 b hb; have := h a (List.mem_cons_self ..) b hb; omega

/-- Times of some points keep all that follows between them. -/
def Part (n : Nat) (T : Tb) (S : Nat → Prop) (x : Nat → Int) : Prop := ∀ i j, i < n → j < n → S i → S j → T i j < Far → x j - x i ≤ T i j

open Classical in
theorem part_step {n : Nat} {T : Tb} (hM : Mild n T) (hC : ClosedTo n n T) (hd : ∀ i, i < n → 0 ≤ T i i) {S : Nat → Prop} {x : Nat → Int} (h : Part n T S x) (k : Nat) (hk : k < n) :
  ∃ y : Nat → Int, (∀ i, S i → y i = x i) ∧ Part n T (fun i => S i ∨ i = k) y := by
 by_cases hS : S k
 ·refine ⟨x, fun _ _ => rfl, fun i j hi hj h1 h2 => ?_⟩
  have h1' : S i := by rcases h1 with h | rfl <;> assumption
  have h2' : S j := by rcases h2 with h | rfl <;> assumption
  exact h i j hi hj h1' h2'
 ·let pts := (List.range n).filter fun i => decide (S i)
  have hp : ∀ i, i ∈ pts ↔ i < n ∧ S i := by intro i; simp [pts]
  obtain ⟨v, hv1, hv2⟩ := exists_between ((pts.filter fun i => decide (T k i < Far)).map fun i => x i - T k i) ((pts.filter fun i => decide (T i k < Far)).map fun i => x i + T i k) (by
   intro a ha b hb
   simp only [List.mem_map, List.mem_filter, decide_eq_true_eq] at ha hb
   obtain ⟨i, ⟨hi, hf⟩, rfl⟩ := ha
   obtain ⟨j, ⟨hj, hg⟩, rfl⟩ := hb
   obtain ⟨hi1, hi2⟩ := (hp i).1 hi
   obtain ⟨hj1, hj2⟩ := (hp j).1 hj
   have := hC k hk j i hj1 hi1 hg hf
   have := hM j k hj1 hk hg
   have := hM k i hk hi1 hf
   have := h j i hj1 hi1 hj2 hi2 (by omega)
   omega)
  have hlo : ∀ i, i < n → S i → T k i < Far → x i - T k i ≤ v := fun i hi hs hf => hv1 _ (List.mem_map.2 ⟨i, by simp [hp, hi, hs, hf], rfl⟩)
  have hhi : ∀ i, i < n → S i → T i k < Far → v ≤ x i + T i k := fun i hi hs hf => hv2 _ (List.mem_map.2 ⟨i, by simp [hp, hi, hs, hf], rfl⟩)
  refine ⟨fun i => if i = k then v else x i, fun i hi => if_neg (fun (e : i = k) => hS (e ▸ hi)), fun i j hi hj h1 h2 hf => ?_⟩
  dsimp only
  by_cases ei : i = k <;> by_cases ej : j = k
  ·have := hd i hi; rw [if_pos ei, if_pos ej]; rw [ej, ← ei]; omega
  ·rw [if_neg ej, if_pos ei]
   rw [ei] at hf ⊢
   have := hlo j hj (h2.resolve_right ej) hf; omega
  ·rw [if_pos ej, if_neg ei]
   rw [ej] at hf ⊢
   have := hhi i hi (h1.resolve_right ei) hf; omega
  ·rw [if_neg ei, if_neg ej]
   exact h i j hi hj (h1.resolve_right ei) (h2.resolve_right ej) hf

/-- Times of some points go on to times of all. -/
theorem part_all {n : Nat} {T : Tb} (hM : Mild n T) (hC : ClosedTo n n T) (hd : ∀ i, i < n → 0 ≤ T i i) {S : Nat → Prop} {x : Nat → Int} (h : Part n T S x) :
  ∃ y : Nat → Int, (∀ i, S i → y i = x i) ∧ TSol n T y := by
 have key : ∀ k, k ≤ n → ∃ y : Nat → Int, (∀ i, S i → y i = x i) ∧ Part n T (fun i => S i ∨ i < k) y := by
  intro k
  induction k with
  | zero => intro _; exact ⟨x, fun _ _ => rfl, fun i j hi hj h1 h2 => h i j hi hj (by simpa using h1) (by simpa using h2)⟩
  | succ k ih =>
    intro hk
    obtain ⟨y, hy, hP⟩ := ih (by omega)
    obtain ⟨z, hz, hQ⟩ := part_step hM hC hd hP k (by omega)
    refine ⟨z, fun i hi => (hz i (.inl hi)).trans (hy i hi), fun i j hi hj h1 h2 => hQ i j hi hj ?_ ?_⟩
    ·rcases h1 with h1 | h1
     ·exact .inl (.inl h1)
     ·by_cases e : i = k
      ·exact .inr e
      ·exact .inl (.inr (by omega))
    ·rcases h2 with h2 | h2
     ·exact .inl (.inl h2)
     ·by_cases e : j = k
      ·exact .inr e
      ·exact .inl (.inr (by omega))
 obtain ⟨y, hy, hP⟩ := key n (Nat.le_refl n)
 exact ⟨y, hy, fun i j hi hj => hP i j hi hj (.inr hi) (.inr hj)⟩

/-- Between the least and the most all may be. -/
theorem sol_between {n : Nat} {T : Tb} (hM : Mild n T) (hC : ClosedTo n n T) (hd : ∀ i, i < n → 0 ≤ T i i) {i j : Nat} (hi : i < n) (hj : j < n) (hij : i ≠ j) (v : Int)
  (h1 : T i j < Far → v ≤ T i j) (h2 : T j i < Far → -T j i ≤ v) : ∃ y : Nat → Int, TSol n T y ∧ y j - y i = v := by
 obtain ⟨y, hy, hs⟩ := part_all (S := fun k => k = i ∨ k = j) (x := fun k => if k = i then 0 else v) hM hC hd (by
  intro a b ha hb sa sb hf
  dsimp only
  have hji : ¬ j = i := fun e => hij e.symm
  rcases sa with e1 | e1 <;> rcases sb with e2 | e2
  ·have := hd i hi; rw [e1, e2, if_pos rfl]; omega
  ·rw [e1, e2] at hf; rw [e1, e2, if_neg hji, if_pos rfl]; have := h1 hf; omega
  ·rw [e1, e2] at hf; rw [e1, e2, if_neg hji, if_pos rfl]; have := h2 hf; omega
  ·have := hd j hj; rw [e1, e2, if_neg hji]; omega)
 refine ⟨y, hs, ?_⟩
 have a := hy i (.inl rfl)
 have b := hy j (.inr rfl)
 rw [if_pos rfl] at a
 rw [if_neg (fun e => hij e.symm)] at b
 omega

theorem sol_some {n : Nat} {T : Tb} (hM : Mild n T) (hC : ClosedTo n n T) (hd : ∀ i, i < n → 0 ≤ T i i) : ∃ y : Nat → Int, TSol n T y := by
 obtain ⟨y, _, h⟩ := part_all (S := fun _ => False) (x := fun _ => 0) hM hC hd (fun _ _ _ _ h => h.elim)
 exact ⟨y, h⟩

/-- What holds of all times that keep a closed table is in the table. -/
theorem tight {n : Nat} {T : Tb} (hM : Mild n T) (hC : ClosedTo n n T) (hd : ∀ i, i < n → 0 ≤ T i i) {i j : Nat} (hi : i < n) (hj : j < n) (c : Int)
  (h : ∀ y, TSol n T y → y j - y i ≤ c) (hc : i = j → T i j ≤ 0) : T i j < Far ∧ T i j ≤ c := by
 by_cases hij : i = j
 ·subst hij
  obtain ⟨y, hy⟩ := sol_some hM hC hd
  have := h y hy; have := hc rfl; unfold Far; omega
 ·by_cases hf : T i j < Far
  ·refine ⟨hf, ?_⟩
   obtain ⟨y, hy, e⟩ := sol_between hM hC hd hi hj hij (T i j) (fun _ => Int.le_refl _) (fun hg => by
    have h1 := hM i j hi hj hf; have h2 := hM j i hj hi hg
    have := hC j hj i i hi hi hf hg
    have := hd i hi; omega)
   have := h y hy; omega
  ·exfalso
   obtain ⟨y, hy, e⟩ := sol_between hM hC hd hi hj hij (max (c + 1) (-T j i)) (fun h => absurd h hf) (fun _ => by omega)
   have := h y hy; omega

/-! ### closing in place (w: how sums are written: wrapped) -/

def st1 (w : Int → Int) (k i j : Nat) (T : Tb) : Tb := if T i k ≠ Far ∧ T k j ≠ Far then upd T i j (min (T i j) (w (T i k + T k j))) else T
def rowF (w : Int → Int) (T : Tb) (k i : Nat) : Nat → Tb
 | 0 => T
 | j + 1 => st1 w k i j (rowF w T k i j)
def phF (w : Int → Int) (T : Tb) (n k : Nat) : Nat → Tb
 | 0 => T
 | i + 1 => rowF w (phF w T n k i) k i n
def clF (w : Int → Int) (T : Tb) (n : Nat) : Nat → Tb
 | 0 => T
 | k + 1 => phF w (clF w T n k) n k n

/-- w leaves what is not great. -/
def Fine (w : Int → Int) : Prop := ∀ x, -1000000000 ≤ x → x ≤ 1000000000 → w x = x
def Low (n : Nat) (T : Tb) : Prop := ∀ i j, i < n → j < n → -100000000 ≤ T i j

/-- The same numbers for the first n points. -/
def EqT (n : Nat) (T U : Tb) : Prop := ∀ i j, i < n → j < n → T i j = U i j
theorem EqT.refl (n : Nat) (T : Tb) : EqT n T T := fun _ _ _ _ => rfl
theorem EqT.trans {n : Nat} {T U V : Tb} (h : EqT n T U) (k : EqT n U V) : EqT n T V := fun i j hi hj => (h i j hi hj).trans (k i j hi hj)
theorem EqT.symm {n : Nat} {T U : Tb} (h : EqT n T U) : EqT n U T := fun i j hi hj => (h i j hi hj).symm

theorem EqT.relax {n k : Nat} {T U : Tb} (hk : k < n) (h : EqT n T U) : EqT n (relax k T) (relax k U) := fun i j hi hj => by
 unfold Pp.relax; rw [h i k hi hk, h k j hk hj, h i j hi hj]
theorem EqT.clo {n : Nat} {T U : Tb} (h : EqT n T U) : ∀ k, k ≤ n → EqT n (clo T k) (clo U k)
 | 0, _ => h
 | k + 1, hk => EqT.relax (by omega) (EqT.clo h k (by omega))

theorem rowF_eq {w : Int → Int} (hw : Fine w) {n k i : Nat} {T : Tb} (hk : k < n) (hi : i < n) (hle : ∀ i j, i < n → j < n → T i j ≤ Far) (hlow : Low n T) (hd : 0 ≤ T k k) :
  ∀ m, m ≤ n → ∀ a b, a < n → b < n → rowF w T k i m a b = if a = i ∧ b < m then relax k T a b else T a b := by
 intro m
 induction m with
 | zero => intro _ a b _ _; simp [rowF]
 | succ m ih =>
   intro hm a b ha hb
   have ih := ih (by omega)
   have e1 : rowF w T k i m i k = T i k := by
    rw [ih i k hi hk]
    split
    ·rcases relax_or k T i k with h | ⟨x, y, h⟩
     ·exact h
     ·have := relax_le k T i k; omega
    ·rfl
   have e2 : rowF w T k i m k m = T k m := by
    rw [ih k m hk (by omega), if_neg (by omega)]
   have e3 : rowF w T k i m i m = T i m := by rw [ih i m hi (by omega), if_neg (by omega)]
   have l1 := hle i k hi hk
   have l2 := hle k m hk (by omega)
   have l3 := hlow i k hi hk
   have l4 := hlow k m hk (by omega)
   show st1 w k i m (rowF w T k i m) a b = _
   unfold st1
   rw [e1, e2, e3, hw _ (by omega) (by unfold Far at l1 l2; omega)]
   by_cases hc : T i k ≠ Far ∧ T k m ≠ Far
   ·rw [if_pos hc]
    unfold upd
    by_cases hab : a = i ∧ b = m
    ·obtain ⟨rfl, rfl⟩ := hab
     rw [if_pos ⟨rfl, rfl⟩, if_pos ⟨rfl, by omega⟩]
     unfold relax
     rw [if_pos (by omega)]
    ·rw [if_neg hab, ih a b ha hb]
     by_cases h : a = i
     ·by_cases hb' : b < m
      ·rw [if_pos ⟨h, hb'⟩, if_pos ⟨h, by omega⟩]
      ·rw [if_neg (fun q => hb' q.2), if_neg (fun q => by have := q.2; exact hab ⟨h, by omega⟩)]
     ·rw [if_neg (fun q => h q.1), if_neg (fun q => h q.1)]
   ·rw [if_neg hc, ih a b ha hb]
    by_cases h : a = i
    ·by_cases hb' : b < m
     ·rw [if_pos ⟨h, hb'⟩, if_pos ⟨h, by omega⟩]
     ·rw [if_neg (fun q => hb' q.2)]
      by_cases e : b = m
      ·subst e; subst h
       rw [if_pos ⟨rfl, by omega⟩]
       unfold relax
       rw [if_neg (by omega)]
      ·rw [if_neg (fun q => by have := q.2; omega)]
    ·rw [if_neg (fun q => h q.1), if_neg (fun q => h q.1)]

theorem phF_eq {w : Int → Int} (hw : Fine w) {n k : Nat} {T : Tb} (hk : k < n) (hle : ∀ i j, i < n → j < n → T i j ≤ Far) (hlow : Low n T) (hlow' : Low n (relax k T)) (hd : 0 ≤ T k k) :
  ∀ m, m ≤ n → ∀ a b, a < n → b < n → phF w T n k m a b = if a < m then relax k T a b else T a b := by
 have rk : ∀ b, relax k T k b = T k b := fun b => by
  rcases relax_or k T k b with h | ⟨x, y, h⟩
  ·exact h
  ·have := relax_le k T k b; omega
 have ck : ∀ a, relax k T a k = T a k := fun a => by
  rcases relax_or k T a k with h | ⟨x, y, h⟩
  ·exact h
  ·have := relax_le k T a k; omega
 intro m
 induction m with
 | zero => intro _ a b _ _; simp [phF]
 | succ m ih =>
   intro hm a b ha hb
   have ih := ih (by omega)
   have hl : Low n (phF w T n k m) := fun i j hi hj => by
    rw [ih i j hi hj]; split
    ·exact hlow' i j hi hj
    ·exact hlow i j hi hj
   have hle' : ∀ i j, i < n → j < n → phF w T n k m i j ≤ Far := fun i j hi hj => by
    rw [ih i j hi hj]
    split
    ·have := relax_le k T i j; have := hle i j hi hj; omega
    ·exact hle i j hi hj
   have hkk : ∀ b, b < n → phF w T n k m k b = T k b := fun b hb => by
    rw [ih k b hk hb]; split
    ·exact rk b
    ·rfl
   have hd' : 0 ≤ phF w T n k m k k := by rw [hkk k hk]; exact hd
   show rowF w (phF w T n k m) k m n a b = _
   rw [rowF_eq hw hk (by omega) hle' hl hd' n (Nat.le_refl n) a b ha hb]
   by_cases e : a = m
   ·subst e
    rw [if_pos ⟨rfl, hb⟩, if_pos (by omega)]
    have x1 : phF w T n k a a k = T a k := by rw [ih a k ha hk, if_neg (by omega)]
    have x2 : phF w T n k a a b = T a b := by rw [ih a b ha hb, if_neg (by omega)]
    unfold relax
    rw [x1, x2, hkk b hb]
   ·rw [if_neg (fun q => e q.1), ih a b ha hb]
    by_cases h : a < m
    ·rw [if_pos h, if_pos (by omega)]
    ·rw [if_neg h, if_neg (by omega)]

theorem phF_le (w : Int → Int) (T : Tb) (n k : Nat) : ∀ m a b, phF w T n k m a b ≤ T a b := by
 have hst : ∀ k i j (T : Tb) a b, st1 w k i j T a b ≤ T a b := by
  intro k i j T a b
  unfold st1; split
  ·unfold upd; split
   ·rename_i h; obtain ⟨rfl, rfl⟩ := h; omega
   ·exact Int.le_refl _
  ·exact Int.le_refl _
 have hrow : ∀ (T : Tb) k i m a b, rowF w T k i m a b ≤ T a b := by
  intro T k i m a b
  induction m with
  | zero => exact Int.le_refl _
  | succ m ih => exact Int.le_trans (hst _ _ _ _ _ _) ih
 intro m a b
 induction m with
 | zero => exact Int.le_refl _
 | succ m ih => exact Int.le_trans (hrow _ _ _ _ _ _) ih

theorem clF_mono (w : Int → Int) (T : Tb) (n k d : Nat) (i j : Nat) : clF w T n (k + d) i j ≤ clF w T n k i j := by
 induction d with
 | zero => simp
 | succ d ih => exact Int.le_trans (phF_le _ _ _ _ _ _ _) ih

/-- In place it comes to the same: as long as no number from a point to itself is less than 0. -/
theorem clF_eq {w : Int → Int} (hw : Fine w) {n : Nat} {T : Tb} (hle : ∀ i j, i < n → j < n → T i j ≤ Far) (hlow : ∀ k, k ≤ n → Low n (clo T k)) :
  ∀ k, k ≤ n → (∀ i, i < n → 0 ≤ clo T k i i) ∨ (∀ i, i < n → 0 ≤ clF w T n k i i) → EqT n (clF w T n k) (clo T k) := by
 intro k
 induction k with
 | zero => intro _ _; exact EqT.refl _ _
 | succ k ih =>
   intro hk hd
   have hprev : (∀ i, i < n → 0 ≤ clo T k i i) ∨ (∀ i, i < n → 0 ≤ clF w T n k i i) := by
    rcases hd with hd | hd
    ·exact .inl fun i hi => Int.le_trans (hd i hi) (relax_le _ _ _ _)
    ·exact .inr fun i hi => Int.le_trans (hd i hi) (phF_le _ _ _ _ _ _ _)
   have e := ih (by omega) hprev
   have hdk : 0 ≤ clF w T n k k k := by
    rcases hprev with h | h
    ·rw [e k k (by omega) (by omega)]; exact h k (by omega)
    ·exact h k (by omega)
   have er := EqT.relax (k := k) (by omega) e
   intro a b ha hb
   show phF w (clF w T n k) n k n a b = relax k (clo T k) a b
   rw [phF_eq hw (by omega) (fun i j hi hj => Int.le_trans (by have := clF_mono w T n 0 k i j; simpa [clF] using this) (hle i j hi hj))
    (fun i j hi hj => by rw [e i j hi hj]; exact hlow k (by omega) i j hi hj) (fun i j hi hj => by rw [er i j hi hj]; exact hlow (k + 1) hk i j hi hj) hdk n (Nat.le_refl n) a b ha hb, if_pos ha]
   exact er a b ha hb

/-- Both ways of closing agree on whether it fits. -/
theorem clF_diag {w : Int → Int} (hw : Fine w) {n : Nat} {T : Tb} (hle : ∀ i j, i < n → j < n → T i j ≤ Far) (hlow : ∀ k, k ≤ n → Low n (clo T k)) :
  (∀ i, i < n → 0 ≤ clF w T n n i i) ↔ (∀ i, i < n → 0 ≤ clo T n i i) :=
 ⟨fun h i hi => by rw [← clF_eq hw hle hlow n (Nat.le_refl n) (.inr h) i i hi hi]; exact h i hi, fun h i hi => by rw [clF_eq hw hle hlow n (Nat.le_refl n) (.inl h) i i hi hi]; exact h i hi⟩

/-! ### the table of bounds -/

/-- All bounds go between the first n points, and no number is greater than M, without its sign. -/
def Within (n : Nat) (M : Int) (bs : List Bd) : Prop := ∀ b ∈ bs, (0 ≤ b.f ∧ b.f < n) ∧ (0 ≤ b.t ∧ b.t < n) ∧ (-M ≤ b.m ∧ b.m ≤ M)

theorem fold_ent (i j : Nat) : ∀ (bs : List Bd) (a : Int), bs.foldl (ent i j) a ≤ a ∧ (∀ b ∈ bs, b.f = (i : Int) → b.t = (j : Int) → bs.foldl (ent i j) a ≤ b.m) ∧
  (bs.foldl (ent i j) a = a ∨ ∃ b ∈ bs, b.f = (i : Int) ∧ b.t = (j : Int) ∧ bs.foldl (ent i j) a = b.m)
 | [], a => ⟨Int.le_refl _, by simp, .inl rfl⟩
 | c :: bs, a => by
   obtain ⟨h1, h2, h3⟩ := fold_ent i j bs (ent i j a c)
   have hc : ent i j a c ≤ a := by unfold ent; split <;> omega
   simp only [List.foldl_cons]
   refine ⟨by omega, fun b hb hf ht => ?_, ?_⟩
   ·rcases List.mem_cons.1 hb with rfl | hb
    ·have : ent i j a b ≤ b.m := by unfold ent; rw [if_pos ⟨hf, ht⟩]; omega
     omega
    ·exact h2 b hb hf ht
   ·rcases h3 with h3 | ⟨b, hb, hf, ht, h3⟩
    ·by_cases hcc : c.f = (i : Int) ∧ c.t = (j : Int)
     ·have e : ent i j a c = min a c.m := by unfold ent; rw [if_pos hcc]
      rw [e] at h3
      by_cases hm : a ≤ c.m
      ·left; rw [e]; omega
      ·right; exact ⟨c, List.mem_cons_self .., hcc.1, hcc.2, by rw [e]; omega⟩
     ·left
      have e : ent i j a c = a := by unfold ent; rw [if_neg hcc]
      rw [e] at h3 ⊢; exact h3
    ·exact .inr ⟨b, List.mem_cons_of_mem _ hb, hf, ht, h3⟩

theorem tab0_le (bs : List Bd) (i j : Nat) : tab0 bs i j ≤ Far ∧ (i = j → tab0 bs i j ≤ 0) := by
 have h := (fold_ent i j bs (if i = j then 0 else Far)).1
 constructor
 ·have : (if i = j then 0 else Far) ≤ Far := by unfold Far; split <;> omega
  exact Int.le_trans h this
 ·intro e; rw [if_pos e] at h; unfold tab0; rw [if_pos e]; exact h
theorem tab0_bound {bs : List Bd} {b : Bd} (hb : b ∈ bs) {i j : Nat} (hf : b.f = (i : Int)) (ht : b.t = (j : Int)) : tab0 bs i j ≤ b.m := (fold_ent i j bs _).2.1 b hb hf ht
theorem tab0_or (bs : List Bd) (i j : Nat) : tab0 bs i j = Far ∨ (i = j ∧ tab0 bs i j = 0) ∨ ∃ b ∈ bs, b.f = (i : Int) ∧ b.t = (j : Int) ∧ tab0 bs i j = b.m := by
 rcases (fold_ent i j bs (if i = j then 0 else Far)).2.2 with h | h
 ·by_cases e : i = j
  ·right; left; unfold tab0; rw [if_pos e] at h ⊢; exact ⟨e, h⟩
  ·left; unfold tab0; rw [if_neg e] at h ⊢; exact h
 ·exact .inr (.inr h)
theorem tab0_abs {n : Nat} {M : Int} (hM : 0 ≤ M) {bs : List Bd} (h : Within n M bs) (i j : Nat) : (tab0 bs i j < Far → tab0 bs i j ≤ M) ∧ (-M ≤ tab0 bs i j ∨ M > Far) := by
 rcases tab0_or bs i j with e | ⟨_, e⟩ | ⟨b, hb, _, _, e⟩
 ·rw [e]; constructor
  ·intro h; omega
  ·unfold Far; omega
 ·rw [e]; omega
 ·have := (h b hb).2.2; rw [e]; omega

theorem tab0_snoc (bs : List Bd) (b : Bd) (hf : 0 ≤ b.f) (ht : 0 ≤ b.t) : tab0 (bs ++ [b]) = upd (tab0 bs) b.f.toNat b.t.toNat (min (tab0 bs b.f.toNat b.t.toNat) b.m) := by
 funext i j
 have e : ∀ i j, tab0 (bs ++ [b]) i j = ent i j (tab0 bs i j) b := fun i j => by simp [tab0]
 rw [e]
 unfold ent upd
 by_cases h : i = b.f.toNat ∧ j = b.t.toNat
 ·obtain ⟨h1, h2⟩ := h
  rw [if_pos (by omega), if_pos ⟨h1, h2⟩, h1, h2]
 ·rw [if_neg (by omega), if_neg h]
/-- Times keep bounds. -/
def Sol (bs : List Bd) (x : Nat → Int) : Prop := ∀ b ∈ bs, x b.t.toNat - x b.f.toNat ≤ b.m

theorem tsol_tab0 {n : Nat} {M : Int} (hM : M < Far) {bs : List Bd} (h : Within n M bs) (x : Nat → Int) : TSol n (tab0 bs) x ↔ Sol bs x := by
 constructor
 ·intro hx b hb
  obtain ⟨⟨f1, f2⟩, ⟨t1, t2⟩, m1, m2⟩ := h b hb
  have := tab0_bound hb (i := b.f.toNat) (j := b.t.toNat) (by omega) (by omega)
  have := hx b.f.toNat b.t.toNat (by omega) (by omega) (by omega)
  omega
 ·intro hx i j hi hj hf
  rcases tab0_or bs i j with e | ⟨e1, e⟩ | ⟨b, hb, hbf, hbt, e⟩
  ·omega
  ·subst e1; omega
  ·have := hx b hb
   rw [hbf, hbt] at this
   simp only [Int.toNat_natCast] at this
   omega

theorem clo_abs {n : Nat} {T : Tb} {U : Int} (hU : 0 ≤ U) (h : ∀ i j, i < n → j < n → (T i j < Far → T i j ≤ U) ∧ -U ≤ T i j) :
  ∀ k, k ≤ n → ∀ i j, i < n → j < n → (clo T k i j < Far → clo T k i j ≤ 2 ^ k * U) ∧ -(2 ^ k * U) ≤ clo T k i j := by
 intro k
 induction k with
 | zero => intro _ i j hi hj; simpa [clo] using h i j hi hj
 | succ k ih =>
   intro hk i j hi hj
   have e : (2 : Int) ^ (k + 1) * U = 2 * (2 ^ k * U) := by rw [Int.pow_succ]; rw [Int.mul_comm (2 ^ k) 2, Int.mul_assoc]
   have hp : 0 ≤ (2 : Int) ^ k * U := Int.mul_nonneg (Int.pow_nonneg (by omega)) hU
   rw [e]
   generalize (2 : Int) ^ k * U = V at *
   have a := ih (by omega) i j hi hj
   have b := ih (by omega) i k hi (by omega)
   have c := ih (by omega) k j (by omega) hj
   have ec : clo T (k + 1) i j = relax k (clo T k) i j := rfl
   rw [ec]
   rcases relax_or k (clo T k) i j with e' | ⟨f1, f2, e'⟩
   ·rw [e']; omega
   ·rw [e']
    have := b.1 f1; have := c.1 f2; omega

/-- Numbers that are not great: each stage is mild, and low enough. -/
theorem small_ok {n : Nat} (hn : n ≤ 6) {M : Int} (h0 : 0 ≤ M) (hM : M ≤ 700) {bs : List Bd} (h : Within n M bs) :
  MildTo n (tab0 bs) ∧ ∀ k, k ≤ n → Low n (clo (tab0 bs) k) := by
 have key := clo_abs (n := n) (T := tab0 bs) (U := M) h0 (fun i j _ _ => ⟨(tab0_abs h0 h i j).1, by have := (tab0_abs h0 h i j).2; unfold Far at this; omega⟩)
 have hp : ∀ k, k ≤ n → (2 : Int) ^ k * M ≤ 64 * 700 := by
  intro k hk
  have : (2 : Int) ^ k ≤ 64 := by
   have : k = 0 ∨ k = 1 ∨ k = 2 ∨ k = 3 ∨ k = 4 ∨ k = 5 ∨ k = 6 := by omega
   rcases this with rfl | rfl | rfl | rfl | rfl | rfl | rfl <;> decide
  exact Int.mul_le_mul this hM h0 (by omega)
 refine ⟨fun k hk i j hi hj hf => ?_, fun k hk i j hi hj => ?_⟩
 ·have := (key k hk i j hi hj).1 hf
  have := hp k hk
  unfold Far; omega
 ·have := (key k hk i j hi hj).2
  have := hp k hk
  omega

theorem within_of_ok {p : Pl} (h : planOk p = true) : Within (nn p) 99 p.bs := by
 obtain ⟨⟨h1, h2⟩, _, hb⟩ := planOk_iff.1 h
 intro b hbm
 have := bdOk_iff.1 (hb b hbm)
 unfold nn; omega
theorem nn_ok {p : Pl} (h : planOk p = true) : nn p ≤ 6 ∧ 1 ≤ nn p ∧ (nn p : Int) = p.n := by
 obtain ⟨⟨h1, h2⟩, _⟩ := planOk_iff.1 h
 unfold nn; omega

theorem clT_le {p : Pl} (i j : Nat) : clT p i j ≤ Far := Int.le_trans (clo_le _ _ i j) (tab0_le _ i j).1
theorem planOk_of_fits {p : Pl} (h : fits p = true) : planOk p = true := by unfold fits at h; simp at h; exact h.1
end Pp
end Go.Proofs.YtmnajkhoacogjaaGreatDoor
