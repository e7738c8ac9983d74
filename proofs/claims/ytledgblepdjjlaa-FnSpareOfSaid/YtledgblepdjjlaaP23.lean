/-
  Tables of paths: plain laws of fewestBad. No program.
-/
import Derived.Test.YtledgblepdjjlaaP22
namespace Go.Proofs.Ytledgblepdjjlaa
set_option linter.unusedVariables false
set_option linter.unusedSimpArgs false
namespace Pp

/-- Each number that is told is the sum of a path of L bounds. -/
def PathT (p : Pl) (n L : Nat) (T : Tb) : Prop := ∀ a b : Nat, a < n → b < n → T a b = Far ∨ ∃ r, path p (a : Int) (b : Int) r ∧ r.length = L ∧ sumR p r = T a b
/-- The same while rows from i on still have their first numbers. -/
def NextT (p : Pl) (n L i : Nat) (T : Tb) : Prop := ∀ a b : Nat, a < n → b < n → T a b = Far ∨ (a = b ∧ i ≤ a) ∨ ∃ r, path p (a : Int) (b : Int) r ∧ r.length = L ∧ sumR p r = T a b
theorem nextT_start (p : Pl) (n L : Nat) : NextT p n L 0 (tab0 []) := by
  intro a b _ _
  unfold tab0
  simp only [List.foldl_nil]
  by_cases e : a = b
  · exact .inr (.inl ⟨e, Nat.zero_le _⟩)
  · exact .inl (if_neg e)
theorem nextT_diag {p : Pl} {n L i : Nat} {T : Tb} (h : NextT p n L i T) : NextT p n L (i + 1) (upd T i i Far) := by
  intro a b ha hb
  unfold upd
  by_cases e : a = i ∧ b = i
  · exact .inl (if_pos e)
  · rw [if_neg e]
    rcases h a b ha hb with h1 | ⟨h1, h2⟩ | h1
    · exact .inl h1
    · exact .inr (.inl ⟨h1, by omega⟩)
    · exact .inr (.inr h1)
theorem nextT_done {p : Pl} {n L : Nat} {T : Tb} (h : NextT p n L n T) : PathT p n L T := by
  intro a b ha hb
  rcases h a b ha hb with h1 | ⟨h1, h2⟩ | h1
  · exact .inl h1
  · omega
  · exact .inr h1
theorem pathT_put {p : Pl} {n k f t : Nat} {m : Int} {T : Tb} (h : PathT p n 1 T) (hk : k < p.bs.length) (h1 : (bdAt p k).f = f) (h2 : (bdAt p k).t = t) (h3 : (bdAt p k).m = m) : PathT p n 1 (upd T f t (min (T f t) m)) := by
  intro a b ha hb
  unfold upd
  by_cases e : a = f ∧ b = t
  · rw [if_pos e]
    obtain ⟨rfl, rfl⟩ := e
    rcases Int.le_total (T a b) m with g | g
    · rw [Int.min_eq_left g]; exact h a b ha hb
    · rw [Int.min_eq_right g]; exact .inr ⟨[k], ⟨hk, h1, h2⟩, rfl, by simp [sumR, h3]⟩
  · rw [if_neg e]; exact h a b ha hb
theorem nextT_put {p : Pl} {n L i k j : Nat} {X T O : Tb} (h : NextT p n (L + 1) (i + 1) X) (hT : PathT p n L T) (hO : PathT p n 1 O) (hi : i < n) (hk : k < n) (hj : j < n) (g1 : T i k ≠ Far) (g2 : O k j ≠ Far) :
    NextT p n (L + 1) (i + 1) (upd X i j (min (X i j) (T i k + O k j))) := by
  intro a b ha hb
  unfold upd
  by_cases e : a = i ∧ b = j
  · rw [if_pos e]
    obtain ⟨rfl, rfl⟩ := e
    rcases Int.le_total (X a b) (T a k + O k b) with g | g
    · rw [Int.min_eq_left g]; exact h a b ha hb
    · rw [Int.min_eq_right g]
      rcases hT a k ha hk with c | ⟨r, r1, r2, r3⟩
      · exact absurd c g1
      · rcases hO k b hk hb with c | ⟨s, s1, s2, s3⟩
        · exact absurd c g2
        · exact .inr (.inr ⟨r ++ s, path_append.2 ⟨_, r1, s1⟩, by rw [List.length_append, r2, s2], by rw [sumR_append, r3, s3]⟩)
  · rw [if_neg e]; exact h a b ha hb
theorem sumR_bound {p : Pl} (hb : ∀ x ∈ p.bs, -99 ≤ x.m ∧ x.m ≤ 99) {i j : Int} : ∀ {r : List Nat}, path p i j r → -99 * (r.length : Int) ≤ sumR p r ∧ sumR p r ≤ 99 * (r.length : Int) := by
  intro r
  induction r generalizing i with
  | nil => intro _; simp [sumR]
  | cons a r ih =>
    rintro ⟨h1, _, h3⟩
    have e := ih h3
    have hm : bdAt p a ∈ p.bs := by unfold bdAt; rw [List.getD_eq_getElem?_getD, List.getElem?_eq_getElem h1]; exact List.getElem_mem _
    have := hb _ hm
    simp only [sumR, List.length_cons]
    omega
theorem pathT_bound {p : Pl} (hb : ∀ x ∈ p.bs, -99 ≤ x.m ∧ x.m ≤ 99) {n L : Nat} {T : Tb} (h : PathT p n L T) {a b : Nat} (ha : a < n) (hb' : b < n) : T a b = Far ∨ (-99 * (L : Int) ≤ T a b ∧ T a b ≤ 99 * (L : Int)) := by
  rcases h a b ha hb' with c | ⟨r, r1, r2, r3⟩
  · exact .inl c
  · have := sumR_bound hb r1
    rw [r2, r3] at this
    exact .inr this
/-- What fewestBad may say. -/
def Fewest (p : Pl) (m : Nat) : Prop := 1 ≤ m ∧ m ≤ 6 ∧ (m = 6 ∨ ∃ (i : Int) (r : List Nat), path p i i r ∧ r.length = m ∧ sumR p r < 0)
/-- Where no ring of at most so many bounds is bad, the plan fits. -/
theorem rings_all {p : Pl} (hp : planOk p = true) (hf : fits p = false) {m : Nat} (hm : Fewest p m) (h : ∀ (l : Nat) (i : Int) (r : List Nat), 1 ≤ l → l ≤ m → r.length = l → path p i i r → 0 ≤ sumR p r) : False := by
  obtain ⟨h1, h2, h3⟩ := hm
  rcases h3 with rfl | ⟨i, r, r1, r2, r3⟩
  · obtain ⟨j, r, r1, r2, r3⟩ := bad_some hp hf
    have h6 := (nn_ok hp).1
    have h0 : r ≠ [] := fun e => by subst e; simp [sumR] at r2
    have := h r.length j r (by cases r with | nil => exact absurd rfl h0 | cons a r => simp) (by omega) rfl r1
    omega
  · have := h m i r h1 (Nat.le_refl _) r2 r1
    omega
theorem low_at {p : Pl} {v : Int} {k : Nat} (hk : k < p.bs.length) : bdAt ⟨p.n, lowBs p v⟩ k = lowB v (bdAt p k) := by
  unfold bdAt lowBs
  rw [List.getD_eq_getElem?_getD, List.getD_eq_getElem?_getD, List.getElem?_map, List.getElem?_eq_getElem hk]; rfl
theorem low_path {p : Pl} {v : Int} {i j : Int} : ∀ {r : List Nat}, path ⟨p.n, lowBs p v⟩ i j r → path p i j r ∧ sumR ⟨p.n, lowBs p v⟩ r = sumR p r - v * (r.length : Int) := by
  intro r
  induction r generalizing i with
  | nil => intro h; exact ⟨h, by simp [sumR]⟩
  | cons a r ih =>
    rintro ⟨h1, h2, h3⟩
    have hk : a < p.bs.length := by simpa [lowBs] using h1
    rw [low_at hk] at h2 h3
    obtain ⟨e1, e2⟩ := ih h3
    refine ⟨⟨hk, h2, e1⟩, ?_⟩
    simp only [sumR, low_at hk, e2, List.length_cons, lowB]
    rw [Int.natCast_add, Int.mul_add]
    omega
end Pp
end Go.Proofs.Ytledgblepdjjlaa
