/-
  Plain laws: needless bounds, and plans that are trimmed.
-/
import Derived.Test.YtmnajkhoacogjaaP2
namespace Go.Proofs.Ytmnajkhoacogjaa
set_option linter.unusedVariables false
set_option linter.unusedSimpArgs false
namespace Pp

/-- A plan's bounds without one of them. -/
def del (bs : List Bd) (k : Nat) : List Bd := bs.eraseIdx k
def needless (p : Pl) (k : Nat) : Bool := decide (k < p.bs.length) && alike p ⟨p.n, del p.bs k⟩
/-- What impl.NeedlessOk and spec.NeedlessOk tell, of any number. -/
def needlessI (p : Pl) (k : Int) : Bool := decide (0 ≤ k) && needless p k.toNat
def trimGo (n : Int) : Nat → List Bd → List Bd
  | 0, bs => bs
  | k + 1, bs => trimGo n k (if needless ⟨n, bs⟩ k then del bs k else bs)
def trim (p : Pl) : Pl := if planOk p then ⟨p.n, trimGo p.n p.bs.length p.bs⟩ else ⟨0, []⟩

theorem del_length {bs : List Bd} {k : Nat} (h : k < bs.length) : (del bs k).length = bs.length - 1 := by unfold del; rw [List.length_eraseIdx, if_pos h]
theorem del_le (bs : List Bd) (k : Nat) : (del bs k).length ≤ bs.length := by unfold del; exact List.length_eraseIdx_le ..
theorem del_mem {bs : List Bd} {k : Nat} {x : Bd} (h : x ∈ del bs k) : x ∈ bs := by unfold del at h; exact List.mem_of_mem_eraseIdx h
theorem del_eq (bs : List Bd) (k : Nat) : del bs k = bs.take k ++ bs.drop (k + 1) := by unfold del; exact List.eraseIdx_eq_take_drop_succ ..
theorem del_ok {n : Int} {bs : List Bd} (h : planOk ⟨n, bs⟩ = true) (k : Nat) : planOk ⟨n, del bs k⟩ = true := by
  rw [planOk_iff] at h ⊢
  exact ⟨h.1, Nat.le_trans (del_le bs k) h.2.1, fun b hb => h.2.2 b (del_mem hb)⟩
theorem del_sol {bs : List Bd} {k : Nat} {y : Nat → Int} (h : Sol bs y) : Sol (del bs k) y := fun b hb => h b (del_mem hb)
theorem needless_iff {n : Int} {bs : List Bd} (h : planOk ⟨n, bs⟩ = true) (k : Nat) : needless ⟨n, bs⟩ k = true ↔ k < bs.length ∧ ∀ y, Sol (del bs k) y → Sol bs y := by
  unfold needless
  rw [Bool.and_eq_true, decide_eq_true_eq, alike_iff h (del_ok h k) rfl]
  exact ⟨fun ⟨h1, h2⟩ => ⟨h1, fun y hy => (h2 y).2 hy⟩, fun ⟨h1, h2⟩ => ⟨h1, fun y => ⟨del_sol, h2 y⟩⟩⟩
theorem del_del {bs : List Bd} {k j : Nat} (hkj : k ≤ j) {x : Bd} (h : x ∈ del (del bs k) j) : x ∈ del bs (j + 1) := by
  unfold del at h ⊢
  rw [List.mem_eraseIdx_iff_getElem?] at h ⊢
  obtain ⟨i, hij, hi⟩ := h
  rw [List.getElem?_eraseIdx] at hi
  split at hi
  · exact ⟨i, by omega, hi⟩
  · exact ⟨i + 1, by omega, hi⟩
theorem trimGo_spec {n : Int} : ∀ {k : Nat} {bs : List Bd}, planOk ⟨n, bs⟩ = true → k ≤ bs.length → (∀ j, k ≤ j → needless ⟨n, bs⟩ j = false) →
    planOk ⟨n, trimGo n k bs⟩ = true ∧ (∀ y, Sol (trimGo n k bs) y ↔ Sol bs y) ∧ ∀ j, needless ⟨n, trimGo n k bs⟩ j = false
  | 0, bs, h, _, hj => ⟨h, fun _ => Iff.rfl, fun j => hj j (Nat.zero_le _)⟩
  | k + 1, bs, h, hk, hj => by
    simp only [trimGo]
    cases hn : needless ⟨n, bs⟩ k
    · rw [if_neg (by simp)]
      refine trimGo_spec h (by omega) fun j hkj => ?_
      rcases Nat.eq_or_lt_of_le hkj with rfl | h2
      · exact hn
      · exact hj j h2
    · rw [if_pos rfl]
      have h1 := (needless_iff h k).1 hn
      have hd := del_ok h k
      have e : ∀ y, Sol (del bs k) y ↔ Sol bs y := fun y => ⟨h1.2 y, del_sol⟩
      have hl := del_length h1.1
      obtain ⟨r1, r2, r3⟩ := trimGo_spec (k := k) hd (by omega) (fun j hkj => by
        cases hc : needless ⟨n, del bs k⟩ j
        · rfl
        · have h2 := (needless_iff hd j).1 hc
          have := hj (j + 1) (by omega)
          rw [(needless_iff h (j + 1)).2 ⟨by omega, fun y hy => (e y).1 (h2.2 y fun b hb => hy b (del_del hkj hb))⟩] at this
          cases this)
      exact ⟨r1, fun y => (r2 y).trans (e y), r3⟩
theorem trimGo_none {n : Int} : ∀ {k : Nat} {bs : List Bd}, (∀ j, needless ⟨n, bs⟩ j = false) → trimGo n k bs = bs
  | 0, _, _ => rfl
  | k + 1, bs, h => by simp only [trimGo]; rw [h k, if_neg (by simp)]; exact trimGo_none h
theorem trimGo_le {n : Int} : ∀ (k : Nat) (bs : List Bd), (trimGo n k bs).length ≤ bs.length
  | 0, _ => Nat.le_refl _
  | k + 1, bs => by
    simp only [trimGo]
    split
    · exact Nat.le_trans (trimGo_le k _) (del_le bs k)
    · exact trimGo_le k bs
theorem trim_ok {p : Pl} (h : planOk p = true) : planOk (trim p) = true ∧ (trim p).n = p.n ∧ (∀ j, needless (trim p) j = false) ∧ alike (trim p) p = true ∧ trim (trim p) = trim p ∧ (trim p).bs.length ≤ 16 := by
  have e : trim p = ⟨p.n, trimGo p.n p.bs.length p.bs⟩ := by unfold trim; rw [if_pos h]
  obtain ⟨r1, r2, r3⟩ := trimGo_spec (n := p.n) (bs := p.bs) h (Nat.le_refl _) (fun j hj => by unfold needless; rw [decide_eq_false (by dsimp only; omega)]; rfl)
  rw [e]
  refine ⟨r1, rfl, r3, (alike_iff r1 h rfl).2 r2, ?_, (planOk_iff.1 r1).2.1⟩
  unfold trim
  rw [if_pos r1]
  dsimp only
  rw [trimGo_none r3]
theorem trim_no {p : Pl} (h : planOk p = false) : trim p = ⟨0, []⟩ := by unfold trim; rw [h]; rfl
end Pp
end Go.Proofs.Ytmnajkhoacogjaa
