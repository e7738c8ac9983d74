/-
  The run: a new state, a step, as many steps as there are points. No program.
-/
import Derived.Test.YtjlaljnffmncpaaP10
namespace Go.Proofs.Ytjlaljnffmncpaa
set_option linter.unusedVariables false
set_option linter.unusedSimpArgs false
namespace Pp

def stateNew (p : Pl) : St × Bool := if fits p then (⟨0, 0 :: List.replicate (nn p - 1) (-1)⟩, true) else (⟨0, []⟩, false)
theorem stateNew_ok {p : Pl} (h : fits p = true) : stateOk p (stateNew p).1 = true := by
  have hn := nn_ok (planOk_of_fits h)
  rw [stateOk_iff]
  unfold stateNew
  rw [if_pos h]
  refine ⟨h, ?_, by simp, by simp, ?_⟩
  · simp; omega
  · intro x hx
    simp only [List.mem_cons, List.mem_replicate] at hx
    dsimp only
    omega

theorem doAt_ok {p : Pl} {s q : St} {pt t : Int} (h : doAt p s pt t = (q, true)) : stateOk p q = true := by
  unfold doAt at h
  split at h
  · rename_i hs
    split at h
    · rename_i hm
      injection h with h1 _
      subst h1
      have hS := stateOk_iff.1 hs
      unfold mayDo at hm
      simp only [Bool.and_eq_true, decide_eq_true_eq, inB_iff] at hm
      obtain ⟨⟨⟨hr, hw1, hw2⟩, _⟩, h2000⟩ := hm
      unfold isReady at hr
      simp only [Bool.and_eq_true] at hr
      obtain ⟨⟨_, ho⟩, _⟩ := hr
      rw [window_yes hs ho] at hw1
      dsimp only at hw1
      obtain ⟨⟨p0, p1⟩, hv⟩ := openB_iff.1 ho
      have hlow : ∀ k, s.now ≤ (winTo (clT p) s.done s.now pt.toNat k).1 := by
        intro k
        induction k with
        | zero => exact Int.le_refl _
        | succ k ih =>
          simp only [winTo, winAt]
          split
          · exact ih
          · dsimp only; split <;> omega
      have hnow := hlow (nn p)
      have hn0 := hS.now
      rw [stateOk_iff]
      refine ⟨hS.fit, by simpa using hS.len, ⟨by dsimp only; omega, h2000⟩, ?_, ?_⟩
      · dsimp only
        have hne : pt.toNat ≠ 0 := fun e => by rw [e, hS.zero] at hv; omega
        rw [List.getD_eq_getElem?_getD, List.getElem?_set]
        rw [if_neg hne, ← List.getD_eq_getElem?_getD]
        exact hS.zero
      · intro x hx
        dsimp only at hx ⊢
        rcases List.mem_or_eq_of_mem_set hx with h | h
        · have := hS.all x h; omega
        · omega
    · injection h with _ h2; cases h2
  · injection h with _ h2; cases h2

def readyTo (p : Pl) (s : St) : Nat → List Int
  | 0 => []
  | k + 1 => if isReady p s (k : Int) then readyTo p s k ++ [(k : Int)] else readyTo p s k
theorem readyTo_le (p : Pl) (s : St) : ∀ k, (readyTo p s k).length ≤ k
  | 0 => Nat.le_refl _
  | k + 1 => by
    have := readyTo_le p s k
    simp only [readyTo]
    split
    · simp; omega
    · omega
def ixOf (pick : Int) (len j : Nat) : Nat := ((pick % len + j) % len).toNat
theorem ixOf_lt {pick : Int} {len j : Nat} (h : 0 < len) : ixOf pick len j < len := by
  unfold ixOf
  have h1 : 0 ≤ (pick % len + j) % len := Int.emod_nonneg _ (by omega)
  have h2 : (pick % len + j) % len < len := Int.emod_lt_of_pos _ (by omega)
  omega
theorem ixOf_eq {pick : Int} {len j : Nat} (h : 0 < len) (hp : 0 ≤ pick) : ((Int.tmod (Int.tmod pick len + j) len)) = (ixOf pick len j : Int) := by
  unfold ixOf
  have h1 : 0 ≤ pick % (len : Int) := Int.emod_nonneg _ (by omega)
  have h3 : 0 ≤ (pick % len + j) % len := Int.emod_nonneg _ (by omega)
  rw [Int.tmod_eq_emod_of_nonneg hp, Int.tmod_eq_emod_of_nonneg (by omega), Int.toNat_of_nonneg h3]

def tryFrom (p : Pl) (s : St) (rs : List Int) (pick : Int) : Nat → St
  | 0 => s
  | m + 1 =>
    if (doAt p s (rs.getD (ixOf pick rs.length (rs.length - (m + 1))) 0) (window p s (rs.getD (ixOf pick rs.length (rs.length - (m + 1))) 0)).1).2
    then (doAt p s (rs.getD (ixOf pick rs.length (rs.length - (m + 1))) 0) (window p s (rs.getD (ixOf pick rs.length (rs.length - (m + 1))) 0)).1).1
    else tryFrom p s rs pick m
theorem tryFrom_ok {p : Pl} {s : St} {rs : List Int} {pick : Int} (h : stateOk p s = true) : ∀ m, stateOk p (tryFrom p s rs pick m) = true
  | 0 => h
  | m + 1 => by
    simp only [tryFrom]
    split
    · rename_i hd
      exact doAt_ok (Prod.ext rfl hd)
    · exact tryFrom_ok h m
def stepR (p : Pl) (s : St) (pick : Int) : St := tryFrom p s (readyTo p s (nn p)) pick (readyTo p s (nn p)).length
def pickOf (picks : List Int) (k : Nat) : Int := max 0 (picks.getD k 0)
def runTo (p : Pl) (picks : List Int) : Nat → St
  | 0 => (stateNew p).1
  | k + 1 => stepR p (runTo p picks k) (pickOf picks k)
def runOf (p : Pl) (picks : List Int) : St × Bool := if fits p then (runTo p picks (nn p), true) else (⟨0, []⟩, false)
theorem runTo_ok {p : Pl} (h : fits p = true) (picks : List Int) : ∀ k, stateOk p (runTo p picks k) = true
  | 0 => stateNew_ok h
  | k + 1 => tryFrom_ok (runTo_ok h picks k) _
end Pp
end Go.Proofs.Ytjlaljnffmncpaa
