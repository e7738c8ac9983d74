/-
  The laws of ways, plain: their count by the last choice.
-/
import Derived.Test.YtledgblepdjjlaaP24
namespace Go.Proofs.Ytledgblepdjjlaa.Pp

def sumN (f : Nat → Nat) : Nat → Nat
  | 0 => 0
  | k + 1 => sumN f k + f k
theorem sumN_add (f g : Nat → Nat) : ∀ k, sumN (fun i => f i + g i) k = sumN f k + sumN g k
  | 0 => rfl
  | k + 1 => by simp only [sumN]; rw [sumN_add f g k]; omega
theorem sumN_zero : ∀ k, sumN (fun _ => 0) k = 0
  | 0 => rfl
  | k + 1 => by simp only [sumN]; rw [sumN_zero k]
theorem sumN_congr {f g : Nat → Nat} : ∀ k, (∀ i, i < k → f i = g i) → sumN f k = sumN g k
  | 0, _ => rfl
  | k + 1, h => by simp only [sumN]; rw [sumN_congr k (fun i hi => h i (by omega)), h k (by omega)]
theorem sumN_le {f : Nat → Nat} {c : Nat} (h : ∀ i, f i ≤ c) : ∀ k, sumN f k ≤ c * k
  | 0 => Nat.zero_le _
  | k + 1 => by simp only [sumN]; have := sumN_le h k; have := h k; rw [Nat.mul_succ]; omega
theorem count_map (F : List Int → Bool) (g : Nat → List Int) : ∀ L, (((List.range L).map g).filter F).length = sumN (fun i => if F (g i) then 1 else 0) L
  | 0 => rfl
  | L + 1 => by
    rw [List.range_succ, List.map_append, List.filter_append, List.length_append, count_map F g L]
    simp only [sumN, List.map_cons, List.map_nil]
    cases h : F (g L) <;> simp [h]
theorem count_flat (F : List Int → Bool) (L : Nat) : ∀ Z : List (List Int), ((Z.flatMap fun ks => (List.range L).map fun (i : Nat) => ks ++ [(i : Int)]).filter F).length = sumN (fun i => (Z.filter fun ks => F (ks ++ [(i : Int)])).length) L
  | [] => by simp [sumN_zero]
  | ks :: Z => by
    rw [List.flatMap_cons, List.filter_append, List.length_append, count_map, count_flat F L Z, ← sumN_add]
    refine sumN_congr L fun i _ => ?_
    rw [List.filter_cons]
    cases h : F (ks ++ [(i : Int)])
    · simp
    · simp; omega
theorem allB_take (cs : List (List Bd)) (m : Nat) : ∀ k, k ≤ m → allB (cs.take m) k = allB cs k
  | 0, _ => rfl
  | k + 1, h => by
    simp only [allB]
    rw [allB_take cs m k (by omega)]
    have e : (cs.take m).getD k [] = cs.getD k [] := by
      simp only [List.getD_eq_getElem?_getD, List.getElem?_take]
      rw [if_pos (by omega)]
    rw [e]
theorem picked_front : ∀ {cs : List (List Bd)} {ks : List Int} {m : Nat}, ks.length ≤ m → picked (cs.take m) ks = picked cs ks
  | [], ks, m, _ => by simp
  | l :: cs, [], m, _ => by cases m <;> simp [picked]
  | l :: cs, k :: ks, 0, h => by simp at h
  | l :: cs, k :: ks, m + 1, h => by simp only [List.take_succ_cons, picked]; rw [picked_front (by simpa using h)]
theorem fits_perm {n : Int} {a b : List Bd} (hp : planOk ⟨n, a⟩ = true) (hq : planOk ⟨n, b⟩ = true) (h : ∀ x, x ∈ a ↔ x ∈ b) : fits ⟨n, a⟩ = fits ⟨n, b⟩ := by
  rw [Bool.eq_iff_iff, fits_iff hp, fits_iff hq]
  constructor
  · rintro ⟨y, hy⟩; exact ⟨y, fun x hx => hy x ((h x).2 hx)⟩
  · rintro ⟨y, hy⟩; exact ⟨y, fun x hx => hy x ((h x).1 hx)⟩
theorem case_more {n : Int} {bs : List Bd} {cs : List (List Bd)} {l : List Bd} {x : Bd} (m : Nat) (hc : caseOk ⟨n, bs⟩ cs = true) (hb : bs.length < 12) (hl : l ∈ cs) (hx : x ∈ l) : planOk ⟨n, bs ++ [x]⟩ = true ∧ caseOk ⟨n, bs ++ [x]⟩ (cs.take m) = true := by
  obtain ⟨h1, h2, h3, h4⟩ := caseOk_iff.1 hc
  obtain ⟨a1, a2, a3⟩ := planOk_iff.1 h1
  have h5 := (listOk_iff.1 (h4 l hl)).2 x hx
  have hp : planOk ⟨n, bs ++ [x]⟩ = true := planOk_iff.2 ⟨a1, by simp; omega, fun y hy => by
    rcases List.mem_append.1 hy with hy | hy
    · exact a3 y hy
    · rw [List.mem_singleton] at hy; subst hy; exact h5⟩
  exact ⟨hp, caseOk_iff.2 ⟨hp, by simp; omega, by rw [List.length_take]; omega, fun y hy => h4 y (List.mem_of_mem_take hy)⟩⟩
theorem count_last {n : Int} {bs : List Bd} {cs : List (List Bd)} {m : Nat} {l : List Bd} (hc : caseOk ⟨n, bs⟩ cs = true) (hb : bs.length < 12) (hm : cs.length = m + 1) (hl : cs[m]? = some l) :
    countW ⟨n, bs⟩ cs = ((sumN (fun k => (ways ⟨n, bs ++ [pickAt l (k : Int)]⟩ (cs.take m)).length) l.length : Nat) : Int) := by
  have hk : ∀ k : Nat, k < l.length → pickAt l (k : Int) ∈ l := fun k hk => List.mem_of_getElem? (pickAt_get (k := (k : Int)) ⟨by omega, by omega⟩)
  have hlm := List.mem_of_getElem? hl
  unfold countW
  rw [if_pos hc, ways_allB hc, hm, allB]
  have e : cs.getD m [] = l := by rw [List.getD_eq_getElem?_getD, hl]; rfl
  rw [e, count_flat]
  congr 1
  refine sumN_congr _ fun k hkl => ?_
  obtain ⟨hp, hc2⟩ := case_more m hc hb hlm (hk k hkl)
  rw [ways_allB hc2]
  have e2 : (cs.take m).length = m := by rw [List.length_take]; omega
  rw [e2, allB_take cs m m (Nat.le_refl _)]
  congr 1
  refine List.filter_congr fun ks hks => ?_
  have hlen := allB_len1 cs m ks hks
  have hok : picksOk (cs.take m) ks = true := by
    have h := hks
    rw [← allB_take cs m m (Nat.le_refl _)] at h
    have e3 : allB (cs.take m) m = allB (cs.take m) (cs.take m).length := by rw [e2]
    rw [e3] at h
    exact allB_ok h
  have hw1 := way_plan hc2 (ks := ks) (by omega) (fun i a b h1 h2 => (picksOk_iff.1 hok).2 i a b h1 h2)
  have hsn : picked cs (ks ++ [(k : Int)]) = picked cs ks ++ [pickAt l (k : Int)] := picked_snoc (by rw [hlen]; exact hl)
  have hfr : picked (cs.take m) ks = picked cs ks := picked_front (by omega)
  unfold fitsW wayP
  unfold wayP at hw1
  dsimp only at hw1 ⊢
  rw [hfr] at hw1 ⊢
  rw [hsn]
  have hmem : ∀ x, x ∈ bs ++ (picked cs ks ++ [pickAt l (k : Int)]) ↔ x ∈ bs ++ [pickAt l (k : Int)] ++ picked cs ks := by
    intro x
    simp only [List.mem_append, List.mem_singleton]
    constructor
    · rintro (h | h | h)
      · exact .inl (.inl h)
      · exact .inr h
      · exact .inl (.inr h)
    · rintro ((h | h) | h)
      · exact .inl h
      · exact .inr (.inr h)
      · exact .inr (.inl h)
  refine fits_perm ?_ hw1 hmem
  obtain ⟨a1, a2, a3⟩ := planOk_iff.1 hw1
  refine planOk_iff.2 ⟨a1, ?_, fun x hx => a3 x ((hmem x).1 hx)⟩
  simp only [List.length_append, List.length_singleton] at a2 ⊢
  omega
theorem count_none {n : Int} {bs : List Bd} (hc : caseOk ⟨n, bs⟩ [] = true) : countW ⟨n, bs⟩ [] = if fits ⟨n, bs⟩ then 1 else 0 := by
  unfold countW
  rw [if_pos hc, ways_allB hc]
  simp only [List.length_nil, allB, List.filter_cons, List.filter_nil]
  have e : fitsW ⟨n, bs⟩ [] [] = fits ⟨n, bs⟩ := by unfold fitsW wayP; simp [picked]
  rw [e]
  cases fits ⟨n, bs⟩ <;> simp
theorem countW_yes {p : Pl} {cs : List (List Bd)} (hc : caseOk p cs = true) : countW p cs = ((ways p cs).length : Int) := by unfold countW; rw [if_pos hc]
theorem countW_bound (p : Pl) (cs : List (List Bd)) : -1 ≤ countW p cs ∧ countW p cs ≤ 81 := by
  unfold countW
  split
  · have := ways_len p cs; omega
  · omega
end Go.Proofs.Ytledgblepdjjlaa.Pp
