/-
  A region that draws its order, loads taken first under S; S need not hold behind one last operation e (a store into a cell that the region loads), which waits for all that is so taken.
-/
import Derived.StillTail
import Derived.Deep.RegionHeld
namespace Go.Proofs.Ytdijfkpccbkdfaa
set_option linter.unusedVariables false
set_option linter.unusedSimpArgs false
open Go

section
variable {P : Program} {ops : Array Oper} {Q : Exit → Act → World → Prop} {md : Region.Mode} {S : World → Prop} {e : Nat}

/-- Whatever order is picked from here on; behind each operation but e S holds. -/
def wpE (P : Program) (md : Region.Mode) (ops : Array Oper) (Q : Exit → Act → World → Prop) (S : World → Prop) (e : Nat) : Nat → Array Bool → Act → World → Prop
  | 0, listed, a, w => Region.ready md ops listed = [] ∧ Q .normal a w
  | fuel + 1, listed, a, w =>
    (Region.ready md ops listed = [] → Q .normal a w) ∧
    ∀ i ∈ Region.ready md ops listed, wpOp P ops Q i (fun a' w' => (i = e ∨ S w') ∧ wpE P md ops Q S e fuel (listed.setIfInBounds i true) a' w') a w

theorem wpE_any : ∀ (fuel : Nat) (listed : Array Bool) (a : Act) (w : World), wpE P md ops Q S e fuel listed a w → wpAny P md ops Q fuel listed a w
  | 0, _, _, _, h => h
  | fuel + 1, _, _, _, h => ⟨h.1, fun i hi => wpOp_mono (fun a' w' h' => wpE_any fuel _ a' w' h'.2) (h.2 i hi)⟩

/-- e is behind i: all of these have not come up, and each of us waits for one of them. -/
def lateB (md : Region.Mode) (ops : Array Oper) (listed : Array Bool) (i : Nat) (us : List Nat) : Bool :=
  (i :: us).all (fun y => !(listed.getD y true)) && us.all (fun y => (i :: us).any fun x => Region.waitsFor md ops y x)

theorem late_not_ready {listed : Array Bool} {i j : Nat} {us : List Nat} (h : lateB md ops listed i us = true) (hj : j ∈ Region.ready md ops listed) : j ∉ us := by
  intro hju
  unfold lateB at h
  simp only [Bool.and_eq_true, List.all_eq_true] at h
  obtain ⟨h1, h2⟩ := h
  obtain ⟨x, hx, hw⟩ := List.any_eq_true.1 (h2 j hju)
  have hux := h1 x hx
  obtain ⟨oj, hoj, f, hf, hb, hon⟩ := Region.waitsFor_spec hw
  obtain ⟨_, oj', hoj', hall⟩ := mem_ready.1 hj
  rw [hoj] at hoj'
  cases hoj'
  have h3 := hall f hf hb
  rw [hon] at h3
  rcases Nat.lt_or_ge x listed.size with h' | h'
  · simp [h'] at h3 hux; rw [h3] at hux; cases hux
  · simp [Array.getElem?_eq_none h'] at h3
theorem late_set {listed : Array Bool} {i j : Nat} {us : List Nat} (h : lateB md ops listed i us = true) (hj : j ∉ us) (hji : j ≠ i) : lateB md ops (listed.setIfInBounds j true) i us = true := by
  unfold lateB at *
  simp only [Bool.and_eq_true] at h ⊢
  refine ⟨?_, h.2⟩
  rw [List.all_eq_true] at *
  intro y hy
  have hne : j ≠ y := by
    intro e'
    subst e'
    rcases List.mem_cons.1 hy with h' | h'
    · exact hji h'
    · exact hj h'
  rw [getD_set_ne true hne]
  exact h.1 y hy

theorem wpE_first {i : Nat} {oi : Oper} {v : Value} {us : List Nat} (heu : e ∈ us) (hi : ops[i]? = some oi) (hsel : ∀ (j : Nat) (o : Oper) cs b, ops[j]? = some o → o.op ≠ .select cs b)
    (hQ : ∀ c a w, Q (.panic c) (a.put oi.dst v) w → Q (.panic c) a w) :
    ∀ (fuel : Nat) (listed : Array Bool) (a : Act) (w : World), lateB md ops listed i us = true →
      (∀ j oj, ops[j]? = some oj → j ≠ i → listed.getD j true = false → (∀ f ∈ oj.after, Region.binds md f = true → f.on ≠ i) → oi.apart ops oj = true) →
      i ∈ Region.ready md ops listed → YieldsIf P ops S oi v a → S w →
      wpE P md ops Q S e fuel (listed.setIfInBounds i true) (a.put oi.dst v) w → wpE P md ops Q S e (fuel + 1) listed a w := by
  intro fuel
  induction fuel with
  | zero =>
    intro listed a w _ _ hr hy hS H
    refine ⟨fun h => (by rw [h] at hr; cases hr), fun j hj => ?_⟩
    by_cases hji : j = i
    · subst hji; exact hy.wpOp hi hS ⟨.inr hS, H⟩
    · have := ready_mono hj hji
      rw [H.1] at this
      cases this
  | succ fuel ih =>
    intro listed a w hlate hfree hr hy hS H
    refine ⟨fun h => (by rw [h] at hr; cases hr), fun j hj => ?_⟩
    by_cases hji : j = i
    · subst hji; exact hy.wpOp hi hS ⟨.inr hS, H⟩
    · have h1 := H.2 j (ready_mono hj hji)
      have hju := late_not_ready hlate hj
      have hje : j ≠ e := fun h => hju (h ▸ heu)
      obtain ⟨hjun, oj, hoj, hall⟩ := mem_ready.1 hj
      have hnot : ∀ f ∈ oj.after, Region.binds md f = true → f.on ≠ i := fun f hf hb heq => by
        have h1 := hall f hf hb
        have h0 := (mem_ready.1 hr).1
        rw [heq] at h1
        rcases Nat.lt_or_ge i listed.size with h' | h'
        · simp [h'] at h0 h1; rw [h0] at h1; cases h1
        · simp [Array.getElem?_eq_none h'] at h1
      have h2 := wpOp_putIf hoj (hfree j oj hoj hji hjun hnot) (fun cs b => hsel i oi cs b hi) (fun cs b => hsel j oj cs b hoj) hQ hy h1
      have hfree' : ∀ k ok, ops[k]? = some ok → k ≠ i → (listed.setIfInBounds j true).getD k true = false →
          (∀ f ∈ ok.after, Region.binds md f = true → f.on ≠ i) → oi.apart ops ok = true := fun k ok hk hki hun hno => by
        refine hfree k ok hk hki ?_ hno
        by_cases hjk : j = k
        · subst hjk; exact hjun
        · rw [getD_set_ne true hjk] at hun; exact hun
      refine wpOp_mono (fun a' w' h3 => ?_) h2
      have hSw : S w' := h3.2.1.resolve_left hje
      refine ⟨.inr hSw, ih (listed.setIfInBounds j true) a' w' (late_set hlate hju hji) hfree' (ready_mono hr (Ne.symm hji)) h3.1 hSw ?_⟩
      rw [Array.setIfInBounds_comm _ _ hji]
      exact h3.2.2

theorem wpE_take {i : Nat} {oi : Oper} {v : Value} {us : List Nat} {fuel : Nat} {listed : Array Bool} {a : Act} {w : World} (hi : ops[i]? = some oi) (hlate : (us.contains e && lateB md ops listed i us) = true)
    (hs : Region.noSelect ops = true) (hf : Region.free md ops listed i = true) (hr : (Region.ready md ops listed).contains i = true)
    (hQ : ∀ c a w, Q (.panic c) (a.put oi.dst v) w → Q (.panic c) a w) (hy : YieldsIf P ops S oi v a) (hS : S w)
    (h : wpE P md ops Q S e fuel (listed.setIfInBounds i true) (a.put oi.dst v) w) : wpE P md ops Q S e (fuel + 1) listed a w := by
  simp only [Bool.and_eq_true] at hlate
  exact wpE_first (by simpa using hlate.1) hi (Region.noSelect_spec hs) hQ fuel listed a w hlate.2 (Region.free_spec hi hf) (by simpa using hr) hy hS h

theorem wpE_take' {v : Value} {fuel : Nat} {listed : Array Bool} {a : Act} {w : World} (i : Nat) (us : List Nat) (hi : i < ops.size) (hlate : (us.contains e && lateB md ops listed i us) = true)
    (hs : Region.noSelect ops = true) (hf : Region.free md ops listed i = true) (hr : (Region.ready md ops listed).contains i = true)
    (hQ : ∀ c a w, Q (.panic c) (a.put ops[i].dst v) w → Q (.panic c) a w) (hg : ops[i].guard = none) (hy : ∀ w, S w → (execOp a.eval ops[i]).run P w = .ok (.value v) w) (hS : S w)
    (h : wpE P md ops Q S e fuel (listed.setIfInBounds i true) (a.put ops[i].dst v) w) : wpE P md ops Q S e (fuel + 1) listed a w :=
  wpE_take (i := i) (us := us) (Array.getElem?_eq_getElem hi) hlate hs hf hr hQ (.inl ⟨by unfold Region.wanted; rw [hg], hy⟩) hS h

theorem wpE_step {i : Nat} {o : Oper} {fuel : Nat} {listed : Array Bool} {a : Act} {w : World} (ho : ops[i]? = some o) (hr : Region.ready md ops listed = [i])
    (h : ∀ K' : Act → World → Prop, Shut (∀ a w, (i = e ∨ S w) → wpE P md ops Q S e fuel (listed.setIfInBounds i true) a w → K' a w) → if Region.wanted o (yielded ops a.tmps) = true then Oper.wp P o a w K' Q else K' (a.put o.dst undef) w) :
    wpE P md ops Q S e (fuel + 1) listed a w := by
  refine ⟨fun h0 => (by rw [hr] at h0; cases h0), fun j hj => ?_⟩
  rw [hr] at hj
  obtain rfl := List.mem_singleton.1 hj
  exact wpOp_step ho (fun K' hK => h K' (fun a w hS hW => hK a w ⟨hS, hW⟩))

theorem wpE_step' {fuel : Nat} {listed : Array Bool} {a : Act} {w : World} (i : Nat) (hi : i < ops.size) (hg : ops[i].guard = none) (hr : Region.ready md ops listed = [i])
    (h : ∀ K' : Act → World → Prop, Shut (∀ a w, (i = e ∨ S w) → wpE P md ops Q S e fuel (listed.setIfInBounds i true) a w → K' a w) → Oper.wp P ops[i] a w K' Q) :
    wpE P md ops Q S e (fuel + 1) listed a w :=
  wpE_step (Array.getElem?_eq_getElem hi) hr fun K' hK => by
    rw [if_pos (by unfold Region.wanted; rw [hg])]
    exact h K' hK

/-- Two may come up. -/
theorem wpE_two {fuel : Nat} {listed : Array Bool} {a : Act} {w : World} (i j : Nat) (hi : i < ops.size) (hj : j < ops.size) (hgi : ops[i].guard = none) (hgj : ops[j].guard = none) (hr : Region.ready md ops listed = [i, j])
    (h : ∀ K' : Act → World → Prop, Shut (∀ a w, (i = e ∨ S w) → wpE P md ops Q S e fuel (listed.setIfInBounds i true) a w → K' a w) → Oper.wp P ops[i] a w K' Q)
    (h2 : ∀ K' : Act → World → Prop, Shut (∀ a w, (j = e ∨ S w) → wpE P md ops Q S e fuel (listed.setIfInBounds j true) a w → K' a w) → Oper.wp P ops[j] a w K' Q) :
    wpE P md ops Q S e (fuel + 1) listed a w := by
  refine ⟨fun h0 => (by rw [hr] at h0; cases h0), fun k hk => ?_⟩
  rw [hr] at hk
  rcases List.mem_cons.1 hk with rfl | hk
  · refine wpOp_step (Array.getElem?_eq_getElem hi) (fun K' hK => ?_)
    rw [if_pos (by unfold Region.wanted; rw [hgi])]
    exact h K' (fun a w hS hW => hK a w ⟨hS, hW⟩)
  · obtain rfl := List.mem_singleton.1 hk
    refine wpOp_step (Array.getElem?_eq_getElem hj) (fun K' hK => ?_)
    rw [if_pos (by unfold Region.wanted; rw [hgj])]
    exact h2 K' (fun a w hS hW => hK a w ⟨hS, hW⟩)

theorem wpE_done {listed : Array Bool} {a : Act} {w : World} (hr : Region.ready md ops listed = []) (h : Q .normal a w) : ∀ fuel, wpE P md ops Q S e fuel listed a w
  | 0 => ⟨hr, h⟩
  | _ + 1 => ⟨fun _ => h, by rw [hr]; simp⟩

theorem wp_regionE {id : Nat} {a : Act} {w : World} (S : World → Prop) (e : Nat) (hm : P.follows .mixedOrders = true)
    (h : wpE P .any ops Q S e ops.size (Array.replicate ops.size false) a w.drew) : (Code.region id ops true).wp P Q a w :=
  wp_region_any hm (wpE_any _ _ _ _ h)
end
end Go.Proofs.Ytdijfkpccbkdfaa
