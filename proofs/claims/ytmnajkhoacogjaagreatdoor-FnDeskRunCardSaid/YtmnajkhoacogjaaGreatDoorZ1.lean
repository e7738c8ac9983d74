/-
 A region that draws its order, loads taken first under S; S need not hold behind one last operation e (a store into a cell that the region loads), which waits for all that is so taken.
 A drawn region in which one operation that makes a block may come up at any place of a chain: each step of the chain is walked once.
 A drawn region in which two operations that make blocks may come up at any place of a chain: each step of the chain is walked once.
-/
import Derived.StillTail
import Derived.Deep.RegionHeld
namespace Go.Proofs.YtmnajkhoacogjaaGreatDoor
set_option linter.unusedVariables false
set_option linter.unusedSimpArgs false
open Go

theorem xg0 {α : Type} {l : List α} {i : Nat} (h : i < l.toArray.size) : l.toArray[i] = l[i]'(by simpa using h) := rfl
theorem xg1 {α : Type} {a : α} {l : List α} {i : Nat} (h : i + 1 < (a :: l).length) : (a :: l)[i + 1] = l[i]'(Nat.lt_of_succ_lt_succ h) := rfl
theorem xg2 {α : Type} {a : α} {l : List α} (h : 0 < (a :: l).length) : (a :: l)[0] = a := rfl
theorem xs0 {α : Type} {l : List α} {i : Nat} {a : α} : l.toArray.setIfInBounds i a = (l.set i a).toArray := by simp
theorem xs1 {α : Type} {a b : α} {l : List α} : (a :: l).set 0 b = b :: l := rfl
theorem xs2 {α : Type} {a b : α} {l : List α} {i : Nat} : (a :: l).set (i + 1) b = a :: l.set i b := rfl

section
variable {P : Program} {ops : Array Oper} {Q : Exit → Act → World → Prop} {md : Region.Mode} {S : World → Prop} {e : Nat}

/-- Whatever order is picked from here on; behind each operation but e S holds. -/
def wpE (P : Program) (md : Region.Mode) (ops : Array Oper) (Q : Exit → Act → World → Prop) (S : World → Prop) (e : Nat) : Nat → Array Bool → Act → World → Prop
 | 0, listed, a, w => Region.ready md ops listed = [] ∧ Q .normal a w
 | fuel + 1, listed, a, w =>
   (Region.ready md ops listed = [] → Q .normal a w) ∧
   ∀ i ∈ Region.ready md ops listed, wpOp P ops Q i (fun a' w' => (i = e ∨ S w') ∧ wpE P md ops Q S e fuel (listed.setIfInBounds i true) a' w') a w

theorem wpE_any : ∀ (fuel : Nat) (listed : Array Bool) (a : Act) (w : World), wpE P md ops Q S e fuel listed a w → wpAny P md ops Q fuel listed a w
 | 0, _, _, _, h => h
 | fuel + 1, _, _, _, h => ⟨h.1, fun i hi => wpOp_mono (fun a' w' h' => wpE_any fuel _ a' w' h'.2) (h.2 i hi)⟩

/-- e is behind i: all of these have not come up, and each of us waits for one of them. -/
def lateB (md : Region.Mode) (ops : Array Oper) (listed : Array Bool) (i : Nat) (us : List Nat) : Bool :=
 (i :: us).all (fun y => !(listed.getD y true)) && us.all (fun y => (i :: us).any fun x => Region.waitsFor md ops y x)

theorem late_not_ready {listed : Array Bool} {i j : Nat} {us : List Nat} (h : lateB md ops listed i us = true) (hj : j ∈ Region.ready md ops listed) : j ∉ us := by
 intro hju
 unfold lateB at h
 simp only [Bool.and_eq_true, List.all_eq_true] at h
 obtain ⟨h1, h2⟩ := h
 obtain ⟨x, hx, hw⟩ := List.any_eq_true.1 (h2 j hju)
 have hux := h1 x hx
 obtain ⟨oj, hoj, f, hf, hb, hon⟩ := Region.waitsFor_spec hw
 obtain ⟨_, oj', hoj', hall⟩ := mem_ready.1 hj
 rw [hoj] at hoj'
 cases hoj'
 have h3 := hall f hf hb
 rw [hon] at h3
 rcases Nat.lt_or_ge x listed.size with h' | h'
 ·simp [h'] at h3 hux; rw [h3] at hux; cases hux
 ·simp [Array.getElem?_eq_none h'] at h3
theorem late_set {listed : Array Bool} {i j : Nat} {us : List Nat} (h : lateB md ops listed i us = true) (hj : j ∉ us) (hji : j ≠ i) : lateB md ops (listed.setIfInBounds j true) i us = true := by
 unfold lateB at *
 simp only [Bool.and_eq_true] at h ⊢
 refine ⟨?_, h.2⟩
 rw [List.all_eq_true] at *
 intro y hy
 have hne : j ≠ y := by
  intro e'
  subst e'
  rcases List.mem_cons.1 hy with h' | h'
  ·exact hji h'
  ·exact hj h'
 rw [getD_set_ne true hne]
 exact h.1 y hy

theorem wpE_first {i : Nat} {oi : Oper} {v : Value} {us : List Nat} (heu : e ∈ us) (hi : ops[i]? = some oi) (hsel : ∀ (j : Nat) (o : Oper) cs b, ops[j]? = some o → o.op ≠ .select cs b)
  (hQ : ∀ c a w, Q (.panic c) (a.put oi.dst v) w → Q (.panic c) a w) :
  ∀ (fuel : Nat) (listed : Array Bool) (a : Act) (w : World), lateB md ops listed i us = true →
   (∀ j oj, ops[j]? = some oj → j ≠ i → listed.getD j true = false → (∀ f ∈ oj.after, Region.binds md f = true → f.on ≠ i) → oi.apart ops oj = true) →
   i ∈ Region.ready md ops listed → YieldsIf P ops S oi v a → S w →
   wpE P md ops Q S e fuel (listed.setIfInBounds i true) (a.put oi.dst v) w → wpE P md ops Q S e (fuel + 1) listed a w := by
 intro fuel
 induction fuel with
 | zero =>
   intro listed a w _ _ hr hy hS H
   refine ⟨fun h => (by rw [h] at hr; cases hr), fun j hj => ?_⟩
   by_cases hji : j = i
   ·subst hji; exact hy.wpOp hi hS ⟨.inr hS, H⟩
   ·have := ready_mono hj hji
    rw [H.1] at this
    cases this
 | succ fuel ih =>
   intro listed a w hlate hfree hr hy hS H
   refine ⟨fun h => (by rw [h] at hr; cases hr), fun j hj => ?_⟩
   by_cases hji : j = i
   ·subst hji; exact hy.wpOp hi hS ⟨.inr hS, H⟩
   ·have h1 := H.2 j (ready_mono hj hji)
    have hju := late_not_ready hlate hj
    have hje : j ≠ e := fun h => hju (h ▸ heu)
    obtain ⟨hjun, oj, hoj, hall⟩ := mem_ready.1 hj
    have hnot : ∀ f ∈ oj.after, Region.binds md f = true → f.on ≠ i := fun f hf hb heq => by
     have h1 := hall f hf hb
     have h0 := (mem_ready.1 hr).1
     rw [heq] at h1
     rcases Nat.lt_or_ge i listed.size with h' | h'
     ·simp [h'] at h0 h1; rw [h0] at h1; cases h1
     ·simp [Array.getElem?_eq_none h'] at h1
    have h2 := wpOp_putIf hoj (hfree j oj hoj hji hjun hnot) (fun cs b => hsel i oi cs b hi) (fun cs b => hsel j oj cs b hoj) hQ hy h1
    have hfree' : ∀ k ok, ops[k]? = some ok → k ≠ i → (listed.setIfInBounds j true).getD k true = false →
      (∀ f ∈ ok.after, Region.binds md f = true → f.on ≠ i) → oi.apart ops ok = true := fun k ok hk hki hun hno => by
     refine hfree k ok hk hki ?_ hno
     by_cases hjk : j = k
     ·subst hjk; exact hjun
     ·rw [getD_set_ne true hjk] at hun; exact hun
    refine wpOp_mono (fun a' w' h3 => ?_) h2
    have hSw : S w' := h3.2.1.resolve_left hje
    refine ⟨.inr hSw, ih (listed.setIfInBounds j true) a' w' (late_set hlate hju hji) hfree' (ready_mono hr (Ne.symm hji)) h3.1 hSw ?_⟩
    rw [Array.setIfInBounds_comm _ _ hji]
    exact h3.2.2

theorem wpE_take {i : Nat} {oi : Oper} {v : Value} {us : List Nat} {fuel : Nat} {listed : Array Bool} {a : Act} {w : World} (hi : ops[i]? = some oi) (hlate : (us.contains e && lateB md ops listed i us) = true)
  (hs : Region.noSelect ops = true) (hf : Region.free md ops listed i = true) (hr : (Region.ready md ops listed).contains i = true)
  (hQ : ∀ c a w, Q (.panic c) (a.put oi.dst v) w → Q (.panic c) a w) (hy : YieldsIf P ops S oi v a) (hS : S w)
  (h : wpE P md ops Q S e fuel (listed.setIfInBounds i true) (a.put oi.dst v) w) : wpE P md ops Q S e (fuel + 1) listed a w := by
 simp only [Bool.and_eq_true] at hlate
 exact wpE_first (by simpa using hlate.1) hi (Region.noSelect_spec hs) hQ fuel listed a w hlate.2 (Region.free_spec hi hf) (by simpa using hr) hy hS h

theorem wpE_take' {v : Value} {fuel : Nat} {listed : Array Bool} {a : Act} {w : World} (i : Nat) (us : List Nat) (hi : i < ops.size) (hlate : (us.contains e && lateB md ops listed i us) = true)
  (hs : Region.noSelect ops = true) (hf : Region.free md ops listed i = true) (hr : (Region.ready md ops listed).contains i = true)
  (hQ : ∀ c a w, Q (.panic c) (a.put ops[i].dst v) w → Q (.panic c) a w) (hg : ops[i].guard = none) (hy : ∀ w, S w → (execOp a.eval ops[i]).run P w = .ok (.value v) w) (hS : S w)
  (h : wpE P md ops Q S e fuel (listed.setIfInBounds i true) (a.put ops[i].dst v) w) : wpE P md ops Q S e (fuel + 1) listed a w :=
 wpE_take (i := i) (us := us) (Array.getElem?_eq_getElem hi) hlate hs hf hr hQ (.inl ⟨by unfold Region.wanted; rw [hg], hy⟩) hS h

theorem wpE_tk {v : Value} {fuel : Nat} {listed : Array Bool} {a : Act} {w : World} (i : Nat) (us : List Nat) (hi : i < ops.size := by exact of_decide_eq_true (by kernel_rfl)) (hlate : (us.contains e && lateB md ops listed i us) = true := by kernel_rfl)
  (hs : Region.noSelect ops = true := by kernel_rfl) (hf : Region.free md ops listed i = true := by kernel_rfl) (hr : (Region.ready md ops listed).contains i = true := by kernel_rfl)
  (hQ : ∀ c a w, Q (.panic c) (a.put ops[i].dst v) w → Q (.panic c) a w := by exact fun _ _ _ h => h) (hg : ops[i].guard = none := by kernel_rfl) (hy : ∀ w, S w → (execOp a.eval ops[i]).run P w = .ok (.value v) w) (hS : S w)
  (h : wpE P md ops Q S e fuel (listed.setIfInBounds i true) (a.put ops[i].dst v) w) : wpE P md ops Q S e (fuel + 1) listed a w :=
 wpE_take (i := i) (us := us) (Array.getElem?_eq_getElem hi) hlate hs hf hr hQ (.inl ⟨by unfold Region.wanted; rw [hg], hy⟩) hS h

/-- A guarded operation that is wanted. -/
theorem wpE_takeG' {v : Value} {fuel : Nat} {listed : Array Bool} {a : Act} {w : World} (i : Nat) (us : List Nat) (hi : i < ops.size) (hlate : (us.contains e && lateB md ops listed i us) = true)
  (hs : Region.noSelect ops = true) (hf : Region.free md ops listed i = true) (hr : (Region.ready md ops listed).contains i = true)
  (hQ : ∀ c a w, Q (.panic c) (a.put ops[i].dst v) w → Q (.panic c) a w) (hg : Region.wanted ops[i] (yielded ops a.tmps) = true) (hy : ∀ w, S w → (execOp a.eval ops[i]).run P w = .ok (.value v) w) (hS : S w)
  (h : wpE P md ops Q S e fuel (listed.setIfInBounds i true) (a.put ops[i].dst v) w) : wpE P md ops Q S e (fuel + 1) listed a w :=
 wpE_take (i := i) (us := us) (Array.getElem?_eq_getElem hi) hlate hs hf hr hQ (.inl ⟨hg, hy⟩) hS h
/-- A guarded operation that is not wanted. -/
theorem wpE_skip' {fuel : Nat} {listed : Array Bool} {a : Act} {w : World} (i : Nat) (us : List Nat) (hi : i < ops.size) (hlate : (us.contains e && lateB md ops listed i us) = true)
  (hs : Region.noSelect ops = true) (hf : Region.free md ops listed i = true) (hr : (Region.ready md ops listed).contains i = true)
  (hQ : ∀ c a w, Q (.panic c) (a.put ops[i].dst undef) w → Q (.panic c) a w) (hg : Region.wanted ops[i] (yielded ops a.tmps) = false) (hS : S w)
  (h : wpE P md ops Q S e fuel (listed.setIfInBounds i true) (a.put ops[i].dst undef) w) : wpE P md ops Q S e (fuel + 1) listed a w :=
 wpE_take (i := i) (us := us) (Array.getElem?_eq_getElem hi) hlate hs hf hr hQ (.inr ⟨hg, rfl⟩) hS h

theorem wpE_step {i : Nat} {o : Oper} {fuel : Nat} {listed : Array Bool} {a : Act} {w : World} (ho : ops[i]? = some o) (hr : Region.ready md ops listed = [i])
  (h : ∀ K' : Act → World → Prop, Shut (∀ a w, (i = e ∨ S w) → wpE P md ops Q S e fuel (listed.setIfInBounds i true) a w → K' a w) → if Region.wanted o (yielded ops a.tmps) = true then Oper.wp P o a w K' Q else K' (a.put o.dst undef) w) :
  wpE P md ops Q S e (fuel + 1) listed a w := by
 refine ⟨fun h0 => (by rw [hr] at h0; cases h0), fun j hj => ?_⟩
 rw [hr] at hj
 obtain rfl := List.mem_singleton.1 hj
 exact wpOp_step ho (fun K' hK => h K' (fun a w hS hW => hK a w ⟨hS, hW⟩))

theorem wpE_step' {fuel : Nat} {listed : Array Bool} {a : Act} {w : World} (i : Nat) (hi : i < ops.size) (hg : ops[i].guard = none) (hr : Region.ready md ops listed = [i])
  (h : ∀ K' : Act → World → Prop, Shut (∀ a w, (i = e ∨ S w) → wpE P md ops Q S e fuel (listed.setIfInBounds i true) a w → K' a w) → Oper.wp P ops[i] a w K' Q) :
  wpE P md ops Q S e (fuel + 1) listed a w :=
 wpE_step (Array.getElem?_eq_getElem hi) hr fun K' hK => by
  rw [if_pos (by unfold Region.wanted; rw [hg])]
  exact h K' hK

theorem wpE_stepG' {fuel : Nat} {listed : Array Bool} {a : Act} {w : World} (i : Nat) (hi : i < ops.size) (hg : Region.wanted ops[i] (yielded ops a.tmps) = true) (hr : Region.ready md ops listed = [i])
  (h : ∀ K' : Act → World → Prop, Shut (∀ a w, (i = e ∨ S w) → wpE P md ops Q S e fuel (listed.setIfInBounds i true) a w → K' a w) → Oper.wp P ops[i] a w K' Q) :
  wpE P md ops Q S e (fuel + 1) listed a w :=
 wpE_step (Array.getElem?_eq_getElem hi) hr fun K' hK => by
  rw [if_pos hg]
  exact h K' hK

/-- Two may come up. -/
theorem wpE_two {fuel : Nat} {listed : Array Bool} {a : Act} {w : World} (i j : Nat) (hi : i < ops.size) (hj : j < ops.size) (hgi : ops[i].guard = none) (hgj : ops[j].guard = none) (hr : Region.ready md ops listed = [i, j])
  (h : ∀ K' : Act → World → Prop, Shut (∀ a w, (i = e ∨ S w) → wpE P md ops Q S e fuel (listed.setIfInBounds i true) a w → K' a w) → Oper.wp P ops[i] a w K' Q)
  (h2 : ∀ K' : Act → World → Prop, Shut (∀ a w, (j = e ∨ S w) → wpE P md ops Q S e fuel (listed.setIfInBounds j true) a w → K' a w) → Oper.wp P ops[j] a w K' Q) :
  wpE P md ops Q S e (fuel + 1) listed a w := by
 refine ⟨fun h0 => (by rw [hr] at h0; cases h0), fun k hk => ?_⟩
 rw [hr] at hk
 rcases List.mem_cons.1 hk with rfl | hk
 ·refine wpOp_step (Array.getElem?_eq_getElem hi) (fun K' hK => ?_)
  rw [if_pos (by unfold Region.wanted; rw [hgi])]
  exact h K' (fun a w hS hW => hK a w ⟨hS, hW⟩)
 ·obtain rfl := List.mem_singleton.1 hk
  refine wpOp_step (Array.getElem?_eq_getElem hj) (fun K' hK => ?_)
  rw [if_pos (by unfold Region.wanted; rw [hgj])]
  exact h2 K' (fun a w hS hW => hK a w ⟨hS, hW⟩)

theorem wpE_done {listed : Array Bool} {a : Act} {w : World} (hr : Region.ready md ops listed = []) (h : Q .normal a w) : ∀ fuel, wpE P md ops Q S e fuel listed a w
 | 0 => ⟨hr, h⟩
 | _ + 1 => ⟨fun _ => h, by rw [hr]; simp⟩

theorem wp_regionE {id : Nat} {a : Act} {w : World} (S : World → Prop) (e : Nat) (hm : P.follows .mixedOrders = true)
  (h : wpE P .any ops Q S e ops.size (Array.replicate ops.size false) a w.drew) : (Code.region id ops true).wp P Q a w :=
 wp_region_any hm (wpE_any _ _ _ _ h)
end

section
variable {P : Program} {ops : Array Oper} {Q : Exit → Act → World → Prop} {S : World → Prop} {e : Nat} {f : Nat} {J : World → Prop} {B : Value → World → Prop}

/-- The places left, with f or without. -/
def fuelF (m : Nat) (fl : Bool) : Nat := m + (if fl = true then 0 else 1)

/-- f is run. -/
def Floats (P : Program) (ops : Array Oper) (Q : Exit → Act → World → Prop) (S : World → Prop) (e f : Nat) (J : World → Prop) (B : Value → World → Prop) (a : Value → Act) : Prop :=
 f ≠ e ∧ ∀ z w, J w → ∀ (K : Act → World → Prop), (∀ z' w', S w' → J w' → B z' w' → K (a z') w') → wpOp P ops Q f K (a z) w

theorem floats_of {a : Value → Act} (hf : f < ops.size) (hg : ops[f].guard = none) (hfe : (f == e) = false) (hS : ∀ w, J w → S w)
  (h : ∀ z w, J w → ∀ (K : Act → World → Prop), Shut (∀ z' w', J w' → B z' w' → K (a z') w') → Oper.wp P ops[f] (a z) w K Q) : Floats P ops Q S e f J B a := by
 refine ⟨by simpa using hfe, fun z w hJ K hK => ?_⟩
 refine wpOp_step (Array.getElem?_eq_getElem hf) (fun K' hK' => ?_)
 rw [if_pos (by unfold Region.wanted; rw [hg])]
 exact h z w hJ K' (fun z' w' h1 h2 => hK' _ _ (hK z' w' (hS w' h1) h1 h2))

theorem put_self (a : Act) (d : Nat) (hd : d < a.tmps.size) : a.put (some d) a.tmps[d] = a := by
 have h : a.tmps.setIfInBounds d a.tmps[d] = a.tmps := by
  refine Array.ext (Array.size_setIfInBounds ..) (fun i h1 h2 => ?_)
  rw [Array.getElem_setIfInBounds]
  split
  ·rename_i e; subst e; rfl
  ·rfl
 show ({ a with tmps := a.tmps.setIfInBounds d a.tmps[d] } : Act) = a
 rw [h]
/-- The floating slot holds something, from here on. -/
theorem wpF_start {m : Nat} {listed : Array Bool} {a : Act} {w : World} (f d : Nat) (J : World → Prop) (B : Value → World → Prop) (hd : d < a.tmps.size) (hl : listed.setIfInBounds f false = listed) (hJ : J w)
  (h : ∀ (fl : Bool) (z : Value), (fl = true → B z w) → wpE P .any ops Q S e (fuelF m fl) (listed.setIfInBounds f fl) (a.put (some d) z) w) : wpE P .any ops Q S e (m + 1) listed a w := by
 have h1 := h false a.tmps[d] (fun e => by cases e)
 rw [hl, put_self a d hd] at h1
 exact h1

/-- One step of the chain. -/
theorem wpF_step {m : Nat} {fl : Bool} {z : Value} {w : World} {L : Bool → Array Bool} {a : Value → Act} (i : Nat) (hi : i < ops.size) (hg : ops[i].guard = none)
  (hr0 : Region.ready .any ops (L false) = [i, f]) (hr1 : Region.ready .any ops (L true) = [i]) (hL : (L false).setIfInBounds f true = L true)
  (hF : Floats P ops Q S e f J B a) (hJ : J w) (hB : fl = true → B z w)
  (h : ∀ (fl : Bool) (z : Value) (w : World), J w → (fl = true → B z w) → ∀ K' : Act → World → Prop, Shut (∀ a' w', (i = e ∨ S w') → wpE P .any ops Q S e (fuelF m fl) ((L fl).setIfInBounds i true) a' w' → K' a' w') → Oper.wp P ops[i] (a z) w K' Q) :
  wpE P .any ops Q S e (fuelF (m + 1) fl) (L fl) (a z) w := by
 have ht : ∀ z w, J w → B z w → wpE P .any ops Q S e (m + 1) (L true) (a z) w := fun z w hJ hB => by
  refine wpE_step' i hi hg hr1 (fun K hK => h true z w hJ (fun _ => hB) K ?_)
  exact hK
 cases fl
 ·show wpE P .any ops Q S e (m + 1 + 1) (L false) (a z) w
  refine ⟨fun h0 => (by rw [hr0] at h0; cases h0), fun k hk => ?_⟩
  rw [hr0] at hk
  rcases List.mem_cons.1 hk with rfl | hk
  ·refine wpOp_step (Array.getElem?_eq_getElem hi) (fun K' hK => ?_)
   rw [if_pos (by unfold Region.wanted; rw [hg])]
   exact h false z w hJ hB K' (fun a w hS hW => hK a w ⟨hS, hW⟩)
  ·obtain rfl := List.mem_singleton.1 hk
   refine hF.2 z w hJ _ (fun z' w' hS' hJ' hB' => ⟨.inr hS', ?_⟩)
   rw [hL]
   exact ht z' w' hJ' hB'
 ·exact ht z w hJ (hB rfl)

/-- An operation that only reckons is taken first. -/
theorem wpF_take {m : Nat} {fl : Bool} {z v : Value} {w : World} {L : Bool → Array Bool} {a : Value → Act} (i : Nat) (us : List Nat) (hi : i < ops.size)
  (hl0 : (us.contains e && lateB .any ops (L false) i us) = true) (hl1 : (us.contains e && lateB .any ops (L true) i us) = true) (hs : Region.noSelect ops = true)
  (hf0 : Region.free .any ops (L false) i = true) (hf1 : Region.free .any ops (L true) i = true)
  (hr0 : (Region.ready .any ops (L false)).contains i = true) (hr1 : (Region.ready .any ops (L true)).contains i = true)
  (hQ : ∀ c a w, Q (.panic c) (a.put ops[i].dst v) w → Q (.panic c) a w) (hg : ops[i].guard = none) (hy : ∀ w, S w → (execOp (a z).eval ops[i]).run P w = .ok (.value v) w) (hS : S w)
  (h : wpE P .any ops Q S e (fuelF m fl) ((L fl).setIfInBounds i true) ((a z).put ops[i].dst v) w) : wpE P .any ops Q S e (fuelF (m + 1) fl) (L fl) (a z) w := by
 cases fl
 ·exact wpE_take' i us hi hl0 hs hf0 hr0 hQ hg hy hS h
 ·exact wpE_take' i us hi hl1 hs hf1 hr1 hQ hg hy hS h

/-- At last f itself. -/
theorem wpF_end {m : Nat} {fl : Bool} {z : Value} {w : World} {L : Bool → Array Bool} {a : Value → Act} (hr0 : Region.ready .any ops (L false) = [f]) (hL : (L false).setIfInBounds f true = L true)
  (hF : Floats P ops Q S e f J B a) (hJ : J w) (hB : fl = true → B z w)
  (h : ∀ (z : Value) (w : World), J w → B z w → wpE P .any ops Q S e m (L true) (a z) w) : wpE P .any ops Q S e (fuelF m fl) (L fl) (a z) w := by
 cases fl
 ·show wpE P .any ops Q S e (m + 1) (L false) (a z) w
  refine ⟨fun h0 => (by rw [hr0] at h0; cases h0), fun k hk => ?_⟩
  rw [hr0] at hk
  obtain rfl := List.mem_singleton.1 hk
  refine hF.2 z w hJ _ (fun z' w' hS' hJ' hB' => ⟨.inr hS', ?_⟩)
  rw [hL]
  exact h z' w' hJ' hB'
 ·exact h z w hJ (hB rfl)
end

section
variable {P : Program} {ops : Array Oper} {Q : Exit → Act → World → Prop} {S : World → Prop} {e : Nat} {f g : Nat} {J : World → Prop} {B C : Value → World → Prop}

def fuelG (m : Nat) (fl gl : Bool) : Nat := m + (if fl = true then 0 else 1) + (if gl = true then 0 else 1)

/-- f and g are run. -/
structure Floats2 (P : Program) (ops : Array Oper) (Q : Exit → Act → World → Prop) (S : World → Prop) (e f g : Nat) (J : World → Prop) (B C : Value → World → Prop) (a : Value → Value → Act) : Prop where
 fe : f ≠ e
 ge : g ≠ e
 hS : ∀ w, J w → S w
 hf : ∀ gl z y w, J w → (gl = true → C y w) → ∀ (K : Act → World → Prop), (∀ z' w', J w' → B z' w' → (gl = true → C y w') → K (a z' y) w') → wpOp P ops Q f K (a z y) w
 hg : ∀ fl z y w, J w → (fl = true → B z w) → ∀ (K : Act → World → Prop), (∀ y' w', J w' → C y' w' → (fl = true → B z w') → K (a z y') w') → wpOp P ops Q g K (a z y) w

theorem floats2_of {a : Value → Value → Act} (hf : f < ops.size) (hg : g < ops.size) (hgf : ops[f].guard = none) (hgg : ops[g].guard = none) (hfe : (f == e) = false) (hge : (g == e) = false) (hS : ∀ w, J w → S w)
  (h1 : ∀ gl z y w, J w → (gl = true → C y w) → ∀ (K : Act → World → Prop), Shut (∀ z' w', J w' → B z' w' → (gl = true → C y w') → K (a z' y) w') → Oper.wp P ops[f] (a z y) w K Q)
  (h2 : ∀ fl z y w, J w → (fl = true → B z w) → ∀ (K : Act → World → Prop), Shut (∀ y' w', J w' → C y' w' → (fl = true → B z w') → K (a z y') w') → Oper.wp P ops[g] (a z y) w K Q) : Floats2 P ops Q S e f g J B C a := by
 refine ⟨by simpa using hfe, by simpa using hge, hS, fun gl z y w hJ hC K hK => ?_, fun fl z y w hJ hB K hK => ?_⟩
 ·refine wpOp_step (Array.getElem?_eq_getElem hf) (fun K' hK' => ?_)
  rw [if_pos (by unfold Region.wanted; rw [hgf])]
  exact h1 gl z y w hJ hC K' (fun z' w' a b c => hK' _ _ (hK z' w' a b c))
 ·refine wpOp_step (Array.getElem?_eq_getElem hg) (fun K' hK' => ?_)
  rw [if_pos (by unfold Region.wanted; rw [hgg])]
  exact h2 fl z y w hJ hB K' (fun y' w' a b c => hK' _ _ (hK y' w' a b c))

/-- Both slots hold something, from here on. -/
theorem wpG_start {m : Nat} {listed : Array Bool} {a : Act} {w : World} (f d g d' : Nat) (J : World → Prop) (B C : Value → World → Prop) (hd : d < a.tmps.size) (hd' : d' < a.tmps.size) (hl : (listed.setIfInBounds f false).setIfInBounds g false = listed) (hne : d ≠ d') (hJ : J w)
  (h : ∀ (fl gl : Bool) (z y : Value), (fl = true → B z w) → (gl = true → C y w) → wpE P .any ops Q S e (fuelG m fl gl) ((listed.setIfInBounds f fl).setIfInBounds g gl) ((a.put (some d) z).put (some d') y) w) : wpE P .any ops Q S e (m + 2) listed a w := by
 have hz : (a.put (some d) a.tmps[d]).tmps.size = a.tmps.size := by rw [put_self a d hd]
 have h1 := h false false a.tmps[d] (a.tmps[d']) (fun e => by cases e) (fun e => by cases e)
 rw [hl, put_self a d hd, put_self a d' hd'] at h1
 exact h1

/-- f must come up now: g still may. -/
theorem wpG_force {m : Nat} {fl gl : Bool} {z y : Value} {w : World} {L : Bool → Bool → Array Bool} {a : Value → Value → Act}
  (hr0 : Region.ready .any ops (L false true) = [f]) (hr2 : (Region.ready .any ops (L false false)).all (fun j => j == f || j == g) = true) (he2 : (Region.ready .any ops (L false false)).isEmpty = false)
  (hL0 : (L false true).setIfInBounds f true = L true true) (hL2 : (L false false).setIfInBounds f true = L true false) (hL3 : (L false false).setIfInBounds g true = L false true)
  (hF : Floats2 P ops Q S e f g J B C a) (hJ : J w) (hB : fl = true → B z w) (hC : gl = true → C y w)
  (h : ∀ (gl : Bool) (z y : Value) (w : World), J w → B z w → (gl = true → C y w) → wpE P .any ops Q S e (fuelF m gl) (L true gl) (a z y) w) :
  wpE P .any ops Q S e (fuelG m fl gl) (L fl gl) (a z y) w := by
 have ft : ∀ z y w, J w → C y w → wpE P .any ops Q S e (m + 1) (L false true) (a z y) w := fun z y w hJ hC => by
  refine ⟨fun h0 => (by rw [hr0] at h0; cases h0), fun k hk => ?_⟩
  rw [hr0] at hk
  obtain rfl := List.mem_singleton.1 hk
  refine hF.hf true z y w hJ (fun _ => hC) _ (fun z' w' hJ' hB' hC' => ⟨.inr (hF.hS w' hJ'), ?_⟩)
  rw [hL0]
  exact h true z' y w' hJ' hB' hC'
 cases fl <;> cases gl
 ·show wpE P .any ops Q S e (m + 1 + 1) (L false false) (a z y) w
  refine ⟨fun h0 => (by rw [h0] at he2; cases he2), fun k hk => ?_⟩
  have h1 := List.all_eq_true.1 hr2 k hk
  simp only [Bool.or_eq_true, beq_iff_eq] at h1
  rcases h1 with rfl | rfl
  ·refine hF.hf false z y w hJ (fun e => by cases e) _ (fun z' w' hJ' hB' hC' => ⟨.inr (hF.hS w' hJ'), ?_⟩)
   rw [hL2]
   exact h false z' y w' hJ' hB' (fun e => by cases e)
  ·refine hF.hg false z y w hJ (fun e => by cases e) _ (fun y' w' hJ' hC' _ => ⟨.inr (hF.hS w' hJ'), ?_⟩)
   rw [hL3]
   exact ft z y' w' hJ' hC'
 ·exact ft z y w hJ (hC rfl)
 ·show wpE P .any ops Q S e (m + 1) (L true false) (a z y) w
  exact h false z y w hJ (hB rfl) (fun e => by cases e)
 ·exact h true z y w hJ (hB rfl) hC
end
end Go.Proofs.YtmnajkhoacogjaaGreatDoor
