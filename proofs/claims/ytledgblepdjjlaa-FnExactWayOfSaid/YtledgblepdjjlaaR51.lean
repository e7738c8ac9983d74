/-
  Rows of rows of one's own.
-/
import Derived.Test.YtledgblepdjjlaaR50
import Derived.Test.YtledgblepdjjlaaL11a
namespace Go.Proofs.Ytledgblepdjjlaa
set_option linter.unusedVariables false
set_option linter.unusedSimpArgs false
open Go.RowKit Pp

/-- Only blocks from lo up to hi have turned. -/
structure GIn (lo hi : Nat) (w w' : World) : Prop where
  os : w'.os = w.os
  tape : w'.tape = w.tape
  output : w'.output = w.output
  size : w.heap.size ≤ w'.heap.size
  block : ∀ k, k < w.heap.size → ¬ (lo ≤ k ∧ k < hi) → w'.heap[k]? = w.heap[k]?
theorem GIn.refl (lo hi : Nat) (w : World) : GIn lo hi w w := ⟨rfl, rfl, rfl, Nat.le_refl _, fun _ _ _ => rfl⟩
theorem gin_grown {lo hi : Nat} {w w' : World} {row : Option Nat} (h : w.grownBy w' row) (hr : ∀ k, row = some k → lo ≤ k ∧ k < hi) : GIn lo hi w w' :=
  ⟨h.os, h.tape, h.output, h.size, fun k hk hn => h.block k hk (fun e => hn (hr k e.symm))⟩
theorem GIn.trans {lo hi : Nat} {w w1 w2 : World} (h : GIn lo hi w w1) (h2 : GIn lo hi w1 w2) : GIn lo hi w w2 :=
  ⟨h2.os.trans h.os, h2.tape.trans h.tape, h2.output.trans h.output, Nat.le_trans h.size h2.size, fun k hk hn => (h2.block k (Nat.lt_of_lt_of_le hk h.size) hn).trans (h.block k hk hn)⟩
theorem GIn.of_below {lo hi : Nat} {w w' : World} (h : Below w.heap.size w w') : GIn lo hi w w' := ⟨h.os, h.tape, h.output, h.size, fun k hk _ => h.block k hk⟩
theorem GIn.cell {lo hi : Nat} {w w' : World} (h : GIn lo hi w w') {b o : Nat} {v : Value} (hc : w.cell? ⟨b, o, none⟩ = some v) (hn : ¬ (lo ≤ b ∧ b < hi)) : w'.cell? ⟨b, o, none⟩ = some v := by
  have hb : b < w.heap.size := by
    unfold World.cell? at hc
    split at hc
    · rename_i c _ _ hc'; exact (Array.getElem?_eq_some_iff.1 hc').1
    · cases hc
  rw [← hc]
  exact World.cell?_of_block (a := ⟨b, o, none⟩) (h.block b hb hn)
theorem GIn.bel {lo hi B : Nat} {w W W' : World} (hW : Below B w W) (h : GIn lo hi W W') (hB : B ≤ lo) (hs : B ≤ W.heap.size) : Below B w W' :=
  ⟨h.os.trans hW.os, h.tape.trans hW.tape, h.output.trans hW.output, Nat.le_trans hW.size h.size, fun k hk => (h.block k (by omega) (by omega)).trans (hW.block k hk)⟩
theorem own_gin {lo hi : Nat} {W W' : World} {base : Nat} {e : TypeId} {size : Nat} {v : Value} {n : Nat} {xs : List Value} (h : W.ownsRow base e size v n xs) (hg : GIn lo hi W W') (hne : ∀ k, v.ownBlock = some k → ¬ (lo ≤ k ∧ k < hi)) : W'.ownsRow base e size v n xs := by
  have hl := h.lt
  refine ⟨h.1, ?_⟩
  rcases h.2 with h2 | ⟨g, cap, cur, hv, hb, hh, r⟩
  · exact .inl h2
  · subst hv
    have hgl := hl g rfl
    exact .inr ⟨g, cap, cur, rfl, hb, by rw [hg.block g hgl.2 (hne g rfl)]; exact hh, r⟩
theorem BdsR.gin {lo hi : Nat} {W W' : World} {b o : Nat} {A : Option Addr} {bs : List Bd} (h : BdsR W W.heap.size b o A bs) (hg : GIn lo hi W W') (hb : 0 < bs.length → ¬ (lo ≤ b ∧ b < hi)) : BdsR W' W'.heap.size b o A bs := by
  have hl : ∀ {j : Nat} {x : Bd}, bs[j]? = some x → ¬ (lo ≤ b ∧ b < hi) := fun {j x} hx => hb (by have := (List.getElem?_eq_some_iff.1 hx).1; omega)
  exact ⟨h.addr, fun hx => Nat.lt_of_lt_of_le (h.lt hx) hg.size, fun j x hx => hg.cell (h.c0 j x hx) (hl hx), fun j x hx => hg.cell (h.c1 j x hx) (hl hx), fun j x hx => hg.cell (h.c2 j x hx) (hl hx)⟩
theorem IntsR.gin {lo hi : Nat} {W W' : World} {b o : Nat} {A : Option Addr} {xs : List Int} (h : IntsR W W.heap.size b o A xs) (hg : GIn lo hi W W') (hb : 0 < xs.length → ¬ (lo ≤ b ∧ b < hi)) : IntsR W' W'.heap.size b o A xs :=
  ⟨h.addr, fun hx => Nat.lt_of_lt_of_le (h.lt hx) hg.size, fun j hj => hg.cell (h.cell j hj) (hb (by omega))⟩

/-- How many bounds stand in rows. -/
def sumL (cs : List (List Bd)) : Nat := (cs.map List.length).sum
theorem sumL_step {cs : List (List Bd)} {k : Nat} {l : List Bd} (h : cs[k]? = some l) : sumL (cs.take (k + 1)) = sumL (cs.take k) + l.length := by
  unfold sumL
  rw [List.take_add_one, h]
  simp
theorem sumL_le (cs : List (List Bd)) (k : Nat) : sumL (cs.take k) ≤ sumL cs := by
  unfold sumL
  conv => rhs; rw [← List.take_append_drop k cs]
  rw [List.map_append, List.sum_append]
  omega
theorem sumL_mem {cs : List (List Bd)} {l : List Bd} (h : l ∈ cs) : l.length ≤ sumL cs := by
  obtain ⟨k, hk⟩ := List.getElem?_of_mem h
  have h1 := sumL_step hk
  have h2 := sumL_le cs (k + 1)
  omega

/-- Rows of one's own, each in a block for itself. -/
structure RowsX (lo hi a k : Nat) (W : World) (F : Nat → Value) (cs : List (List Bd)) : Prop where
  row : ∀ j l, a ≤ j → j < k → cs[j]? = some l → ∃ A c, F j = .slice A l.length c ∧ OwnB lo W (.slice A l.length c) l
  hi : ∀ j q, a ≤ j → j < k → (F j).ownBlock = some q → lo ≤ q ∧ q < hi
  dif : ∀ i j q, a ≤ i → i < j → j < k → (F i).ownBlock = some q → (F j).ownBlock ≠ some q
theorem RowsX.nil (lo hi : Nat) (W : World) (F : Nat → Value) (cs : List (List Bd)) : RowsX lo hi 0 0 W F cs := ⟨fun _ _ _ h => by omega, fun _ _ _ h => by omega, fun _ _ _ _ _ h => by omega⟩
theorem RowsX.below {lo hi a k : Nat} {W W' : World} {F : Nat → Value} {cs : List (List Bd)} (h : RowsX lo hi a k W F cs) (hb : Below W.heap.size W W') : RowsX lo hi a k W' F cs :=
  ⟨fun j l h0 h1 h2 => by obtain ⟨A, c, e, ho⟩ := h.row j l h0 h1 h2; exact ⟨A, c, e, own_below ho hb⟩, h.hi, h.dif⟩
theorem RowsX.set {lo hi a k : Nat} {W : World} {F : Nat → Value} {cs : List (List Bd)} (h : RowsX lo hi a k W F cs) {p : Addr} (hp : p.block < lo) (u : Value) : RowsX lo hi a k (W.setCell p u) F cs :=
  ⟨fun j l h0 h1 h2 => by obtain ⟨A, c, e, ho⟩ := h.row j l h0 h1 h2; exact ⟨A, c, e, own_set_low ho hp u⟩, h.hi, h.dif⟩
theorem RowsX.push {lo k : Nat} {W W' : World} {F : Nat → Value} {cs : List (List Bd)} {A : Option Addr} {c : Nat} {l : List Bd} (h : RowsX lo W.heap.size 0 k W F cs) (hl : cs[k]? = some l) (hlo : lo ≤ W.heap.size) (hb : Below W.heap.size W W') (ho : OwnB W.heap.size W' (.slice A l.length c) l) :
    RowsX lo W'.heap.size 0 (k + 1) W' (fun j => if j = k then .slice A l.length c else F j) cs := by
  have h2 := h.below hb
  have hs := hb.size
  refine ⟨fun j l' _ h1 h3 => ?_, fun j q _ h1 hq => ?_, fun i j q _ hij h1 hq => ?_⟩
  · by_cases e : j = k
    · subst e
      rw [hl] at h3
      cases h3
      exact ⟨A, c, by rw [if_pos rfl], own_less ho hlo⟩
    · obtain ⟨A', c', e1, ho'⟩ := h2.row j l' (Nat.zero_le _) (by omega) h3
      exact ⟨A', c', by rw [if_neg e]; exact e1, ho'⟩
  · by_cases e : j = k
    · subst e
      rw [if_pos rfl] at hq
      have := ho.lt q hq
      omega
    · rw [if_neg e] at hq
      have := h2.hi j q (Nat.zero_le _) (by omega) hq
      omega
  · rw [if_neg (by omega)] at hq
    have hqi := h.hi i q (Nat.zero_le _) (by omega) hq
    by_cases e : j = k
    · subst e
      rw [if_pos rfl]
      intro e2
      have := ho.lt q e2
      omega
    · rw [if_neg e]
      exact h2.dif i j q (Nat.zero_le _) hij (by omega) hq
/-- One of them is written anew. -/
theorem RowsX.mark {lo hi a k : Nat} {W W' : World} {F : Nat → Value} {cs : List (List Bd)} (h : RowsX lo hi a k W F cs) (hg : W.grownBy W' (F a).ownBlock) (hak : a < k) : RowsX lo hi (a + 1) k W' F cs := by
  refine ⟨fun j l h0 h1 h2 => ?_, fun j q h0 h1 hq => h.hi j q (by omega) h1 hq, fun i j q h0 hij h1 hq => h.dif i j q (by omega) hij h1 hq⟩
  obtain ⟨A, c, e, ho⟩ := h.row j l (by omega) h1 h2
  refine ⟨A, c, e, ho.kept hg ?_⟩
  rw [← e]
  cases hq : (F j).ownBlock with
  | none => exact .inl rfl
  | some q => exact .inr (fun e2 => h.dif a j q (Nat.le_refl _) (by omega) h1 e2.symm hq)

/-- A row of rows of one's own. -/
structure ChO (lo hi : Nat) (W : World) (g : Nat) (F : Nat → Value) (A : Option Addr) (cs : List (List Bd)) : Prop where
  addr : 0 < cs.length → A = some ⟨g, 0, none⟩
  lob : lo ≤ g
  hib : g < hi
  top : hi ≤ W.heap.size
  outer : W.rowIs g 30 cs.length F
  rows : RowsX (g + 1) hi 0 cs.length W F cs
theorem ChO.below {lo hi : Nat} {W W' : World} {g : Nat} {F : Nat → Value} {A : Option Addr} {cs : List (List Bd)} (h : ChO lo hi W g F A cs) (hb : Below W.heap.size W W') : ChO lo hi W' g F A cs :=
  ⟨h.addr, h.lob, h.hib, Nat.le_trans h.top hb.size, h.outer.of_block (hb.block g (Nat.lt_of_lt_of_le h.hib h.top)), h.rows.below hb⟩
theorem ChO.grown {lo hi : Nat} {W W' : World} {g : Nat} {F : Nat → Value} {A : Option Addr} {cs : List (List Bd)} {row : Option Nat} (h : ChO lo hi W g F A cs) (hg : W.grownBy W' row) (hr : ∀ k, row = some k → k < lo ∨ hi ≤ k) : ChO lo hi W' g F A cs :=
  ⟨h.addr, h.lob, h.hib, Nat.le_trans h.top hg.size, h.outer.of_block (hg.block g (Nat.lt_of_lt_of_le h.hib h.top) (fun e => by have := hr g e.symm; have := h.lob; have := h.hib; omega)),
    ⟨fun j l h0 h1 h2 => by
      obtain ⟨A', c', e, ho⟩ := h.rows.row j l h0 h1 h2
      refine ⟨A', c', e, ho.kept hg ?_⟩
      cases hq : (Value.slice A' l.length c').ownBlock with
      | none => exact .inl rfl
      | some q =>
        refine .inr (fun e2 => ?_)
        have h3 := h.rows.hi j q h0 h1 (by rw [e]; exact hq)
        have h4 := hr q e2.symm
        have := h.lob
        omega, h.rows.hi, h.rows.dif⟩⟩
theorem ChO.reads {lo hi : Nat} {W : World} {g : Nat} {F : Nat → Value} {A : Option Addr} {cs : List (List Bd)} (h : ChO lo hi W g F A cs) : ChR W W.heap.size g 0 A cs :=
  ⟨h.addr, fun _ => Nat.lt_of_lt_of_le h.hib h.top, fun j l hl => by
    have hj : j < cs.length := (List.getElem?_eq_some_iff.1 hl).1
    obtain ⟨A', c', e, ho⟩ := h.rows.row j l (Nat.zero_le _) hj hl
    obtain ⟨g', hr⟩ := OwnB.readsA ho
    have hc := h.outer.cell (i := j) hj
    rw [e] at hc
    exact ⟨A', g', 0, c', by rw [Nat.zero_add]; exact hc, hr⟩⟩
theorem RC.gin {lo hi : Nat} {W W' : World} {X b o b2 o2 : Nat} {n : Int} {A A2 : Option Addr} {c c2 : Nat} {bs : List Bd} {cs : List (List Bd)} (h : RC W X b o n A c bs b2 o2 A2 c2 cs) (hl : X < lo) (hs : lo ≤ W.heap.size) (hbl : BdsR W lo b o A bs) (hcl : ChR W lo b2 o2 A2 cs) (hg : GIn lo hi W W') : RC W' X b o n A c bs b2 o2 A2 c2 cs := by
  have hb : Below lo W W' := GIn.bel (Below.refl _ _) hg (Nat.le_refl _) hs
  exact ⟨Nat.lt_of_lt_of_le h.ex hg.size, hg.cell h.c0 (by omega), hg.cell h.c1 (by omega), hg.cell h.c2 (by omega), (hbl.below hb).more (Nat.le_trans hs hg.size), (hcl.below hb).more (Nat.le_trans hs hg.size)⟩
end Go.Proofs.Ytledgblepdjjlaa
