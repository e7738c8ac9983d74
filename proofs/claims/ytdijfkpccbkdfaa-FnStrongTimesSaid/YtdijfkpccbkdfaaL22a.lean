/-
  The plan of the own points: what its walks share.
-/
import Derived.Test.YtdijfkpccbkdfaaL21
import Derived.Test.YtdijfkpccbkdfaaL11a
import Derived.Test.YtdijfkpccbkdfaaL2
namespace Go.Proofs.Ytdijfkpccbkdfaa
set_option linter.unusedVariables false
set_option linter.unusedSimpArgs false
open Go.RowKit Pp

section
variable {w0 W W' : World} {X b o b2 o2 g : Nat} {n : Int} {A A2 : Option Addr} {c c2 : Nat} {bs : List Bd} {ps : List Pr}
theorem RD.set (h : RD W X b o n A c bs b2 o2 A2 c2 ps) (i : Nat) (v : Value) (hX : X ≠ g) (hb : 0 < bs.length → b ≠ g) (hb2 : 0 < ps.length → b2 ≠ g) : RD (W.setCell ⟨g, i, none⟩ v) X b o n A c bs b2 o2 A2 c2 ps :=
  h.grown (grown_set W ⟨g, i, none⟩ v) (by simpa using hX) (fun hx => by simpa using hb hx) (fun hx => by simpa using hb2 hx)
theorem PD.set (h : PD w0 W X b o n A c bs b2 o2 A2 c2 ps) (i : Nat) (v : Value) (hg : w0.heap.size ≤ g) (hX : X ≠ g) (hb : 0 < bs.length → b ≠ g) (hb2 : 0 < ps.length → b2 ≠ g) : PD w0 (W.setCell ⟨g, i, none⟩ v) X b o n A c bs b2 o2 A2 c2 ps :=
  ⟨h.bel.setCell (p := ⟨g, i, none⟩) hg v, h.lo, h.r.set i v hX hb hb2⟩
theorem CB.set {cs : List Value} (h : CB W X cs) (i : Nat) (v : Value) (hX : X ≠ g) : CB (W.setCell ⟨g, i, none⟩ v) X cs := h.grown (grown_set W ⟨g, i, none⟩ v) (by simpa using hX)
theorem ZB.al {Y : Nat} (h : ZB w0 W Y) (x : Obj) : ZB w0 (W.alloc x) Y := h.below (by go_grown)
theorem ZB.dr {Y : Nat} (h : ZB w0 W Y) : ZB w0 W.drew Y := h.below (by go_grown)
theorem ZB.set {Y : Nat} (h : ZB w0 W Y) (i : Nat) (v : Value) (hX : Y ≠ g) : ZB w0 (W.setCell ⟨g, i, none⟩ v) Y := h.grown (grown_set W ⟨g, i, none⟩ v) (fun k hk => by cases hk; exact fun e => hX e.symm)
end

/-- A row with one bound in place. -/
def rowK (f : Nat → Value) (k : Nat) (y : Bd) : Nat → Value := fun j => if j = k * 3 then .int .i64 y.f else if j = k * 3 + 1 then .int .i64 y.t else if j = k * 3 + 2 then .int .i64 y.m else f j
theorem rowK_0 (f : Nat → Value) (k : Nat) (y : Bd) : rowK f k y (k * 3) = .int .i64 y.f := by simp [rowK]
theorem rowK_1 (f : Nat → Value) (k : Nat) (y : Bd) : rowK f k y (k * 3 + 1) = .int .i64 y.t := by simp [rowK]
theorem rowK_2 (f : Nat → Value) (k : Nat) (y : Bd) : rowK f k y (k * 3 + 2) = .int .i64 y.m := by simp [rowK]
theorem rowK_put (f : Nat → Value) (k : Nat) (y : Bd) (v m : Int) (j : Nat) : (if j = k * 3 + 2 then Value.int .i64 m else if j = k * 3 + 1 then Value.int .i64 v else rowK f k y j) = rowK f k ⟨y.f, v, m⟩ j := by
  unfold rowK
  by_cases e2 : j = k * 3 + 2
  · subst e2; simp
  · by_cases e1 : j = k * 3 + 1
    · subst e1; simp
    · simp [e1, e2]
theorem rowK_put0 (f : Nat → Value) (k : Nat) (y : Bd) (v m : Int) (j : Nat) : (if j = k * 3 + 2 then Value.int .i64 m else if j = k * 3 then Value.int .i64 v else rowK f k y j) = rowK f k ⟨v, y.t, m⟩ j := by
  unfold rowK
  by_cases e2 : j = k * 3 + 2
  · subst e2; simp
  · by_cases e1 : j = k * 3
    · subst e1; simp
    · simp [e1, e2]

def ownL (ps : List Pr) (bs : List Bd) (k : Nat) : List Bd := (bs.take k).map (ownB ps) ++ bs.drop k
theorem ownL_zero (ps : List Pr) (bs : List Bd) : ownL ps bs 0 = bs := by simp [ownL]
theorem ownL_all (ps : List Pr) (bs : List Bd) : ownL ps bs bs.length = bs.map (ownB ps) := by simp [ownL]
theorem ownL_length (ps : List Pr) (bs : List Bd) (k : Nat) : (ownL ps bs k).length = bs.length := by simp [ownL]; omega
theorem ownL_get (ps : List Pr) (bs : List Bd) (k i : Nat) : (ownL ps bs k)[i]? = if i < k then bs[i]?.map (ownB ps) else bs[i]? := by
  unfold ownL
  by_cases h : i < k
  · rw [if_pos h]
    by_cases hl : i < bs.length
    · rw [List.getElem?_append_left (by simp; omega), List.getElem?_map, List.getElem?_take, if_pos h]
    · have e1 : bs[i]? = none := List.getElem?_eq_none (by omega)
      rw [e1, List.getElem?_append_right (by simp; omega)]
      rw [List.getElem?_eq_none (by simp; omega)]; rfl
  · rw [if_neg h]
    by_cases hl : k ≤ bs.length
    · rw [List.getElem?_append_right (by simp; omega), List.getElem?_drop]
      congr 1
      simp
      omega
    · rw [List.getElem?_eq_none (by simp; omega), List.getElem?_eq_none (by omega)]
theorem ownL_next {ps : List Pr} {bs : List Bd} {k : Nat} {x : Bd} (hx : bs[k]? = some x) : ownL ps bs (k + 1) = (ownL ps bs k).set k (ownB ps x) := by
  have hk : k < bs.length := (List.getElem?_eq_some_iff.1 hx).1
  apply List.ext_getElem?
  intro i
  rw [ownL_get]
  by_cases e : i = k
  · subst e
    rw [List.getElem?_set_self (by rw [ownL_length]; exact hk), if_pos (by omega), hx]; rfl
  · rw [List.getElem?_set_ne (fun h => e h.symm), ownL_get]
    by_cases h : i < k
    · rw [if_pos h, if_pos (by omega)]
    · rw [if_neg h, if_neg (by omega)]
theorem ownL_same {ps : List Pr} {bs : List Bd} {k : Nat} {x : Bd} (hx : bs[k]? = some x) (h : ownB ps x = x) : ownL ps bs (k + 1) = ownL ps bs k := by
  rw [ownL_next hx, h]
  apply List.ext_getElem?
  intro i
  by_cases e : i = k
  · subst e
    rw [List.getElem?_set_self (by rw [ownL_length]; exact (List.getElem?_eq_some_iff.1 hx).1), ownL_get, if_neg (by omega), hx]
  · rw [List.getElem?_set_ne (fun h => e h.symm)]
/-- What stands in the row is the list with this bound. -/
theorem rowK_list {L : List Bd} {f : Nat → Value} {k : Nat} {y : Bd} (hf : ∀ j, j < L.length * 3 → (bdCs L)[j]? = some (f j)) (hk : k < L.length) (j : Nat) (hj : j < L.length * 3) : (bdCs (L.set k y))[j]? = some (rowK f k y j) := by
  have hi : j / 3 < L.length := by omega
  have hr : j = j / 3 * 3 ∨ j = j / 3 * 3 + 1 ∨ j = j / 3 * 3 + 2 := by omega
  by_cases e : j / 3 = k
  · obtain ⟨g0, g1, g2⟩ := bdCs_get (L.set k y) k y (List.getElem?_set_self hk)
    rw [e] at hr
    rcases hr with h | h | h
    · rw [h, g0, rowK_0]
    · rw [h, g1, rowK_1]
    · rw [h, g2, rowK_2]
  · have hx := List.getElem?_eq_getElem hi
    obtain ⟨g0, g1, g2⟩ := bdCs_get (L.set k y) (j / 3) L[j / 3] (by rw [List.getElem?_set_ne (fun h => e h.symm)]; exact hx)
    obtain ⟨k0, k1, k2⟩ := bdCs_get L (j / 3) L[j / 3] hx
    have hn : rowK f k y j = f j := by unfold rowK; rw [if_neg (by omega), if_neg (by omega), if_neg (by omega)]
    rw [hn, ← hf j hj]
    rcases hr with h | h | h
    · rw [h, g0, k0]
    · rw [h, g1, k1]
    · rw [h, g2, k2]
theorem rowK_at {L : List Bd} {f : Nat → Value} {k : Nat} {x : Bd} (hf : ∀ j, j < L.length * 3 → (bdCs L)[j]? = some (f j)) (hx : L[k]? = some x) (j : Nat) : f j = rowK f k x j := by
  have hk : k < L.length := (List.getElem?_eq_some_iff.1 hx).1
  obtain ⟨g0, g1, g2⟩ := bdCs_get L k x hx
  unfold rowK
  by_cases e0 : j = k * 3
  · rw [if_pos e0]; have := hf j (by omega); rw [e0, g0] at this; rw [e0]; exact (Option.some.inj this).symm
  · rw [if_neg e0]
    by_cases e1 : j = k * 3 + 1
    · rw [if_pos e1]; have := hf j (by omega); rw [e1, g1] at this; rw [e1]; exact (Option.some.inj this).symm
    · rw [if_neg e1]
      by_cases e2 : j = k * 3 + 2
      · rw [if_pos e2]; have := hf j (by omega); rw [e2, g2] at this; rw [e2]; exact (Option.some.inj this).symm
      · rw [if_neg e2]

theorem ownI_bound {n M : Int} {x : Pr} (hx : PrOk n x) {b c : Bd} (hm : -M ≤ c.m ∧ c.m ≤ M) : -(M + 12) ≤ (ownI b c x).m ∧ (ownI b c x).m ≤ M + 12 := by
  obtain ⟨xf, xt, _, l0, l1, l2⟩ := hx
  unfold ownI
  by_cases e1 : b.t = x.t <;> by_cases e2 : b.f = x.t <;> simp only [e1, e2, if_true, if_false] <;> omega
theorem fold_next {α β : Type} (f : β → α → β) (z : β) {l : List α} {j : Nat} {x : α} (hx : l[j]? = some x) : (l.take (j + 1)).foldl f z = f ((l.take j).foldl f z) x := by
  have hj : j < l.length := (List.getElem?_eq_some_iff.1 hx).1
  rw [List.take_succ_eq_append_getElem hj, List.foldl_append]
  rw [List.getElem?_eq_getElem hj] at hx
  cases hx; rfl

end Go.Proofs.Ytdijfkpccbkdfaa
