/-
  Rows of rows: copied into a row of one's own; one row put anew.
-/
import Derived.Test.YtledgblepdjjlaaR50
import Derived.Test.YtledgblepdjjlaaL11a
namespace Go.Proofs.Ytledgblepdjjlaa
set_option linter.unusedVariables false
set_option linter.unusedSimpArgs false
open Go.RowKit Pp

theorem infoSC : (Try.prog.info? 30).map (fun i => (i.zero, i.size, i.bytes)) = some (some (.slice none 0 0), 1, 24) := by kernel_rfl
/-- The rows' values. -/
theorem chr_vs {w : World} {B b o : Nat} {A : Option Addr} {cs : List (List Bd)} (h : ChR w B b o A cs) :
    ∃ vs : List Value, vs.length = cs.length * 1 ∧ NewsAt w A cs.length vs ∧ (∀ u ∈ vs, u.oneCell' = true) ∧ ∀ (j : Nat) (l : List Bd), cs[j]? = some l → ∃ A' b' o' c', vs[j]? = some (.slice A' l.length c') ∧ BdsR w B b' o' A' l := by
  have hf : ∀ j : Nat, ∃ v : Value, ∀ l, cs[j]? = some l → w.cell? ⟨b, o + j, none⟩ = some v ∧ ∃ A' b' o' c', v = .slice A' l.length c' ∧ BdsR w B b' o' A' l := by
    intro j
    cases hc : cs[j]? with
    | none => exact ⟨default, fun l hl => by cases hl⟩
    | some l =>
      obtain ⟨A', b', o', c', h1, h2⟩ := h.row j l hc
      exact ⟨_, fun l' hl => by cases hl; exact ⟨h1, A', b', o', c', rfl, h2⟩⟩
  obtain ⟨f, hf⟩ := Classical.axiomOfChoice hf
  have hget : ∀ (j : Nat) (l : List Bd), cs[j]? = some l → ((List.range cs.length).map f)[j]? = some (f j) := fun j l hl => by
    have := (List.getElem?_eq_some_iff.1 hl).1
    simp [this]
  refine ⟨(List.range cs.length).map f, by simp, fun hm => ?_, fun u hu => ?_, fun j l hl => ?_⟩
  · refine ⟨_, h.addr hm, fun j u hu => ?_⟩
    have hj : j < cs.length := by
      have := (List.getElem?_eq_some_iff.1 hu).1
      simpa using this
    have hl := List.getElem?_eq_getElem hj
    rw [hget j _ hl] at hu
    cases hu
    rw [add_zero_off]
    exact (hf j _ hl).1
  · obtain ⟨j, hj, rfl⟩ := List.mem_map.1 hu
    rw [List.mem_range] at hj
    obtain ⟨_, A', b', o', c', e, _⟩ := hf j _ (List.getElem?_eq_getElem hj)
    rw [e]; rfl
  · obtain ⟨_, A', b', o', c', e, h2⟩ := hf j l hl
    exact ⟨A', b', o', c', by rw [hget j l hl, e], h2⟩
/-- One row put anew. -/
theorem chr_put {w : World} {base B g c k : Nat} {cs : List (List Bd)} {vs : List Value} {l' : List Bd} {A' : Option Addr} {b' o' c' : Nat} (h : w.ownsRow base 30 1 (.slice (some ⟨g, 0, none⟩) cs.length c) cs.length vs)
    (hB : B ≤ base) (hr : ∀ (j : Nat) (l : List Bd), cs[j]? = some l → ∃ A' b' o' c', vs[j]? = some (.slice A' l.length c') ∧ BdsR w B b' o' A' l) (hk : k < cs.length) (hl : BdsR w B b' o' A' l') :
    ChR (w.setCell ⟨g, k, none⟩ (.slice A' l'.length c')) (w.setCell ⟨g, k, none⟩ (.slice A' l'.length c')).heap.size g 0 (some ⟨g, 0, none⟩) (cs.set k l') ∧ w.frozen? ⟨g, k, none⟩ = false ∧ (∃ u, w.cell? ⟨g, k, none⟩ = some u) ∧ base ≤ g := by
  obtain ⟨f, hf, hx, hb, hnc, hcm⟩ := own_row h
  have hgl : g < w.heap.size := (h.lt g rfl).2
  have hbel : Below B w (w.setCell ⟨g, k, none⟩ (.slice A' l'.length c')) := (Below.refl _ _).setCell (by dsimp only; omega) _
  have hcell := hf.cell (show k < c * 1 by omega)
  refine ⟨⟨fun _ => rfl, fun _ => by simpa using hgl, fun j l hj => ?_⟩, hf.frozen k, ⟨_, hcell⟩, hb⟩
  rw [Nat.zero_add]
  have hj0 : j < cs.length := by
    have := (List.getElem?_eq_some_iff.1 hj).1
    simpa using this
  by_cases e : j = k
  · subst e
    rw [List.getElem?_set_self hk] at hj
    cases hj
    exact ⟨A', b', o', c', World.cell?_setCell_same _ _ _ hcell, (hl.below hbel).more (by simp; omega)⟩
  · rw [List.getElem?_set_ne (fun x => e x.symm)] at hj
    obtain ⟨A9, b9, o9, c9, h1, h2⟩ := hr j l hj
    refine ⟨A9, b9, o9, c9, ?_, (h2.below hbel).more (by simp; omega)⟩
    rw [World.cell?_setCell_other _ _ _ _ (by first | (simp; done) | (simp; omega)), hf.cell (show j < c * 1 by omega)]
    have := hx j (by omega)
    rw [h1] at this
    exact this.symm
end Go.Proofs.Ytledgblepdjjlaa
