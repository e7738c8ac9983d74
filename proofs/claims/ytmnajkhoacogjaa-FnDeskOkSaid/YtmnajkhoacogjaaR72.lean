/-
  A drawn term: rows of marks in a row.
-/
import Derived.Test.YtmnajkhoacogjaaD2
import Derived.Test.YtmnajkhoacogjaaR70
namespace Go.Proofs.Ytmnajkhoacogjaa
set_option linter.unusedVariables false
set_option linter.unusedSimpArgs false
open Go Go.RowKit Pp

theorem infoMS : (Try.prog.info? 61).map (fun i => (i.zero, i.size, i.bytes)) = some (some (.slice none 0 0), 1, 24) := by kernel_rfl
theorem own_one (A : Option Addr) (n m c c' : Nat) : (Value.slice A n c).ownBlock = (Value.slice A m c').ownBlock := by cases A <;> rfl
/-- A row of marks of one's own, of at most M. -/
def MRow (lo : Nat) (wx : World) (M : Nat) (u : Value) : Prop := ∃ A c, ∃ t : List Mk, u = .slice A t.length c ∧ OwnM lo wx (.slice A t.length c) t ∧ 1 ≤ t.length ∧ t.length ≤ M
theorem MRow.below {lo : Nat} {wx w' : World} {M : Nat} {u : Value} (h : MRow lo wx M u) (hb : Below wx.heap.size wx w') : MRow lo w' M u := by
  obtain ⟨A, c, t, e, ho, hl⟩ := h
  exact ⟨A, c, t, e, own_below ho hb, hl⟩
theorem MRow.far {lo g : Nat} {wx w' : World} {M : Nat} {u : Value} (h : MRow lo wx M u) (hg : wx.grownBy w' (some g)) (hp : g < lo) : MRow lo w' M u := by
  obtain ⟨A, c, t, e, ho, hl⟩ := h
  exact ⟨A, c, t, e, own_far ho hg hp, hl⟩
theorem MRow.kept {lo : Nat} {wx w' : World} {M : Nat} {u v : Value} (h : MRow lo wx M u) (hg : wx.grownBy w' v.ownBlock) (hne : ∀ k, u.ownBlock = some k → v.ownBlock ≠ some k) : MRow lo w' M u := by
  obtain ⟨A, c, t, e, ho, hl⟩ := h
  refine ⟨A, c, t, e, World.ownsRow.kept ho hg ?_, hl⟩
  subst e
  cases hk : (Value.slice A t.length c).ownBlock with
  | none => exact .inl rfl
  | some k => exact .inr (fun e => hne k hk e.symm)
theorem MRow.more {lo : Nat} {wx : World} {M M' : Nat} {u : Value} (h : MRow lo wx M u) (hM : M ≤ M') : MRow lo wx M' u := by
  obtain ⟨A, c, t, e, ho, hl⟩ := h
  exact ⟨A, c, t, e, ho, hl.1, Nat.le_trans hl.2 hM⟩
theorem MRow.lt {lo : Nat} {wx : World} {M : Nat} {u : Value} (h : MRow lo wx M u) {k : Nat} (hk : u.ownBlock = some k) : lo ≤ k ∧ k < wx.heap.size := by
  obtain ⟨A, c, t, e, ho, hl⟩ := h
  subst e
  exact ho.lt k hk
/-- A row of such rows is being made. -/
structure TR (wD wx : World) (g : Nat) (K : Int) (v : Value) (vs : List Value) (M : Nat) : Prop where
  rd : RdO wx g K
  gr : wD.grownBy wx (some g)
  gl : g < wD.heap.size
  own : wx.ownsRow wD.heap.size 61 1 v vs.length vs
  each : ∀ u ∈ vs, MRow wD.heap.size wx M u ∧ ∀ k, u.ownBlock = some k → v.ownBlock ≠ some k
section
variable {wD wx w' : World} {g : Nat} {K K' : Int} {v v' : Value} {vs vs' : List Value} {M M' : Nat}
theorem TR.more (h : TR wD wx g K v vs M) (hK : K ≤ K') : TR wD wx g K' v vs M := { h with rd := h.rd.more hK }
theorem TR.moreM (h : TR wD wx g K v vs M) (hM : M ≤ M') : TR wD wx g K v vs M' := { h with each := fun u hu => ⟨(h.each u hu).1.more hM, (h.each u hu).2⟩ }
theorem TR.pick (h : TR wD wx g K v vs M) (hR : RdO w' g K') (hg : wx.grownBy w' (some g)) : TR wD w' g K' v vs M :=
  ⟨hR, gr_pick h.gr hg, h.gl, own_far h.own hg h.gl, fun u hu => ⟨(h.each u hu).1.far hg h.gl, (h.each u hu).2⟩⟩
theorem TR.below (h : TR wD wx g K v vs M) (hb : Below wx.heap.size wx w') : TR wD w' g K v vs M :=
  ⟨h.rd.below hb, gr_below h.gr hb, h.gl, own_below h.own hb, fun u hu => ⟨(h.each u hu).1.below hb, (h.each u hu).2⟩⟩
/-- The row itself has turned: of its rows, and one more. -/
theorem TR.app (h : TR wD wx g K v vs M) (hg : wx.grownBy w' v.ownBlock) (hown : w'.ownsRow wD.heap.size 61 1 v' vs'.length vs')
    (hat : v'.ownBlock = v.ownBlock ∨ v'.ownBlock = some wx.heap.size) (hsub : ∀ u ∈ vs', MRow wD.heap.size wx M u ∧ ∀ k, u.ownBlock = some k → v.ownBlock ≠ some k) : TR wD w' g K v' vs' M := by
  have hq : ∀ k, v.ownBlock = some k → wD.heap.size ≤ k := fun k hk => (h.own.lt k hk).1
  refine ⟨h.rd.other hg (fun k e => by have := hq k e; have := h.gl; omega), gr_then h.gr hg (fun k e => .inl (hq k e)), h.gl, hown, fun u hu => ?_⟩
  obtain ⟨h1, h2⟩ := hsub u hu
  refine ⟨h1.kept hg h2, fun k hk e => ?_⟩
  rcases hat with e1 | e1
  · exact h2 k hk (e1 ▸ e)
  · rw [e1] at e; injection e with e; have := (h1.lt hk).2; omega
/-- Another block has turned. -/
theorem TR.aside {row : Option Nat} (h : TR wD wx g K v vs M) (hg : wx.grownBy w' row) (hr : ∀ k, row = some k → wD.heap.size ≤ k ∧ v.ownBlock ≠ some k ∧ ∀ u ∈ vs, u.ownBlock ≠ some k) : TR wD w' g K v vs M := by
  have hgl := h.gl
  refine ⟨h.rd.other hg (fun k e => by have := (hr k e).1; omega), gr_then h.gr hg (fun k e => .inl (hr k e).1), h.gl, h.own.kept hg ?_, fun u hu => ⟨?_, (h.each u hu).2⟩⟩
  · cases hk : v.ownBlock with
    | none => exact .inl rfl
    | some k => exact .inr (fun e => (hr k e.symm).2.1 hk)
  · obtain ⟨A, c, t, e, ho, hl⟩ := (h.each u hu).1
    refine ⟨A, c, t, e, World.ownsRow.kept ho hg ?_, hl⟩
    subst e
    cases hk : (Value.slice A t.length c).ownBlock with
    | none => exact .inl rfl
    | some k => exact .inr (fun e => (hr k e.symm).2.2 _ hu hk)
/-- All its blocks are old ones. -/
theorem TR.old (h : TR wD wx g K v vs M) {k : Nat} (hk : wx.heap.size ≤ k) : wD.heap.size ≤ k ∧ v.ownBlock ≠ some k ∧ ∀ u ∈ vs, u.ownBlock ≠ some k :=
  ⟨Nat.le_trans h.gr.size hk, fun e => by have := (h.own.lt k e).2; omega, fun u hu e => by have := ((h.each u hu).1.lt e).2; omega⟩
/-- A new row of such rows. -/
theorem TR.fresh (h : TR wD wx g K v vs M) (hb : Below wx.heap.size wx w') (hown : w'.ownsRow wx.heap.size 61 1 v' vs'.length vs') (hsub : ∀ u ∈ vs', u ∈ vs ∨ MRow wD.heap.size wx M u) : TR wD w' g K v' vs' M := by
  refine ⟨h.rd.below hb, gr_below h.gr hb, h.gl, own_less hown h.gr.size, fun u hu => ?_⟩
  have hu2 : MRow wD.heap.size wx M u := by
    rcases hsub u hu with h1 | h1
    · exact (h.each u h1).1
    · exact h1
  exact ⟨hu2.below hb, fun k hk e => by have := (hu2.lt hk).2; have := (hown.lt k e).1; omega⟩
/-- One row put anew. -/
theorem TR.put {q c i : Nat} {u : Value} (h : TR wD wx g K (.slice (some ⟨q, 0, none⟩) vs.length c) vs M) (hu : MRow wD.heap.size wx M u) (hne : u.ownBlock ≠ some q) (hi : i < vs.length)
    (hown : (wx.setCell ⟨q, i, none⟩ u).ownsRow wD.heap.size 61 1 (.slice (some ⟨q, 0, none⟩) vs.length c) vs.length (vs.set i u)) : TR wD (wx.setCell ⟨q, i, none⟩ u) g K (.slice (some ⟨q, 0, none⟩) (vs.set i u).length c) (vs.set i u) M := by
  have hq := (h.own.lt q (by simp [Value.ownBlock])).1
  have hgl := h.gl
  refine ⟨h.rd.set _ (by dsimp only; omega) _, gr_set h.gr _ (.inl hq) _, h.gl, by rw [List.length_set]; exact hown, fun x hx => ?_⟩
  have key : MRow wD.heap.size wx M x ∧ x.ownBlock ≠ some q := by
    rcases List.mem_or_eq_of_mem_set hx with h1 | h1
    · exact ⟨(h.each x h1).1, fun e => (h.each x h1).2 q e (by simp [Value.ownBlock])⟩
    · subst h1; exact ⟨hu, hne⟩
  obtain ⟨⟨A, cc, t, e, ho, hl⟩, hn⟩ := key
  refine ⟨⟨A, cc, t, e, own_set ho (by subst e; exact hn) _, hl⟩, fun k hk e2 => ?_⟩
  have : k = q := by simpa [Value.ownBlock] using e2.symm
  subst this
  exact hn hk
theorem TR.lt (h : TR wD wx g K v vs M) : g < wx.heap.size := Nat.lt_of_lt_of_le h.gl h.gr.size
end
theorem pick_tr {wD : World} {g : Nat} {K : Int} {v : Value} {vs : List Value} {M : Nat} (m : Int) (w : World) (h : TR wD w g K v vs M) (hK : 0 ≤ K ∧ K ≤ 1000000000) (hm : -1000000000 ≤ m ∧ m ≤ 1000000000) :
    Calls Try.prog 14 #[.pointer (some ⟨g, 0, none⟩), .int .i64 m] w fun e w' =>
      ∃ x : Int, e = .returned (.int .i64 x) ∧ 0 ≤ x ∧ (1 ≤ m → x < m) ∧ (m < 1 → x = 0) ∧ TR wD w' g (K + 1) v vs M ∧ w.grownBy w' (some g) ∧ w'.heap.size = w.heap.size := by
  refine (pick_c g K m w hK hm h.rd).mono ?_
  rintro e w' ⟨x, rfl, h1, h2, h3, h4, h5, h6⟩
  exact ⟨x, rfl, h1, h2, h3, h.pick h4 h5, h5, h6⟩
namespace Pp
def bnd (s : Nat) : Nat := 4 ^ (8 - s)
theorem bnd_step {s : Nat} (h : 1 ≤ s) (h8 : s ≤ 8) : 2 * bnd s + 1 ≤ bnd (s - 1) ∧ bnd s ≤ bnd (s - 1) := by
  have : ∀ s : Fin 9, 1 ≤ s.1 → 2 * bnd s.1 + 1 ≤ bnd (s.1 - 1) ∧ bnd s.1 ≤ bnd (s.1 - 1) := by decide
  exact this ⟨s, by omega⟩ h
theorem bnd_anti {s s' : Nat} (h : s ≤ s') : bnd s' ≤ bnd s := Nat.pow_le_pow_right (by omega) (by omega)
theorem bnd_ok {s : Nat} (h8 : s ≤ 8) : 1 ≤ bnd s ∧ bnd s ≤ 65536 := by
  have : ∀ s : Fin 9, 1 ≤ bnd s.1 ∧ bnd s.1 ≤ 65536 := by decide
  exact this ⟨s, by omega⟩
end Pp
end Go.Proofs.Ytmnajkhoacogjaa
