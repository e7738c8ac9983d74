/-
  The draws of the reference: for the laws of cases.
-/
import Derived.Test.YtledgblepdjjlaaD50
namespace Go.Proofs.Ytledgblepdjjlaa
set_option linter.unusedVariables false
set_option linter.unusedSimpArgs false
open Go.RowKit Pp

/-- A case in a variable of the law's own, made in the law's world. -/
theorem cc_law {w0 W : World} {b o b2 o2 : Nat} {n : Int} {A A2 : Option Addr} {c c2 : Nat} {bs : List Bd} {cs : List (List Bd)} {t : TypeId} (hW : Below w0.heap.size w0 W) (hrd : BdsR W W.heap.size b o A bs) (hrc : ChR W W.heap.size b2 o2 A2 cs) :
    CC w0 (W.alloc (.cells #[.int .i64 n, .slice A bs.length c, .slice A2 cs.length c2] t)) W.heap.size b o n A c bs b2 o2 A2 c2 cs :=
  ⟨bthen hW (by go_grown), hW.size, rc_new hrd hrc⟩
/-- The result's box is put, of rows that lie behind it. -/
theorem box3 {w w1 w2 : World} {g : Nat} {x y z : Value} {t : TypeId} (hb1 : Below (w.alloc (.cells #[.int .i64 0, .slice none 0 0, .slice none 0 0] t)).heap.size (w.alloc (.cells #[.int .i64 0, .slice none 0 0, .slice none 0 0] t)) w1) (hg : g = w.heap.size + 1) (hs : w1.heap.size = w.heap.size + 2) (G : w1.grownBy w2 (some g)) (W : World) (hW : W = ((w2.setCell ⟨w.heap.size, 0, none⟩ x).setCell ⟨w.heap.size, 1, none⟩ y).setCell ⟨w.heap.size, 2, none⟩ z) :
    (∃ a0, w2.cell? ⟨w.heap.size, 0, none⟩ = some a0) ∧ (∃ a1, w2.cell? ⟨w.heap.size, 1, none⟩ = some a1) ∧ (∃ a2, w2.cell? ⟨w.heap.size, 2, none⟩ = some a2) ∧ (∀ i, w2.frozen? ⟨w.heap.size, i, none⟩ = false) ∧
    W.cell? ⟨w.heap.size, 0, none⟩ = some x ∧ W.cell? ⟨w.heap.size, 1, none⟩ = some y ∧ W.cell? ⟨w.heap.size, 2, none⟩ = some z ∧ Below w.heap.size w W ∧ W.heap.size = w2.heap.size := by
  have s0 := ((bcell hb1).1 w.heap.size 0 (by simp)).trans (show _ = some (Value.int .i64 0) by simp [go_sem])
  have s1 := ((bcell hb1).1 w.heap.size 1 (by simp)).trans (show _ = some (Value.slice none 0 0) by simp [go_sem])
  have s2 := ((bcell hb1).1 w.heap.size 2 (by simp)).trans (show _ = some (Value.slice none 0 0) by simp [go_sem])
  have sf := fun i => ((bcell hb1).2 w.heap.size i (by simp)).trans (show _ = false by simp [go_sem])
  have a0 := far_cell G s0 (by omega)
  have a1 := far_cell G s1 (by omega)
  have a2 := far_cell G s2 (by omega)
  have af := fun i => far_frozen G (sf i) (by omega) (by omega)
  have hW1 : Below w.heap.size w w1 := bthen (by go_grown) hb1
  have hW2 : Below w.heap.size w w2 := hW1.grown G (by omega) (fun q hq => by cases hq; omega)
  obtain ⟨r0, r1, r2⟩ := three_cells (a := x) (b := y) (d := z) a0 a1 a2
  subst hW
  exact ⟨⟨_, a0⟩, ⟨_, a1⟩, ⟨_, a2⟩, af, r0, r1, r2, ((hW2.setCell (Nat.le_refl _) _).setCell (Nat.le_refl _) _).setCell (Nat.le_refl _) _, by simp⟩


set_option maxHeartbeats 4000000 in
set_option maxRecDepth 100000 in
theorem drawFirst_c (A0 : Option Addr) (n0 c0 : Nat) (zs : List Int) (w : World) (hn0 : n0 ≤ 1048576) (hc0 : n0 ≤ c0) (hA0 : n0 = 0 ∨ A0.isSome = true) (hb0 : BytesAt w w.heap.size A0 n0 zs) :
    Calls Try.prog 57 #[.slice A0 n0 c0] w fun e w' =>
      ∃ n A c bs A2 c2 cs b b2, e = .returned (.agg #[.int .i64 n, .slice A bs.length c, .slice A2 cs.length c2]) ∧ (0 ≤ n ∧ n ≤ 7) ∧ bs.length ≤ 8 ∧ cs.length ≤ 4 ∧ Hid (∀ l ∈ cs, l.length ≤ 3) ∧ cs.length ≤ c2 ∧ BdsR w' w'.heap.size b 0 A bs ∧ ChR w' w'.heap.size b2 0 A2 cs ∧ Below w.heap.size w w' := by
  go_enter Try.func57, Try.ntmps57
  go_wp2_with (first
    | (go_at_call 79; go_fit (open_c A0 n0 c0 zs _ hn0 hc0 hA0 (hb0.below (show Below w.heap.size w _ by go_grown) (by simp))); rintro e w1 ⟨rfl, hR1, hb1, hs1⟩; simp only [World.size_alloc] at hR1 hs1)
    | (go_at_call 87; go_fit (case_c _ 0 12 _ (by omega) (by omega) hR1); rintro e w2 ⟨n, A, c, bs, A2, c2, cs, rfl, hn, hlb, hsm, hlc, HL, hoB, hoC, hcp, hR2, G2⟩; obtain ⟨⟨_, a0⟩, ⟨_, a1⟩, ⟨_, a2⟩, af, r0, r1, r2, hW, hS⟩ := box3 (x := .int .i64 n) (y := .slice A bs.length c) (z := .slice A2 cs.length c2) hb1 rfl hs1 G2 _ rfl; have af0 := af 0; have af1 := af 1; have af2 := af 2))
  refine bodyPost_ret (v := .agg #[.int .i64 n, .slice A bs.length c, .slice A2 cs.length c2]) (by simp [results, Try.results57, go_sem, r0, r1, r2]) rfl ?_
  obtain ⟨b, hb⟩ := OwnB.readsA (own_set_low (own_set_low (own_set_low hoB (p := ⟨w.heap.size, 0, none⟩) (by dsimp only; omega) (.int .i64 n)) (p := ⟨w.heap.size, 1, none⟩) (by dsimp only; omega) (.slice A bs.length c)) (p := ⟨w.heap.size, 2, none⟩) (by dsimp only; omega) (.slice A2 cs.length c2))
  obtain ⟨b2, hb2⟩ := (((hoC.set_low (p := ⟨w.heap.size, 0, none⟩) (by dsimp only; omega) (.int .i64 n)).set_low (p := ⟨w.heap.size, 1, none⟩) (by dsimp only; omega) (.slice A bs.length c)).set_low (p := ⟨w.heap.size, 2, none⟩) (by dsimp only; omega) (.slice A2 cs.length c2)).reads
  exact ⟨n, A, c, bs, A2, c2, cs, b, b2, rfl, hn, hlb, hlc, HL, hcp, hb, hb2, hW⟩
set_option maxHeartbeats 4000000 in
set_option maxRecDepth 100000 in
theorem drawWays_c (A0 : Option Addr) (n0 c0 : Nat) (zs : List Int) (w : World) (hn0 : n0 ≤ 1048576) (hc0 : n0 ≤ c0) (hA0 : n0 = 0 ∨ A0.isSome = true) (hb0 : BytesAt w w.heap.size A0 n0 zs) :
    Calls Try.prog 41 #[.slice A0 n0 c0] w fun e w' =>
      ∃ n A c bs A2 c2 cs b b2, e = .returned (.agg #[.int .i64 n, .slice A bs.length c, .slice A2 cs.length c2]) ∧ (0 ≤ n ∧ n ≤ 7) ∧ bs.length ≤ 8 ∧ cs.length ≤ 4 ∧ Hid (∀ l ∈ cs, l.length ≤ 3) ∧ cs.length ≤ c2 ∧ BdsR w' w'.heap.size b 0 A bs ∧ ChR w' w'.heap.size b2 0 A2 cs ∧ Below w.heap.size w w' := by
  go_enter Try.func41, Try.ntmps41
  go_wp2_with (first
    | (go_at_call 79; go_fit (open_c A0 n0 c0 zs _ hn0 hc0 hA0 (hb0.below (show Below w.heap.size w _ by go_grown) (by simp))); rintro e w1 ⟨rfl, hR1, hb1, hs1⟩; simp only [World.size_alloc] at hR1 hs1)
    | (go_at_call 87; go_fit (case_c _ 0 12 _ (by omega) (by omega) hR1); rintro e w2 ⟨n, A, c, bs, A2, c2, cs, rfl, hn, hlb, hsm, hlc, HL, hoB, hoC, hcp, hR2, G2⟩; obtain ⟨⟨_, a0⟩, ⟨_, a1⟩, ⟨_, a2⟩, af, r0, r1, r2, hW, hS⟩ := box3 (x := .int .i64 n) (y := .slice A bs.length c) (z := .slice A2 cs.length c2) hb1 rfl hs1 G2 _ rfl; have af0 := af 0; have af1 := af 1; have af2 := af 2))
  refine bodyPost_ret (v := .agg #[.int .i64 n, .slice A bs.length c, .slice A2 cs.length c2]) (by simp [results, Try.results41, go_sem, r0, r1, r2]) rfl ?_
  obtain ⟨b, hb⟩ := OwnB.readsA (own_set_low (own_set_low (own_set_low hoB (p := ⟨w.heap.size, 0, none⟩) (by dsimp only; omega) (.int .i64 n)) (p := ⟨w.heap.size, 1, none⟩) (by dsimp only; omega) (.slice A bs.length c)) (p := ⟨w.heap.size, 2, none⟩) (by dsimp only; omega) (.slice A2 cs.length c2))
  obtain ⟨b2, hb2⟩ := (((hoC.set_low (p := ⟨w.heap.size, 0, none⟩) (by dsimp only; omega) (.int .i64 n)).set_low (p := ⟨w.heap.size, 1, none⟩) (by dsimp only; omega) (.slice A bs.length c)).set_low (p := ⟨w.heap.size, 2, none⟩) (by dsimp only; omega) (.slice A2 cs.length c2)).reads
  exact ⟨n, A, c, bs, A2, c2, cs, b, b2, rfl, hn, hlb, hlc, HL, hcp, hb, hb2, hW⟩
end Go.Proofs.Ytledgblepdjjlaa
