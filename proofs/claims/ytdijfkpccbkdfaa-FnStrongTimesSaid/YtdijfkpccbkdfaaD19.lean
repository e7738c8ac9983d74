/-
  The draws of the reference: for the laws of deals.
-/
import Derived.Test.YtdijfkpccbkdfaaD18
namespace Go.Proofs.Ytdijfkpccbkdfaa
set_option linter.unusedVariables false
set_option linter.unusedSimpArgs false
open Go.RowKit Pp

/-- A deal in a variable of the law's own, made in the law's world. -/
theorem pd_law {w0 W : World} {b o b2 o2 : Nat} {n : Int} {A A2 : Option Addr} {c c2 : Nat} {bs : List Bd} {ps : List Pr} {t : TypeId} (hW : Below w0.heap.size w0 W) (hrd : BdsR W W.heap.size b o A bs) (hrp : CsR W W.heap.size b2 o2 A2 ps.length (prCs ps)) :
    PD w0 (W.alloc (.cells #[.int .i64 n, .slice A bs.length c, .slice A2 ps.length c2] t)) W.heap.size b o n A c bs b2 o2 A2 c2 ps :=
  ⟨bthen hW (by go_grown), hW.size, rd_new hrd hrp⟩
theorem ints_off {w : World} {B b o : Nat} {A : Option Addr} {xs : List Int} (h : IntsR w B b o A xs) (p : Addr) (v : Value) (hp : 0 < xs.length → b ≠ p.block) : IntsR (w.setCell p v) B b o A xs :=
  ⟨h.addr, h.lt, fun j hj => (set_other (Ne.symm (hp (by omega)))).trans (h.cell j hj)⟩
/-- The result's box is put, of rows that lie behind it. -/
theorem box3 {w w1 w2 : World} {g : Nat} {x y z : Value} {t : TypeId} (hb1 : Below (w.alloc (.cells #[.int .i64 0, .slice none 0 0, .slice none 0 0] t)).heap.size (w.alloc (.cells #[.int .i64 0, .slice none 0 0, .slice none 0 0] t)) w1) (hg : g = w.heap.size + 1) (hs : w1.heap.size = w.heap.size + 2) (G : w1.grownBy w2 (some g)) (W : World) (hW : W = ((w2.setCell ⟨w.heap.size, 0, none⟩ x).setCell ⟨w.heap.size, 1, none⟩ y).setCell ⟨w.heap.size, 2, none⟩ z) :
    (∃ a0, w2.cell? ⟨w.heap.size, 0, none⟩ = some a0) ∧ (∃ a1, w2.cell? ⟨w.heap.size, 1, none⟩ = some a1) ∧ (∃ a2, w2.cell? ⟨w.heap.size, 2, none⟩ = some a2) ∧ (∀ i, w2.frozen? ⟨w.heap.size, i, none⟩ = false) ∧
    W.cell? ⟨w.heap.size, 0, none⟩ = some x ∧ W.cell? ⟨w.heap.size, 1, none⟩ = some y ∧ W.cell? ⟨w.heap.size, 2, none⟩ = some z ∧ Below w.heap.size w W ∧ W.heap.size = w2.heap.size := by
  have s0 := ((bcell hb1).1 w.heap.size 0 (by simp)).trans (show _ = some (Value.int .i64 0) by simp [go_sem])
  have s1 := ((bcell hb1).1 w.heap.size 1 (by simp)).trans (show _ = some (Value.slice none 0 0) by simp [go_sem])
  have s2 := ((bcell hb1).1 w.heap.size 2 (by simp)).trans (show _ = some (Value.slice none 0 0) by simp [go_sem])
  have sf := fun i => ((bcell hb1).2 w.heap.size i (by simp)).trans (show _ = false by simp [go_sem])
  have a0 := far_cell G s0 (by omega)
  have a1 := far_cell G s1 (by omega)
  have a2 := far_cell G s2 (by omega)
  have af := fun i => far_frozen G (sf i) (by omega) (by omega)
  have hW1 : Below w.heap.size w w1 := bthen (by go_grown) hb1
  have hW2 : Below w.heap.size w w2 := hW1.grown G (by omega) (fun q hq => by cases hq; omega)
  obtain ⟨r0, r1, r2⟩ := three_cells (a := x) (b := y) (d := z) a0 a1 a2
  subst hW
  exact ⟨⟨_, a0⟩, ⟨_, a1⟩, ⟨_, a2⟩, af, r0, r1, r2, ((hW2.setCell (Nat.le_refl _) _).setCell (Nat.le_refl _) _).setCell (Nat.le_refl _) _, by simp⟩

set_option maxHeartbeats 4000000 in
set_option maxRecDepth 100000 in
theorem drawWeak_c (A0 : Option Addr) (n0 c0 : Nat) (zs : List Int) (w : World) (hn0 : n0 ≤ 1048576) (hc0 : n0 ≤ c0) (hA0 : n0 = 0 ∨ A0.isSome = true) (hb0 : BytesAt w w.heap.size A0 n0 zs) :
    Calls Try.prog 38 #[.slice A0 n0 c0] w fun e w' =>
      ∃ n A c bs A2 c2 ps b b2, e = .returned (.agg #[.int .i64 n, .slice A bs.length c, .slice A2 ps.length c2]) ∧ (0 ≤ n ∧ n ≤ 7) ∧ bs.length ≤ 6 ∧ ps.length ≤ 3 ∧ Hid (∀ x ∈ ps, SmP x) ∧ ps.length ≤ c2 ∧ BdsR w' w'.heap.size b 0 A bs ∧ CsR w' w'.heap.size b2 0 A2 ps.length (prCs ps) ∧ Below w.heap.size w w' := by
  go_enter Try.func38, Try.ntmps38
  go_wp2_with (first
    | (go_at_call 54; go_fit (open_c A0 n0 c0 zs _ hn0 hc0 hA0 (hb0.below (show Below w.heap.size w _ by go_grown) (by simp))); rintro e w1 ⟨rfl, hR1, hb1, hs1⟩; simp only [World.size_alloc] at hR1 hs1)
    | (go_at_call 83; go_fit (deal_c _ 0 12 _ (by omega) (by omega) hR1); rintro e w2 ⟨n, A, c, bs, A2, c2, ps, rfl, hn, hlb, hlp, HP, hcp, ⟨b, hb, hb'⟩, ⟨b2, hb2, hb2'⟩, hR2, G2⟩; obtain ⟨⟨_, a0⟩, ⟨_, a1⟩, ⟨_, a2⟩, af, r0, r1, r2, hW, hS⟩ := box3 (x := .int .i64 n) (y := .slice A bs.length c) (z := .slice A2 ps.length c2) hb1 rfl hs1 G2 _ rfl; have af0 := af 0; have af1 := af 1; have af2 := af 2))
  refine bodyPost_ret (v := .agg #[.int .i64 n, .slice A bs.length c, .slice A2 ps.length c2]) (by simp [results, Try.results38, go_sem, r0, r1, r2]) rfl ?_
  refine ⟨n, A, c, bs, A2, c2, ps, b, b2, rfl, hn, hlb, hlp, HP, hcp, ?_, ?_, hW⟩
  · rw [hS]; exact bds_off (bds_off (bds_off hb _ _ (fun h0 => by have := hb' h0; dsimp only; omega)) _ _ (fun h0 => by have := hb' h0; dsimp only; omega)) _ _ (fun h0 => by have := hb' h0; dsimp only; omega)
  · rw [hS]; exact cs_off (cs_off (cs_off hb2 _ _ (fun h0 => by have := hb2' h0; dsimp only; omega)) _ _ (fun h0 => by have := hb2' h0; dsimp only; omega)) _ _ (fun h0 => by have := hb2' h0; dsimp only; omega)
set_option maxHeartbeats 4000000 in
set_option maxRecDepth 100000 in
theorem drawCount_c (A0 : Option Addr) (n0 c0 : Nat) (zs : List Int) (w : World) (hn0 : n0 ≤ 1048576) (hc0 : n0 ≤ c0) (hA0 : n0 = 0 ∨ A0.isSome = true) (hb0 : BytesAt w w.heap.size A0 n0 zs) :
    Calls Try.prog 43 #[.slice A0 n0 c0] w fun e w' =>
      ∃ n A c bs A2 c2 ps b b2, e = .returned (.agg #[.int .i64 n, .slice A bs.length c, .slice A2 ps.length c2]) ∧ (0 ≤ n ∧ n ≤ 7) ∧ bs.length ≤ 6 ∧ ps.length ≤ 3 ∧ Hid (∀ x ∈ ps, SmP x) ∧ ps.length ≤ c2 ∧ BdsR w' w'.heap.size b 0 A bs ∧ CsR w' w'.heap.size b2 0 A2 ps.length (prCs ps) ∧ Below w.heap.size w w' := by
  go_enter Try.func43, Try.ntmps43
  go_wp2_with (first
    | (go_at_call 54; go_fit (open_c A0 n0 c0 zs _ hn0 hc0 hA0 (hb0.below (show Below w.heap.size w _ by go_grown) (by simp))); rintro e w1 ⟨rfl, hR1, hb1, hs1⟩; simp only [World.size_alloc] at hR1 hs1)
    | (go_at_call 83; go_fit (deal_c _ 0 12 _ (by omega) (by omega) hR1); rintro e w2 ⟨n, A, c, bs, A2, c2, ps, rfl, hn, hlb, hlp, HP, hcp, ⟨b, hb, hb'⟩, ⟨b2, hb2, hb2'⟩, hR2, G2⟩; obtain ⟨⟨_, a0⟩, ⟨_, a1⟩, ⟨_, a2⟩, af, r0, r1, r2, hW, hS⟩ := box3 (x := .int .i64 n) (y := .slice A bs.length c) (z := .slice A2 ps.length c2) hb1 rfl hs1 G2 _ rfl; have af0 := af 0; have af1 := af 1; have af2 := af 2))
  refine bodyPost_ret (v := .agg #[.int .i64 n, .slice A bs.length c, .slice A2 ps.length c2]) (by simp [results, Try.results43, go_sem, r0, r1, r2]) rfl ?_
  refine ⟨n, A, c, bs, A2, c2, ps, b, b2, rfl, hn, hlb, hlp, HP, hcp, ?_, ?_, hW⟩
  · rw [hS]; exact bds_off (bds_off (bds_off hb _ _ (fun h0 => by have := hb' h0; dsimp only; omega)) _ _ (fun h0 => by have := hb' h0; dsimp only; omega)) _ _ (fun h0 => by have := hb' h0; dsimp only; omega)
  · rw [hS]; exact cs_off (cs_off (cs_off hb2 _ _ (fun h0 => by have := hb2' h0; dsimp only; omega)) _ _ (fun h0 => by have := hb2' h0; dsimp only; omega)) _ _ (fun h0 => by have := hb2' h0; dsimp only; omega)
set_option maxHeartbeats 4000000 in
set_option maxRecDepth 100000 in
theorem drawStrong_c (A0 : Option Addr) (n0 c0 : Nat) (zs : List Int) (w : World) (hn0 : n0 ≤ 1048576) (hc0 : n0 ≤ c0) (hA0 : n0 = 0 ∨ A0.isSome = true) (hb0 : BytesAt w w.heap.size A0 n0 zs) :
    Calls Try.prog 46 #[.slice A0 n0 c0] w fun e w' =>
      ∃ n A c bs A2 c2 ps b b2, e = .returned (.agg #[.int .i64 n, .slice A bs.length c, .slice A2 ps.length c2]) ∧ (0 ≤ n ∧ n ≤ 7) ∧ bs.length ≤ 6 ∧ ps.length ≤ 3 ∧ Hid (∀ x ∈ ps, SmP x) ∧ ps.length ≤ c2 ∧ BdsR w' w'.heap.size b 0 A bs ∧ CsR w' w'.heap.size b2 0 A2 ps.length (prCs ps) ∧ Below w.heap.size w w' := by
  go_enter Try.func46, Try.ntmps46
  go_wp2_with (first
    | (go_at_call 54; go_fit (open_c A0 n0 c0 zs _ hn0 hc0 hA0 (hb0.below (show Below w.heap.size w _ by go_grown) (by simp))); rintro e w1 ⟨rfl, hR1, hb1, hs1⟩; simp only [World.size_alloc] at hR1 hs1)
    | (go_at_call 83; go_fit (deal_c _ 0 12 _ (by omega) (by omega) hR1); rintro e w2 ⟨n, A, c, bs, A2, c2, ps, rfl, hn, hlb, hlp, HP, hcp, ⟨b, hb, hb'⟩, ⟨b2, hb2, hb2'⟩, hR2, G2⟩; obtain ⟨⟨_, a0⟩, ⟨_, a1⟩, ⟨_, a2⟩, af, r0, r1, r2, hW, hS⟩ := box3 (x := .int .i64 n) (y := .slice A bs.length c) (z := .slice A2 ps.length c2) hb1 rfl hs1 G2 _ rfl; have af0 := af 0; have af1 := af 1; have af2 := af 2))
  refine bodyPost_ret (v := .agg #[.int .i64 n, .slice A bs.length c, .slice A2 ps.length c2]) (by simp [results, Try.results46, go_sem, r0, r1, r2]) rfl ?_
  refine ⟨n, A, c, bs, A2, c2, ps, b, b2, rfl, hn, hlb, hlp, HP, hcp, ?_, ?_, hW⟩
  · rw [hS]; exact bds_off (bds_off (bds_off hb _ _ (fun h0 => by have := hb' h0; dsimp only; omega)) _ _ (fun h0 => by have := hb' h0; dsimp only; omega)) _ _ (fun h0 => by have := hb' h0; dsimp only; omega)
  · rw [hS]; exact cs_off (cs_off (cs_off hb2 _ _ (fun h0 => by have := hb2' h0; dsimp only; omega)) _ _ (fun h0 => by have := hb2' h0; dsimp only; omega)) _ _ (fun h0 => by have := hb2' h0; dsimp only; omega)
set_option maxHeartbeats 4000000 in
set_option maxRecDepth 100000 in
theorem drawPlanFor_c (A0 : Option Addr) (n0 c0 : Nat) (zs : List Int) (w : World) (hn0 : n0 ≤ 1048576) (hc0 : n0 ≤ c0) (hA0 : n0 = 0 ∨ A0.isSome = true) (hb0 : BytesAt w w.heap.size A0 n0 zs) :
    Calls Try.prog 14 #[.slice A0 n0 c0] w fun e w' =>
      ∃ n A c bs A2 c2 ps A3 c3 xs b b2 b3, e = .returned (.tuple #[.agg #[.int .i64 n, .slice A bs.length c, .slice A2 ps.length c2], .slice A3 xs.length c3]) ∧ (0 ≤ n ∧ n ≤ 7) ∧ bs.length ≤ 6 ∧ ps.length ≤ 3 ∧ xs.length ≤ 3 ∧ Hid (∀ x ∈ ps, SmP x) ∧ BdsR w' w'.heap.size b 0 A bs ∧ CsR w' w'.heap.size b2 0 A2 ps.length (prCs ps) ∧ IntsR w' w'.heap.size b3 0 A3 xs ∧ Below w.heap.size w w' := by
  go_enter Try.func14, Try.ntmps14
  go_wp2_with (first
    | (go_at_call 54; go_fit (open_c A0 n0 c0 zs _ hn0 hc0 hA0 (hb0.below (show Below w.heap.size w _ by go_grown) (by simp))); rintro e w1 ⟨rfl, hR1, hb1, hs1⟩; simp only [World.size_alloc] at hR1 hs1)
    | (go_at_call 53; go_fit (lasts_c _ 0 _ (by omega) hR1); rintro e w2 ⟨n, A, c, bs, A2, c2, ps, A3, c3, xs, rfl, hn, hlb, hlp, hlx, HP, ⟨b, hb, hb'⟩, ⟨b2, hb2, hb2'⟩, ⟨b3, hb3, hb3'⟩, hR2, G2⟩; obtain ⟨⟨_, a0⟩, ⟨_, a1⟩, ⟨_, a2⟩, af, r0, r1, r2, hW, hS⟩ := box3 (x := .int .i64 n) (y := .slice A bs.length c) (z := .slice A2 ps.length c2) hb1 rfl hs1 G2 _ rfl; have af0 := af 0; have af1 := af 1; have af2 := af 2))
  refine bodyPost_ret (v := .tuple #[.agg #[.int .i64 n, .slice A bs.length c, .slice A2 ps.length c2], .slice A3 xs.length c3]) (by simp [results, Try.results14, go_sem, r0, r1, r2]) rfl ?_
  refine ⟨n, A, c, bs, A2, c2, ps, A3, c3, xs, b, b2, b3, rfl, hn, hlb, hlp, hlx, HP, ?_, ?_, ?_, hW⟩
  · rw [hS]; exact bds_off (bds_off (bds_off hb _ _ (fun h0 => by have := hb' h0; dsimp only; omega)) _ _ (fun h0 => by have := hb' h0; dsimp only; omega)) _ _ (fun h0 => by have := hb' h0; dsimp only; omega)
  · rw [hS]; exact cs_off (cs_off (cs_off hb2 _ _ (fun h0 => by have := hb2' h0; dsimp only; omega)) _ _ (fun h0 => by have := hb2' h0; dsimp only; omega)) _ _ (fun h0 => by have := hb2' h0; dsimp only; omega)
  · rw [hS]; exact ints_off (ints_off (ints_off hb3 _ _ (fun h0 => by have := hb3' h0; dsimp only; omega)) _ _ (fun h0 => by have := hb3' h0; dsimp only; omega)) _ _ (fun h0 => by have := hb3' h0; dsimp only; omega)
set_option maxHeartbeats 4000000 in
set_option maxRecDepth 100000 in
theorem drawTimes_c (A0 : Option Addr) (n0 c0 : Nat) (zs : List Int) (w : World) (hn0 : n0 ≤ 1048576) (hc0 : n0 ≤ c0) (hA0 : n0 = 0 ∨ A0.isSome = true) (hb0 : BytesAt w w.heap.size A0 n0 zs) :
    Calls Try.prog 47 #[.slice A0 n0 c0] w fun e w' =>
      ∃ n A c bs A2 c2 ps A3 c3 xs b b2 b3, e = .returned (.tuple #[.agg #[.int .i64 n, .slice A bs.length c, .slice A2 ps.length c2], .slice A3 xs.length c3]) ∧ (0 ≤ n ∧ n ≤ 7) ∧ bs.length ≤ 6 ∧ ps.length ≤ 3 ∧ xs.length ≤ 3 ∧ Hid (∀ x ∈ ps, SmP x) ∧ BdsR w' w'.heap.size b 0 A bs ∧ CsR w' w'.heap.size b2 0 A2 ps.length (prCs ps) ∧ IntsR w' w'.heap.size b3 0 A3 xs ∧ Below w.heap.size w w' := by
  go_enter Try.func47, Try.ntmps47
  go_wp2_with (first
    | (go_at_call 54; go_fit (open_c A0 n0 c0 zs _ hn0 hc0 hA0 (hb0.below (show Below w.heap.size w _ by go_grown) (by simp))); rintro e w1 ⟨rfl, hR1, hb1, hs1⟩; simp only [World.size_alloc] at hR1 hs1)
    | (go_at_call 53; go_fit (lasts_c _ 0 _ (by omega) hR1); rintro e w2 ⟨n, A, c, bs, A2, c2, ps, A3, c3, xs, rfl, hn, hlb, hlp, hlx, HP, ⟨b, hb, hb'⟩, ⟨b2, hb2, hb2'⟩, ⟨b3, hb3, hb3'⟩, hR2, G2⟩; obtain ⟨⟨_, a0⟩, ⟨_, a1⟩, ⟨_, a2⟩, af, r0, r1, r2, hW, hS⟩ := box3 (x := .int .i64 n) (y := .slice A bs.length c) (z := .slice A2 ps.length c2) hb1 rfl hs1 G2 _ rfl; have af0 := af 0; have af1 := af 1; have af2 := af 2))
  refine bodyPost_ret (v := .tuple #[.agg #[.int .i64 n, .slice A bs.length c, .slice A2 ps.length c2], .slice A3 xs.length c3]) (by simp [results, Try.results47, go_sem, r0, r1, r2]) rfl ?_
  refine ⟨n, A, c, bs, A2, c2, ps, A3, c3, xs, b, b2, b3, rfl, hn, hlb, hlp, hlx, HP, ?_, ?_, ?_, hW⟩
  · rw [hS]; exact bds_off (bds_off (bds_off hb _ _ (fun h0 => by have := hb' h0; dsimp only; omega)) _ _ (fun h0 => by have := hb' h0; dsimp only; omega)) _ _ (fun h0 => by have := hb' h0; dsimp only; omega)
  · rw [hS]; exact cs_off (cs_off (cs_off hb2 _ _ (fun h0 => by have := hb2' h0; dsimp only; omega)) _ _ (fun h0 => by have := hb2' h0; dsimp only; omega)) _ _ (fun h0 => by have := hb2' h0; dsimp only; omega)
  · rw [hS]; exact ints_off (ints_off (ints_off hb3 _ _ (fun h0 => by have := hb3' h0; dsimp only; omega)) _ _ (fun h0 => by have := hb3' h0; dsimp only; omega)) _ _ (fun h0 => by have := hb3' h0; dsimp only; omega)
end Go.Proofs.Ytdijfkpccbkdfaa
