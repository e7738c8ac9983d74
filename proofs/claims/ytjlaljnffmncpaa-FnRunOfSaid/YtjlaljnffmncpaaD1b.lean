/-
  The draws of the reference: the reader is made; one in n.
-/
import Derived.Test.YtjlaljnffmncpaaD1
namespace Go.Proofs.Ytjlaljnffmncpaa
set_option linter.unusedVariables false
set_option linter.unusedSimpArgs false
open Go.RowKit Pp

theorem BytesAt.less {w : World} {B : Nat} {A : Option Addr} {n m : Nat} {zs : List Int} (h : BytesAt w B A n zs) (hm : m ≤ n) : BytesAt w B A m zs :=
  ⟨Nat.le_trans hm h.1, h.2.1, fun i hi => h.2.2 i (by omega)⟩
theorem BytesAt.below {w w' : World} {B B' : Nat} {A : Option Addr} {n : Nat} {zs : List Int} (h : BytesAt w B A n zs) (hb : Below B w w') (hB : B ≤ B') : BytesAt w' B' A n zs :=
  ⟨h.1, h.2.1, fun i hi => by
    obtain ⟨x, hx, hlt, hc⟩ := h.2.2 i hi
    refine ⟨x, hx, by omega, ?_⟩
    rw [← hc]
    exact hb.cell (p := x.add i) (by have : (x.add i).block = x.block := by unfold Addr.add; split <;> rfl
                                     omega)⟩
theorem RdO.more {w : World} {g : Nat} {K K' : Int} (h : RdO w g K) (hK : K ≤ K') : RdO w g K' := by
  obtain ⟨⟨A, n, c, zs, k, h0, h1, hk, hkK, hn, hb⟩, hf⟩ := h
  exact ⟨⟨A, n, c, zs, k, h0, h1, hk, by omega, hn, hb⟩, hf⟩

theorem rd_new {w : World} {A : Option Addr} {n c : Nat} {zs : List Int} (t : TypeId) (hn : n ≤ 2000) (hb : BytesAt w w.heap.size A n zs) : RdO (w.alloc (.cells #[.slice A n c, .int .i64 0] t)) w.heap.size 0 ∧ Below w.heap.size w (w.alloc (.cells #[.slice A n c, .int .i64 0] t)) ∧ (w.alloc (.cells #[.slice A n c, .int .i64 0] t)).heap.size = w.heap.size + 1 := by
  have hW : Below w.heap.size w (w.alloc (.cells #[.slice A n c, .int .i64 0] t)) := by go_grown
  exact ⟨⟨⟨A, n, c, zs, 0, by simp [go_sem], by simp [go_sem], by omega, by omega, hn, hb.below hW (Nat.le_refl _)⟩, fun i => by simp [go_sem]⟩, hW, by simp⟩

set_option maxRecDepth 100000 in
theorem open_c (A : Option Addr) (n c : Nat) (zs : List Int) (w : World) (hn : n ≤ 1048576) (hc : n ≤ c) (hA : n = 0 ∨ A.isSome = true) (hb : BytesAt w w.heap.size A n zs) :
    Calls Try.prog 80 #[.slice A n c] w fun e w' => e = .returned (.pointer (some ⟨w.heap.size, 0, none⟩)) ∧ RdO w' w.heap.size 0 ∧ Below w.heap.size w w' ∧ w'.heap.size = w.heap.size + 1 := by
  by_cases h : n ≤ 2000
  · have h' : ¬ ((2000 : Int) < (n : Int)) := by omega
    go_enter Try.func80, Try.ntmps80
    go_wp2_with fail
    go_ret
    exact ⟨rfl, rd_new _ h hb⟩
  · have h' : (2000 : Int) < (n : Int) := by omega
    have h2 : (2000 : Int) ≤ (c : Int) := by omega
    obtain ⟨x, rfl⟩ : ∃ x, A = some x := by
      rcases hA with rfl | hA
      · omega
      · exact Option.isSome_iff_exists.1 hA
    go_enter Try.func80, Try.ntmps80
    go_wp2_with fail
    go_ret
    exact ⟨rfl, rd_new _ (by omega) (hb.less (by omega))⟩

set_option maxRecDepth 100000 in
theorem odd_c (g : Nat) (K m : Int) (w : World) (hK : 0 ≤ K ∧ K ≤ 1000000000) (hm : 0 ≤ m ∧ m ≤ 1000000000) (hR : RdO w g K) :
    Calls Try.prog 151 #[.pointer (some ⟨g, 0, none⟩), .int .i64 m] w fun e w' =>
      ∃ b : Bool, e = .returned (.bool b) ∧ RdO w' g (K + 1) ∧ w.grownBy w' (some g) ∧ w'.heap.size = w.heap.size := by
  by_cases h : 0 < m
  · go_enter Try.func151, Try.ntmps151
    go_wp2_with (go_at_call 89; go_fit (pick_c g K m _ hK (by omega) hR); rintro e w1 ⟨v, rfl, h1, h2, h3, h4, h5, h6⟩)
    go_ret
    exact ⟨_, rfl, h4, h5, h6⟩
  · go_enter Try.func151, Try.ntmps151
    go_wp2_with fail
    go_ret
    exact ⟨.inl rfl, hR.more (by omega), World.grownBy.refl w _, rfl⟩
end Go.Proofs.Ytjlaljnffmncpaa
