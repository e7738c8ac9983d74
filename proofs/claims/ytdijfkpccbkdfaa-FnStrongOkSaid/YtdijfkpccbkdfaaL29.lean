/-
  (impl.Deal).comings, impl.CountFit.
-/
import Derived.Test.YtdijfkpccbkdfaaL28
import Derived.Test.YtdijfkpccbkdfaaL25
import Derived.Test.YtdijfkpccbkdfaaL2c
import Derived.Laws.EntriesVeiled
namespace Go.Proofs.Ytdijfkpccbkdfaa
set_option linter.unusedVariables false
set_option linter.unusedSimpArgs false
open Go Go.RowKit Go.Shelf Pp

set_option maxHeartbeats 2000000 in
set_option maxRecDepth 100000 in
theorem comings_c (n : Int) (ps : List Pr) (h2 : ps.length ≤ 2) (hok : ∀ (i : Nat) (x : Pr), ps[i]? = some x → 0 ≤ x.l ∧ x.l ≤ x.h ∧ x.h ≤ 12) (l X m k c b2 o2 c2 : Nat) (A A2 : Option Addr) (W : World) (Inv Stop : List (List Int) → World → Prop) (hY : YieldR m l X Inv Stop) (hst : ∀ pre A B, Inv pre A → Below W.heap.size A B → Inv pre B)
    (hI : Inv [] W) (hP : CsR W W.heap.size b2 o2 A2 ps.length (prCs ps)) (hX : X < W.heap.size) (hX2 : 0 < ps.length → b2 ≠ X) :
    Calls Try.prog 84 #[.agg #[.int .i64 n, .slice A k c, .slice A2 ps.length c2], .func (.yield l) #[] #[]] W fun e W' => (∃ v, e = .returned v) ∧ ((∃ xs, xs = comeF ps ps.length [] ∧ Inv xs W') ∨ (∃ pre, pre <+: comeF ps ps.length [] ∧ Stop pre W')) := by
  obtain ⟨W3, hW3⟩ : ∃ W3, ((W.alloc (.cells #[.int .i64 n, .slice A k c, .slice A2 ps.length c2] 28)).alloc (.cells #[.func (.yield l) #[] #[]] 69)).alloc (.cells #[.func (.func 104) #[] #[.pointer (some ⟨W.heap.size, 0, none⟩), .pointer (some ⟨W.heap.size + 1, 0, none⟩), .pointer (some ⟨W.heap.size + 1 + 1, 0, none⟩)]] 69) = W3 := ⟨_, rfl⟩
  have hb : Below W.heap.size W W3 := by rw [← hW3]; go_grown
  have hIB : IB W3 W.heap.size (W.heap.size + 1) (W.heap.size + 1 + 1) l b2 o2 A2 c2 ps := by
    refine ⟨?_, ?_, ?_, (hP.below hb).more hb.size⟩ <;> rw [← hW3] <;> simp [go_sem]
  have hI3 := hst _ _ _ hI hb
  have hsz := hb.size
  go_enter Try.func84, Try.ntmps84
  have v0 := hIB.v0
  go_wp2_with fail
  go_at_call 104
  refine (walk_c ps h2 hok l X W.heap.size m Inv Stop hY hst _ _ _ b2 o2 A2 c2 ⟨by omega, by omega, by omega⟩ hX2 hX ps.length [] [] none 0 0 0 W3 (by simp) hIB hI3 ⟨fun h => absurd h (by simp), fun h => absurd h (by simp), fun j hj => absurd hj (by simp)⟩ (fun h => absurd h (by simp)) hsz).mono ?_
  rintro e W4 (⟨rfl, hi, hk⟩ | ⟨rfl, ⟨pre, hs, hp⟩, hk⟩)
  · go_wp2_with fail
    go_end0
    exact ⟨⟨_, rfl⟩, .inl ⟨_, rfl, by simpa using hi⟩⟩
  · go_wp2_with fail
    go_end0
    exact ⟨⟨_, rfl⟩, .inr ⟨pre, by simpa using hp, hs⟩⟩
end Go.Proofs.Ytdijfkpccbkdfaa
