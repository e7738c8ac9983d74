/-
  Appends and boxes: small rules.
-/
import Derived.Test.YtdijfkpccbkdfaaBase
namespace Go.Proofs.Ytdijfkpccbkdfaa
set_option linter.unusedVariables false
set_option linter.unusedSimpArgs false
open Go.RowKit Pp

theorem own_empty {w : World} {base g : Nat} {e : TypeId} {size : Nat} (h : w.heap[g]? = some (.cells #[] e (0, 0))) (hb : base ≤ g) : w.ownsRow base e size (.slice (some ⟨g, 0, none⟩) 0 0) 0 [] :=
  ⟨by simp, .inr ⟨g, 0, #[], rfl, hb, h, Nat.le_refl _, by unfold maxLen; omega, by simp, by simp⟩⟩
theorem at_new {w : World} {o : Obj} {k : Nat} (h : w.heap.size = k) : (w.alloc o).heap[k]? = some o := by subst h; unfold World.alloc; simp
theorem at_old {w : World} {o o' : Obj} {b : Nat} (h : w.heap[b]? = some o) : (w.alloc o').heap[b]? = some o := by
  have hb : b < w.heap.size := by
    rcases Nat.lt_or_ge b w.heap.size with h' | h'
    · exact h'
    · rw [Array.getElem?_eq_none h'] at h; cases h
  unfold World.alloc
  show (w.heap.push o')[b]? = _
  rw [Array.getElem?_push_lt hb, ← Array.getElem?_eq_getElem hb]; exact h
theorem set_other {w : World} {a b : Addr} {v : Value} (h : a.block ≠ b.block) : (w.setCell a v).cell? b = w.cell? b := World.cell?_setCell_other (h := fun e => h (congrArg Addr.block e)) ..
theorem app_rules {W w2 : World} {K : Nat} (hg : W.grownBy w2 (some K)) : (∀ b o, b < W.heap.size → b ≠ K → w2.cell? ⟨b, o, none⟩ = W.cell? ⟨b, o, none⟩) ∧ (∀ b o, b < W.heap.size → b ≠ K → w2.frozen? ⟨b, o, none⟩ = W.frozen? ⟨b, o, none⟩) ∧ (∀ b, b < W.heap.size → b ≠ K → w2.heap[b]? = W.heap[b]?) ∧ (∀ (B : Nat) (w0 : World), Below B w0 W → B ≤ W.heap.size → B ≤ K → Below B w0 w2) :=
  ⟨fun b o h hne => hg.cell_far ⟨b, o, none⟩ h (by simpa using hne), fun b o h hne => hg.frozen_far ⟨b, o, none⟩ h (by simpa using hne), fun b h hne => hg.block b h (by simpa using hne), fun B w0 h hB hK => h.grown hg hB (fun k hk => by injection hk with hk; omega)⟩
/-- Behind a second append onto what a first one made: S, K: how many blocks there were ahead of the first one, and the block that it may have written. -/
theorem app_rules2 {w2 W w3 : World} {base : Nat} {e : TypeId} {size n : Nat} {v : Value} {xs : List Value} {K S : Nat} (hat : v.ownBlock = some K ∨ v.ownBlock = some S) (hown : w2.ownsRow base e size v n xs) (hg : W.grownBy w3 v.ownBlock) (hs : w2.heap.size ≤ W.heap.size) (hS : S ≤ w2.heap.size) :
    (∀ b o, b < S → b ≠ K → w3.cell? ⟨b, o, none⟩ = W.cell? ⟨b, o, none⟩) ∧ (∀ b o, b < S → b ≠ K → w3.frozen? ⟨b, o, none⟩ = W.frozen? ⟨b, o, none⟩) ∧
    (∀ b o, w2.heap.size ≤ b → b < W.heap.size → w3.cell? ⟨b, o, none⟩ = W.cell? ⟨b, o, none⟩) ∧ (∀ b o, w2.heap.size ≤ b → b < W.heap.size → w3.frozen? ⟨b, o, none⟩ = W.frozen? ⟨b, o, none⟩) ∧
    (∀ b, b < S → b ≠ K → v.ownBlock ≠ some b) ∧ (∀ b, w2.heap.size ≤ b → v.ownBlock ≠ some b) := by
  have k1 : ∀ b, b < S → b ≠ K → v.ownBlock ≠ some b := fun b h1 h2 h => by
    rcases hat with hat | hat <;> rw [hat] at h <;> injection h with h <;> omega
  have k2 : ∀ b, w2.heap.size ≤ b → v.ownBlock ≠ some b := fun b h1 h => by have := hown.lt b h; omega
  exact ⟨fun b o h1 h2 => hg.cell_far ⟨b, o, none⟩ (by show b < _; omega) (fun e => k1 b h1 h2 e.symm), fun b o h1 h2 => hg.frozen_far ⟨b, o, none⟩ (by show b < _; omega) (fun e => k1 b h1 h2 e.symm),
    fun b o h1 h2 => hg.cell_far ⟨b, o, none⟩ h2 (fun e => k2 b h1 e.symm), fun b o h1 h2 => hg.frozen_far ⟨b, o, none⟩ h2 (fun e => k2 b h1 e.symm), k1, k2⟩
theorem blk_bd (w : World) (t : TypeId) (b : Bd) {W : World} (g B : Nat) (hg : g = w.heap.size) (h : Below (w.alloc (.cells #[.int .i64 b.f, .int .i64 b.t, .int .i64 b.m] t)).heap.size (w.alloc (.cells #[.int .i64 b.f, .int .i64 b.t, .int .i64 b.m] t)) W) (hB : g < B) :
    BdsR W B g 0 (some ⟨g, 0, none⟩) [b] := by
  subst hg
  have k : ∀ i, W.cell? ⟨w.heap.size, i, none⟩ = #[Value.int .i64 b.f, .int .i64 b.t, .int .i64 b.m][i]? := fun i => by
    rw [h.cell (by simp)]; simp [go_sem]
  refine ⟨fun _ => rfl, fun _ => hB, ?_, ?_, ?_⟩ <;>
  · intro j x hx
    cases j with
    | zero => simp at hx; subst hx; rw [k]; rfl
    | succ j => simp at hx
theorem blk_bd2 (w : World) (t : TypeId) (b c : Bd) {W : World} (g B : Nat) (hg : g = w.heap.size)
    (h : Below (w.alloc (.cells #[.int .i64 b.f, .int .i64 b.t, .int .i64 b.m, .int .i64 c.f, .int .i64 c.t, .int .i64 c.m] t)).heap.size (w.alloc (.cells #[.int .i64 b.f, .int .i64 b.t, .int .i64 b.m, .int .i64 c.f, .int .i64 c.t, .int .i64 c.m] t)) W) (hB : g < B) :
    BdsR W B g 0 (some ⟨g, 0, none⟩) [b, c] := by
  subst hg
  have k : ∀ i, W.cell? ⟨w.heap.size, i, none⟩ = #[Value.int .i64 b.f, .int .i64 b.t, .int .i64 b.m, .int .i64 c.f, .int .i64 c.t, .int .i64 c.m][i]? := fun i => by
    rw [h.cell (by simp)]; simp [go_sem]
  refine ⟨fun _ => rfl, fun _ => hB, ?_, ?_, ?_⟩ <;>
  · intro j x hx
    match j with
    | 0 => simp at hx; subst hx; rw [k]; rfl
    | 1 => simp at hx; subst hx; rw [k]; rfl
    | j + 2 => simp at hx
end Go.Proofs.Ytdijfkpccbkdfaa
