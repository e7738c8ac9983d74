/-
  A range over a function whose rounds are handed slices of numbers that lie in memory: what the slice reads is handed to the round.
-/
import Derived.RangeFuncNested
import Derived.RangeFuncBound
import Derived.RangeFuncCalls
import Derived.RangeFuncLeaves
import Derived.Shelf.Abstract
import Derived.Shelf.RegionOpen
import Derived.WalkKit
import Derived.OwnWalkIn
import Derived.TacticsInMore
import Derived.LoopNIn
import Derived.LoopIn
import Derived.Test.YtledgblepdjjlaaBase
namespace Go.Proofs.Ytledgblepdjjlaa
set_option linter.unusedVariables false
set_option linter.unusedSimpArgs false
open Go Go.RowKit Go.Shelf Pp

/-- What a round keeps: all cells but those of block X. -/
structure KX (X : Nat) (W W' : World) : Prop where
  size : W.heap.size ≤ W'.heap.size
  blk : ∀ (k : Nat) (o : Obj), k ≠ X → W.heap[k]? = some o → o.isCells = true → W'.heap[k]? = some o
theorem KX.trans {X : Nat} {A B C : World} (h : KX X A B) (h2 : KX X B C) : KX X A C := ⟨Nat.le_trans h.size h2.size, fun k o hk ho hc => h2.blk k o hk (h.blk k o hk ho hc) hc⟩
theorem KX.below {X : Nat} {W W' : World} (hb : Below W.heap.size W W') : KX X W W' := ⟨hb.size, fun k o _ ho _ => by rw [hb.block k (Array.getElem?_eq_some_iff.1 ho).1]; exact ho⟩
theorem KX.putObj {X l : Nat} {W : World} {o : Obj} (o' : Obj) (h : W.heap[l]? = some o) (hc : o.isCells = false) : KX X W (W.putObj l o') :=
  ⟨by simp, fun k u _ hu hcu => by
    by_cases e : k = l
    · subst e; rw [h] at hu; cases hu; rw [hc] at hcu; cases hcu
    · rw [World.putObj_heap_other e]; exact hu⟩
theorem KX.cell {X : Nat} {W W' : World} (h : KX X W W') {a : Addr} {v : Value} (hc : W.cell? a = some v) (ha : a.block ≠ X) : W'.cell? a = some v := by
  obtain ⟨o, ho, hoc⟩ := cells_of_cell hc
  have h2 := h.blk _ o ha ho hoc
  rw [← hc]
  unfold World.cell?
  rw [ho, h2]
theorem IntsR.kx {X : Nat} {W W' : World} {b o : Nat} {A : Option Addr} {xs : List Int} (h : IntsR W W.heap.size b o A xs) (hk : KX X W W') (hb : 0 < xs.length → b ≠ X) : IntsR W' W'.heap.size b o A xs :=
  ⟨h.addr, fun hx => Nat.lt_of_lt_of_le (h.lt hx) hk.size, fun j hj => hk.cell (h.cell j hj) (hb (by omega))⟩

/-- A round that may be run on each slice that reads. -/
def YieldR (n l X : Nat) (Inv Stop : List (List Int) → World → Prop) : Prop :=
  ∀ (pre : List (List Int)) (ls : List Int) (A : Option Addr) (b o c : Nat) (W : World), Inv pre W → IntsR W W.heap.size b o A ls → (0 < ls.length → b ≠ X) → ls.length ≤ 2 →
    YieldAt Fence.wide n Try.prog l #[.slice A ls.length c] W fun e W' => (e = .returned (.bool true) ∧ Inv (pre ++ [ls]) W' ∧ KX X W W') ∨ (e = .returned (.bool false) ∧ Stop (pre ++ [ls]) W' ∧ KX X W W')

theorem roundIn_any {m m' l : Nat} {f : FuncId} {tmps : Array Value} {assign body : Code} {w : World} {R : Ending → World → Prop} (h : RoundIn Fence.wide m Try.prog l f tmps assign body w R) : RoundIn Fence.wide m' Try.prog l f tmps assign body w R :=
  ⟨h.1, fun c cs _ => h.2 c cs (fun d h => by cases h)⟩
theorem yieldAt_any {m : Nat} (m' : Nat) {l : Nat} {args : Array Value} {W : World} {R : Ending → World → Prop} (h : YieldAt Fence.wide m Try.prog l args W R) : YieldAt Fence.wide m' Try.prog l args W R := by
  obtain ⟨fn, tmps, assign, body, hy, hR⟩ := h
  exact ⟨fn, tmps, assign, body, hy, roundIn_any hR⟩

/-- How a round's body may be left. -/
def postR (w : World) (X : Nat) (I : List (List Int) → World → Prop) (Ix : Code → List (List Int) → World → Prop) (xs : List (List Int)) (W : World) : Exit → Act → World → Prop
  | .normal, _, W' => (∀ k, (k = w.heap.size ∨ k = w.heap.size + 1) → W'.heap[k]? = W.heap[k]?) ∧ KX X W W' ∧ I xs W'
  | .ret, _, W' => (∀ k, (k = w.heap.size ∨ k = w.heap.size + 1) → W'.heap[k]? = W.heap[k]?) ∧ KX X W W' ∧ Ix .ret xs W'
  | .exit id, _, W' => (∀ k, (k = w.heap.size ∨ k = w.heap.size + 1) → W'.heap[k]? = W.heap[k]?) ∧ KX X W W' ∧ Ix (.exit id) xs W'
  | _, _, _ => False

theorem below_putObj {B l : Nat} {W : World} (o : Obj) (h : B ≤ l) : Below B W (W.putObj l o) := ⟨rfl, rfl, rfl, by simp, fun k hk => World.putObj_heap_other (by omega)⟩

theorem wp_rangeR {n : Nat} {g : Operand} {pt : Tmp} {assign body : Code} {Q : Exit → Act → World → Prop} {a : Act} {w : World} (h1 : 1 ≤ n) {gf : Nat} {d : Value} (hg : a.eval g = .func (.func gf) #[d] #[])
    (eg : ∀ args w, (callFunc gf args).run Try.prog w = .ok (.enter gf args) w) (X : Nat) (S Sp : List (List Int) → Prop)
    (hit : ∀ (l : Nat) (Inv Stop : List (List Int) → World → Prop) (W : World), YieldR (n - 1 - 1) l X Inv Stop → (∀ pre A B, Inv pre A → Below W.heap.size A B → Inv pre B) → Inv [] W → Below w.heap.size w W →
      CallsIn Fence.wide (n - 1) Try.prog gf #[d, .func (.yield l) #[] #[]] W fun e W' => (∃ v, e = .returned v) ∧ ((∃ xs, S xs ∧ Inv xs W') ∨ (∃ pre, Sp pre ∧ Stop pre W')))
    (I : List (List Int) → World → Prop) (Ix : Code → List (List Int) → World → Prop) (hI : ∀ pre A B, I pre A → Below w.heap.size A B → I pre B) (hIx : ∀ c pre A B, Ix c pre A → Below w.heap.size A B → Ix c pre B) (h0 : I [] w)
    (a₁ : List Int → Option Addr → Nat → Act)
    (hassign : ∀ (l : Nat) (ls : List Int) (A : Option Addr) (c : Nat) (W : World) (K : Act → World → Prop), K (a₁ ls A c) W →
      assign.wpIn (Fence.wide.inRound l) (n - 1 - 1) Try.prog (Exit.then K (fun _ _ _ => False)) { tmps := a.tmps.setIfInBounds pt (.slice A ls.length c), defers := [] } W)
    (hbody : ∀ (l : Nat) (pre : List (List Int)) (ls : List Int) (A : Option Addr) (b o c : Nat) (W : World), I pre W → IntsR W W.heap.size b o A ls → (0 < ls.length → b ≠ X) → ls.length ≤ 2 → w.heap.size + 2 ≤ W.heap.size →
      body.wpIn (Fence.wide.inRound l) (n - 1 - 1) Try.prog (postR w X I Ix (pre ++ [ls]) W) (a₁ ls A c) W)
    (hdone : ∀ (xs : List (List Int)) (W : World), S xs → I xs W → W.heap[w.heap.size]? = some (.deferred (some [])) → Q .normal { a with defers := { target := .collected w.heap.size, args := #[] } :: a.defers } W)
    (hstop : ∀ (c : Code) (pre : List (List Int)) (W : World), Sp pre → Ix c pre W → W.heap[w.heap.size]? = some (.deferred (some [])) → c.wpIn Fence.wide n Try.prog Q { a with defers := { target := .collected w.heap.size, args := #[] } :: a.defers } W) :
    (Code.rangeFunc g #[pt] assign body).wpIn Fence.wide n Try.prog Q a w := by
  refine wpIn_rangeFunc ?_
  intro fn hfn
  obtain ⟨rec, hrec⟩ : ∃ rec : LoopState → Option Code → Loop, rec = fun st pe => { state := st, pending := pe, fn, tmps := a.tmps, params := #[pt], assign, body, defers := w.heap.size } := ⟨_, rfl⟩
  obtain ⟨W1, hW1⟩ : ∃ W1, (w.alloc (.deferred (some []))).alloc (.loop (rec .ready none)) = W1 := ⟨_, rfl⟩
  have hsz : W1.heap.size = w.heap.size + 2 := by rw [← hW1]; simp
  have hL1 : W1.heap[w.heap.size + 1]? = some (.loop (rec .ready none)) := by
    rw [← hW1]; have := World.alloc_heap_new (w.alloc (.deferred (some []))) (.loop (rec .ready none)); rwa [World.size_alloc] at this
  have hK1 : W1.heap[w.heap.size]? = some (.deferred (some [])) := by
    rw [← hW1]; exact (Below.heap_alloc _ _ _ (by simp)).trans (World.alloc_heap_new w _)
  have hb1 : Below w.heap.size w W1 := by rw [← hW1]; go_grown
  refine ⟨w.heap.size + 1, [{ target := .collected w.heap.size, args := #[] }], W1, { target := .fn (.func gf) #[], args := #[d, .func (.yield (w.heap.size + 1)) #[] #[]] }, W1, gf, #[d, .func (.yield (w.heap.size + 1)) #[] #[]], W1, ?_, ?_, ?_, ?_, fun _ => h1, ?_⟩
  · rw [← hW1, hrec]; exact run_enterLoop_outer _ _ _ _ _
  · simp only [resolve, hg]
    simp [go_sem]
  · intro f' hf'; exact trivial
  · simp [invoke, go_sem, eg]
  · refine (hit (w.heap.size + 1)
      (fun pre W => I pre W ∧ W.heap[w.heap.size + 1]? = some (.loop (rec .ready none)) ∧ W.heap[w.heap.size]? = some (.deferred (some [])))
      (fun pre W => ∃ c, Ix c pre W ∧ W.heap[w.heap.size + 1]? = some (.loop (rec .done (some c))) ∧ W.heap[w.heap.size]? = some (.deferred (some [])))
      W1 ?_ ?_ ⟨hI _ _ _ h0 hb1, hL1, hK1⟩ hb1).mono ?_
    · rintro pre ls A b o c W ⟨hi, hl, hk⟩ hr hbX hlen
      have hlt : w.heap.size + 1 < W.heap.size := (Array.getElem?_eq_some_iff.1 hl).1
      have hy := run_yield (P := Try.prog) (args := #[.slice A ls.length c]) hl (by rw [hrec]; rfl)
      rw [hrec] at hy
      have hy' : (Instr.yield (w.heap.size + 1) #[.slice A ls.length c]).run Try.prog W = .ok (.round (w.heap.size + 1) fn (a.tmps.setIfInBounds pt (.slice A ls.length c)) assign body) W := by simpa using hy
      refine ⟨fn, _, assign, body, hy', roundIn_of_wpIn hfn (hassign _ ls A c W _ ?_)⟩
      refine ⟨_, run_beginRound hl (by rw [hrec]), ?_⟩
      have hB2 : Below w.heap.size W (W.putObj (w.heap.size + 1) (.loop { rec .ready none with state := .busy })) := below_putObj _ (by omega)
      have hX2 : KX X W (W.putObj (w.heap.size + 1) (.loop { rec .ready none with state := .busy })) := KX.putObj _ hl rfl
      have hl2 : (W.putObj (w.heap.size + 1) (.loop { rec .ready none with state := .busy })).heap[w.heap.size + 1]? = some (.loop { rec .ready none with state := .busy }) := World.putObj_heap_same hlt
      have hk2 : (W.putObj (w.heap.size + 1) (.loop { rec .ready none with state := .busy })).heap[w.heap.size]? = some (.deferred (some [])) := (World.putObj_heap_other (by omega)).trans hk
      have fin : ∀ (jump : Option Code) (W3 : World), (∀ k, (k = w.heap.size ∨ k = w.heap.size + 1) → W3.heap[k]? = (W.putObj (w.heap.size + 1) (.loop { rec .ready none with state := .busy })).heap[k]?) →
          (Instr.endRound (w.heap.size + 1) jump).run Try.prog W3 = .ok (.bool jump.isNone) (W3.putObj (w.heap.size + 1) (.loop (rec (if jump.isNone then .ready else .done) jump))) ∧
          W3.heap[w.heap.size + 1]? = some (.loop { rec .ready none with state := .busy }) ∧
          (W3.putObj (w.heap.size + 1) (.loop (rec (if jump.isNone then .ready else .done) jump))).heap[w.heap.size + 1]? = some (.loop (rec (if jump.isNone then .ready else .done) jump)) ∧
          (W3.putObj (w.heap.size + 1) (.loop (rec (if jump.isNone then .ready else .done) jump))).heap[w.heap.size]? = some (.deferred (some [])) := fun jump W3 hk3 => by
        have hl3 := (hk3 _ (.inr rfl)).trans hl2
        have := run_endRound (P := Try.prog) jump hl3
        rw [hrec] at this ⊢
        exact ⟨this, by rw [hrec] at hl3; exact hl3, World.putObj_heap_same (Array.getElem?_eq_some_iff.1 hl3).1, (World.putObj_heap_other (by omega)).trans ((hk3 _ (.inl rfl)).trans hk2)⟩
      refine wpIn_mono (hbody _ pre ls A b o c _ (hI _ _ _ hi hB2) (hr.kx hX2 hbX) hbX hlen (by simp; omega)) ?_
      rintro e a3 W3 hp
      cases e with
      | normal =>
        obtain ⟨hk3, hx3, hi3⟩ := hp
        obtain ⟨hr3, hl3, hl4, hk4⟩ := fin none W3 hk3
        exact ⟨_, _, hr3, .inl ⟨rfl, ⟨hI _ _ _ hi3 (below_putObj _ (by omega)), hl4, hk4⟩, (hX2.trans hx3).trans (KX.putObj _ hl3 rfl)⟩⟩
      | ret =>
        obtain ⟨hk3, hx3, hi3⟩ := hp
        obtain ⟨hr3, hl3, hl4, hk4⟩ := fin (some .ret) W3 hk3
        exact ⟨_, _, hr3, .inr ⟨rfl, ⟨.ret, hIx _ _ _ _ hi3 (below_putObj _ (by omega)), hl4, hk4⟩, (hX2.trans hx3).trans (KX.putObj _ hl3 rfl)⟩⟩
      | exit id =>
        obtain ⟨hk3, hx3, hi3⟩ := hp
        obtain ⟨hr3, hl3, hl4, hk4⟩ := fin (some (.exit id)) W3 hk3
        exact ⟨_, _, hr3, .inr ⟨rfl, ⟨.exit id, hIx _ _ _ _ hi3 (below_putObj _ (by omega)), hl4, hk4⟩, (hX2.trans hx3).trans (KX.putObj _ hl3 rfl)⟩⟩
      | goto t => exact hp.elim
      | panic ch => exact hp.elim
      | outgrown => exact hp.elim
    · rintro pre A B ⟨hi, hl, hk⟩ hb
      rw [hsz] at hb
      exact ⟨hI _ _ _ hi (hb.mono (by omega)), (hb.block _ (by omega)).trans hl, (hb.block _ (by omega)).trans hk⟩
    · rintro e W2 ⟨⟨v, rfl⟩, (⟨xs, hS, hi, hl, hk⟩ | ⟨pre, hSp, c, hi, hl, hk⟩)⟩
      · exact ⟨none, _, by have := run_endLoop (P := Try.prog) hl (by rw [hrec]; simp); rw [hrec] at this; exact this, hdone xs _ hS (hI _ _ _ hi (below_putObj _ (by omega))) ((World.putObj_heap_other (by omega)).trans hk)⟩
      · exact ⟨some c, _, by have := run_endLoop (P := Try.prog) hl (by rw [hrec]; simp); rw [hrec] at this; exact this, hstop c pre _ hSp (hIx _ _ _ _ hi (below_putObj _ (by omega))) ((World.putObj_heap_other (by omega)).trans hk)⟩
end Go.Proofs.Ytledgblepdjjlaa
