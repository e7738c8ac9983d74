/-
  A range over a function whose rounds are handed a slice of numbers and a plan that lie in memory; a round may turn blocks of its own (Z).
-/
import Derived.RangeFuncNested
import Derived.RangeFuncBound
import Derived.RangeFuncCalls
import Derived.RangeFuncLeaves
import Derived.Shelf.Abstract
import Derived.Shelf.RegionOpen
import Derived.WalkKit
import Derived.OwnWalkIn
import Derived.TacticsInMore
import Derived.LoopNIn
import Derived.LoopIn
import Derived.Test.YtledgblepdjjlaaZ2
import Derived.Test.YtledgblepdjjlaaP24
namespace Go.Proofs.Ytledgblepdjjlaa
set_option linter.unusedVariables false
set_option linter.unusedSimpArgs false
open Go Go.RowKit Go.Shelf Pp

/-- What a round keeps: all cells but those of its own blocks. -/
structure KZ (Z : World → Nat → Prop) (W W' : World) : Prop where
  size : W.heap.size ≤ W'.heap.size
  blk : ∀ (k : Nat) (o : Obj), ¬ Z W k → W.heap[k]? = some o → o.isCells = true → W'.heap[k]? = some o
  own : ∀ k, Z W' k → Z W k ∨ W.heap.size ≤ k
/-- Which blocks are a round's own hangs on old cells alone. -/
def ZLow (B0 : Nat) (Z : World → Nat → Prop) : Prop := ∀ (A C : World), B0 ≤ A.heap.size → (∀ k, k < B0 → C.heap[k]? = A.heap[k]?) → ∀ k, Z C k → Z A k
theorem ZLow.more {B0 B1 : Nat} {Z : World → Nat → Prop} (h : ZLow B0 Z) (hB : B0 ≤ B1) : ZLow B1 Z := fun A C hA hc => h A C (Nat.le_trans hB hA) (fun k hk => hc k (Nat.lt_of_lt_of_le hk hB))
theorem KZ.refl (Z : World → Nat → Prop) (W : World) : KZ Z W W := ⟨Nat.le_refl _, fun _ _ _ h _ => h, fun _ h => .inl h⟩
theorem KZ.trans {Z : World → Nat → Prop} {A B C : World} (h : KZ Z A B) (h2 : KZ Z B C) : KZ Z A C :=
  ⟨Nat.le_trans h.size h2.size, fun k o hk ho hc => h2.blk k o (fun hz => by
    rcases h.own k hz with h1 | h1
    · exact hk h1
    · have := (Array.getElem?_eq_some_iff.1 ho).1; omega) (h.blk k o hk ho hc) hc, fun k hz => by
    rcases h2.own k hz with h1 | h1
    · exact h.own k h1
    · exact .inr (Nat.le_trans h.size h1)⟩
theorem KZ.below {B0 : Nat} {Z : World → Nat → Prop} (hZ : ZLow B0 Z) {W W' : World} (hB : B0 ≤ W.heap.size) (hb : Below W.heap.size W W') : KZ Z W W' :=
  ⟨hb.size, fun k o _ ho _ => by rw [hb.block k (Array.getElem?_eq_some_iff.1 ho).1]; exact ho, fun k hz => .inl (hZ W W' hB (fun k hk => hb.block k (Nat.lt_of_lt_of_le hk hB)) k hz)⟩
theorem KZ.putObj {B0 : Nat} {Z : World → Nat → Prop} (hZ : ZLow B0 Z) {l : Nat} {W : World} {o : Obj} (o' : Obj) (hl : B0 ≤ l) (h : W.heap[l]? = some o) (hc : o.isCells = false) : KZ Z W (W.putObj l o') :=
  ⟨by simp, fun k u _ hu hcu => by
    by_cases e : k = l
    · subst e; rw [h] at hu; cases hu; rw [hc] at hcu; cases hcu
    · rw [World.putObj_heap_other e]; exact hu,
   fun k hz => .inl (hZ W _ (Nat.le_of_lt (Nat.lt_of_le_of_lt hl (Array.getElem?_eq_some_iff.1 h).1)) (fun k hk => World.putObj_heap_other (by omega)) k hz)⟩
theorem KZ.cell {Z : World → Nat → Prop} {W W' : World} (h : KZ Z W W') {a : Addr} {v : Value} (hc : W.cell? a = some v) (ha : ¬ Z W a.block) : W'.cell? a = some v := by
  obtain ⟨o, ho, hoc⟩ := cells_of_cell hc
  have h2 := h.blk _ o ha ho hoc
  rw [← hc]
  unfold World.cell?
  rw [ho, h2]
theorem KZ.no {Z : World → Nat → Prop} {W W' : World} (h : KZ Z W W') {k : Nat} (hk : k < W.heap.size) (hn : ¬ Z W k) : ¬ Z W' k := fun hz => by
  rcases h.own k hz with h1 | h1
  · exact hn h1
  · omega
theorem IntsR.kz {Z : World → Nat → Prop} {W W' : World} {b o : Nat} {A : Option Addr} {xs : List Int} (h : IntsR W W.heap.size b o A xs) (hk : KZ Z W W') (hb : 0 < xs.length → ¬ Z W b) : IntsR W' W'.heap.size b o A xs ∧ (0 < xs.length → ¬ Z W' b) :=
  ⟨⟨h.addr, fun hx => Nat.lt_of_lt_of_le (h.lt hx) hk.size, fun j hj => hk.cell (h.cell j hj) (hb (by omega))⟩, fun hx => hk.no (h.lt hx) (hb hx)⟩
theorem BdsR.kz {Z : World → Nat → Prop} {W W' : World} {b o : Nat} {A : Option Addr} {xs : List Bd} (h : BdsR W W.heap.size b o A xs) (hk : KZ Z W W') (hb : 0 < xs.length → ¬ Z W b) : BdsR W' W'.heap.size b o A xs ∧ (0 < xs.length → ¬ Z W' b) :=
  ⟨⟨h.addr, fun hx => Nat.lt_of_lt_of_le (h.lt hx) hk.size, fun j x hj => hk.cell (h.c0 j x hj) (hb (by have := (List.getElem?_eq_some_iff.1 hj).1; omega)), fun j x hj => hk.cell (h.c1 j x hj) (hb (by have := (List.getElem?_eq_some_iff.1 hj).1; omega)), fun j x hj => hk.cell (h.c2 j x hj) (hb (by have := (List.getElem?_eq_some_iff.1 hj).1; omega))⟩, fun hx => hk.no (h.lt hx) (hb hx)⟩

/-- All cells are kept. -/
def KC (W W' : World) : Prop := W.heap.size ≤ W'.heap.size ∧ ∀ (k : Nat) (o : Obj), W.heap[k]? = some o → o.isCells = true → W'.heap[k]? = some o
theorem KC.putObj {l : Nat} {W : World} {o : Obj} (o' : Obj) (h : W.heap[l]? = some o) (hc : o.isCells = false) : KC W (W.putObj l o') :=
  ⟨by simp, fun k u hu hcu => by
    by_cases e : k = l
    · subst e; rw [h] at hu; cases hu; rw [hc] at hcu; cases hcu
    · rw [World.putObj_heap_other e]; exact hu⟩
theorem KC.below {W W' : World} (hb : Below W.heap.size W W') : KC W W' :=
  ⟨hb.size, fun k o ho _ => (hb.block k (Array.getElem?_eq_some_iff.1 ho).1).trans ho⟩
theorem KC.cell {W W' : World} (h : KC W W') {a : Addr} {v : Value} (hc : W.cell? a = some v) : W'.cell? a = some v := by
  obtain ⟨o, ho, hoc⟩ := cells_of_cell hc
  have h2 := h.2 _ o ho hoc
  rw [← hc]
  unfold World.cell?
  rw [ho, h2]
theorem own_kz {Z : World → Nat → Prop} {W W' : World} {base : Nat} {e : TypeId} {size : Nat} {v : Value} {n : Nat} {xs : List Value} (h : W.ownsRow base e size v n xs) (hk : KZ Z W W') (hn : ∀ q, v.ownBlock = some q → ¬ Z W q) : W'.ownsRow base e size v n xs := by
  refine ⟨h.1, ?_⟩
  rcases h.2 with h2 | ⟨g, cap, cur, hv, hb, hh, r⟩
  · exact .inl h2
  · subst hv
    exact .inr ⟨g, cap, cur, rfl, hb, hk.blk g _ (hn g rfl) hh rfl, r⟩
theorem own_kc {W W' : World} {base : Nat} {e : TypeId} {size : Nat} {v : Value} {n : Nat} {xs : List Value} (h : W.ownsRow base e size v n xs) (hk : KC W W') : W'.ownsRow base e size v n xs := by
  refine ⟨h.1, ?_⟩
  rcases h.2 with h2 | ⟨g, cap, cur, hv, hb, hh, r⟩
  · exact .inl h2
  · subst hv
    exact .inr ⟨g, cap, cur, rfl, hb, hk.2 g _ hh rfl, r⟩
/-- A row of numbers of one's own, in no block of the rounds. -/
structure OZ (Bo : Nat) (Z : World → Nat → Prop) (W : World) (A : Option Addr) (c : Nat) (ls : List Int) : Prop where
  own : OwnI Bo W (.slice A ls.length c) ls
  no : ∀ q, (Value.slice A ls.length c).ownBlock = some q → ¬ Z W q
theorem OZ.kz {Bo : Nat} {Z : World → Nat → Prop} {W W' : World} {A : Option Addr} {c : Nat} {ls : List Int} (h : OZ Bo Z W A c ls) (hk : KZ Z W W') : OZ Bo Z W' A c ls :=
  ⟨own_kz h.own hk h.no, fun q hq => hk.no (h.own.lt q hq).2 (h.no q hq)⟩
/-- A round that may be run on each slice and plan that read. -/
def YieldZ (Bo n l : Nat) (Z : World → Nat → Prop) (F : List Int → Pl) (Ok : List Int → Prop) (Inv Stop : List (List Int) → World → Prop) : Prop :=
  ∀ (pre : List (List Int)) (ls : List Int) (A : Option Addr) (b o c : Nat) (A' : Option Addr) (b' o' c' : Nat) (W : World), Inv pre W → Ok ls → IntsR W W.heap.size b o A ls → (0 < ls.length → ¬ Z W b) → BdsR W W.heap.size b' o' A' (F ls).bs → (0 < (F ls).bs.length → ¬ Z W b') → OZ Bo Z W A c ls →
    YieldAt Fence.wide n Try.prog l #[.slice A ls.length c, .agg #[.int .i64 (F ls).n, .slice A' (F ls).bs.length c']] W fun e W' => (e = .returned (.bool true) ∧ Inv (pre ++ [ls]) W' ∧ KZ Z W W') ∨ (e = .returned (.bool false) ∧ Stop (pre ++ [ls]) W' ∧ KZ Z W W')

/-- How a round's body may be left. -/
def postZ (w : World) (Z : World → Nat → Prop) (I : List (List Int) → World → Prop) (Ix : Code → List (List Int) → World → Prop) (xs : List (List Int)) (W : World) : Exit → Act → World → Prop
  | .normal, _, W' => (∀ k, (k = w.heap.size ∨ k = w.heap.size + 1) → W'.heap[k]? = W.heap[k]?) ∧ KZ Z W W' ∧ I xs W'
  | .ret, _, W' => (∀ k, (k = w.heap.size ∨ k = w.heap.size + 1) → W'.heap[k]? = W.heap[k]?) ∧ KZ Z W W' ∧ Ix .ret xs W'
  | .exit id, _, W' => (∀ k, (k = w.heap.size ∨ k = w.heap.size + 1) → W'.heap[k]? = W.heap[k]?) ∧ KZ Z W W' ∧ Ix (.exit id) xs W'
  | _, _, _ => False

theorem wp_rangeZ {n : Nat} {g : Operand} {pt pt2 : Tmp} {assign body : Code} {Q : Exit → Act → World → Prop} {a : Act} {w : World} (h1 : 1 ≤ n) {gf : Nat} {d : Value} (hg : a.eval g = .func (.func gf) #[d] #[])
    (eg : ∀ args w, (callFunc gf args).run Try.prog w = .ok (.enter gf args) w) (Bo : Nat) (Z : World → Nat → Prop) (F : List Int → Pl) (Ok : List Int → Prop) (hZ : ZLow w.heap.size Z) (S Sp : List (List Int) → Prop)
    (hit : ∀ (l : Nat) (Inv Stop : List (List Int) → World → Prop) (W : World), YieldZ Bo (n - 1 - 1) l Z F Ok Inv Stop → (∀ pre A B, Inv pre A → KC A B → Below W.heap.size A B → Inv pre B) → (∀ pre A, Inv pre A → ∀ k, Z A k → k < A.heap.size) → Inv [] W → Below w.heap.size w W →
      CallsIn Fence.wide (n - 1) Try.prog gf #[d, .func (.yield l) #[] #[]] W fun e W' => (∃ v, e = .returned v) ∧ ((∃ xs, S xs ∧ Inv xs W') ∨ (∃ pre, Sp pre ∧ Stop pre W')))
    (I : List (List Int) → World → Prop) (Ix : Code → List (List Int) → World → Prop) (hI : ∀ pre A B, I pre A → KC A B → Below w.heap.size A B → I pre B) (hIx : ∀ c pre A B, Ix c pre A → KC A B → Below w.heap.size A B → Ix c pre B) (hIZ : ∀ pre A, I pre A → ∀ k, Z A k → k < A.heap.size) (h0 : I [] w)
    (R : List Int → Option Addr → Nat → Option Addr → Nat → Act → World → Prop) (hRk : ∀ ls A c A' c' a1 W W', R ls A c A' c' a1 W → KC W W' → R ls A c A' c' a1 W')
    (hassign : ∀ (l : Nat) (ls : List Int) (A : Option Addr) (c : Nat) (A' : Option Addr) (c' : Nat) (W : World) (K : Act → World → Prop), (∀ a1 W1, Below W.heap.size W W1 → R ls A c A' c' a1 W1 → K a1 W1) →
      assign.wpIn (Fence.wide.inRound l) (n - 1 - 1) Try.prog (Exit.then K (fun _ _ _ => False)) { tmps := (a.tmps.setIfInBounds pt (.slice A ls.length c)).setIfInBounds pt2 (.agg #[.int .i64 (F ls).n, .slice A' (F ls).bs.length c']), defers := [] } W)
    (hbody : ∀ (l : Nat) (pre : List (List Int)) (ls : List Int) (A : Option Addr) (b o c : Nat) (A' : Option Addr) (b' o' c' : Nat) (a1 : Act) (W : World), I pre W → Ok ls → IntsR W W.heap.size b o A ls → (0 < ls.length → ¬ Z W b) → BdsR W W.heap.size b' o' A' (F ls).bs → (0 < (F ls).bs.length → ¬ Z W b') → OZ Bo Z W A c ls → w.heap.size + 2 ≤ W.heap.size → R ls A c A' c' a1 W →
      body.wpIn (Fence.wide.inRound l) (n - 1 - 1) Try.prog (postZ w Z I Ix (pre ++ [ls]) W) a1 W)
    (hdone : ∀ (xs : List (List Int)) (W : World), S xs → I xs W → W.heap[w.heap.size]? = some (.deferred (some [])) → Q .normal { a with defers := { target := .collected w.heap.size, args := #[] } :: a.defers } W)
    (hstop : ∀ (c : Code) (pre : List (List Int)) (W : World), Sp pre → Ix c pre W → W.heap[w.heap.size]? = some (.deferred (some [])) → c.wpIn Fence.wide n Try.prog Q { a with defers := { target := .collected w.heap.size, args := #[] } :: a.defers } W) :
    (Code.rangeFunc g #[pt, pt2] assign body).wpIn Fence.wide n Try.prog Q a w := by
  refine wpIn_rangeFunc ?_
  intro fn hfn
  obtain ⟨rec, hrec⟩ : ∃ rec : LoopState → Option Code → Loop, rec = fun st pe => { state := st, pending := pe, fn, tmps := a.tmps, params := #[pt, pt2], assign, body, defers := w.heap.size } := ⟨_, rfl⟩
  obtain ⟨W1, hW1⟩ : ∃ W1, (w.alloc (.deferred (some []))).alloc (.loop (rec .ready none)) = W1 := ⟨_, rfl⟩
  have hsz : W1.heap.size = w.heap.size + 2 := by rw [← hW1]; simp
  have hL1 : W1.heap[w.heap.size + 1]? = some (.loop (rec .ready none)) := by
    rw [← hW1]; have := World.alloc_heap_new (w.alloc (.deferred (some []))) (.loop (rec .ready none)); rwa [World.size_alloc] at this
  have hK1 : W1.heap[w.heap.size]? = some (.deferred (some [])) := by
    rw [← hW1]; exact (Below.heap_alloc _ _ _ (by simp)).trans (World.alloc_heap_new w _)
  have hb1 : Below w.heap.size w W1 := by rw [← hW1]; go_grown
  refine ⟨w.heap.size + 1, [{ target := .collected w.heap.size, args := #[] }], W1, { target := .fn (.func gf) #[], args := #[d, .func (.yield (w.heap.size + 1)) #[] #[]] }, W1, gf, #[d, .func (.yield (w.heap.size + 1)) #[] #[]], W1, ?_, ?_, ?_, ?_, fun _ => h1, ?_⟩
  · rw [← hW1, hrec]; exact run_enterLoop_outer _ _ _ _ _
  · simp only [resolve, hg]
    simp [go_sem]
  · intro f' hf'; exact trivial
  · simp [invoke, go_sem, eg]
  · refine (hit (w.heap.size + 1)
      (fun pre W => I pre W ∧ W.heap[w.heap.size + 1]? = some (.loop (rec .ready none)) ∧ W.heap[w.heap.size]? = some (.deferred (some [])))
      (fun pre W => ∃ c, Ix c pre W ∧ W.heap[w.heap.size + 1]? = some (.loop (rec .done (some c))) ∧ W.heap[w.heap.size]? = some (.deferred (some [])))
      W1 ?_ ?_ ?_ ⟨hI _ _ _ h0 (KC.below hb1) hb1, hL1, hK1⟩ hb1).mono ?_
    · rintro pre ls A b o c A' b' o' c' W0 ⟨hi0, hl0, hk0⟩ hok hr0 hbX0 hr20 hbX20 hoz0
      have hlt0 : w.heap.size + 1 < W0.heap.size := (Array.getElem?_eq_some_iff.1 hl0).1
      have hy := run_yield (P := Try.prog) (args := #[.slice A ls.length c, .agg #[.int .i64 (F ls).n, .slice A' (F ls).bs.length c']]) hl0 (by rw [hrec]; rfl)
      rw [hrec] at hy
      have hy' : (Instr.yield (w.heap.size + 1) #[.slice A ls.length c, .agg #[.int .i64 (F ls).n, .slice A' (F ls).bs.length c']]).run Try.prog W0 = .ok (.round (w.heap.size + 1) fn ((a.tmps.setIfInBounds pt (.slice A ls.length c)).setIfInBounds pt2 (.agg #[.int .i64 (F ls).n, .slice A' (F ls).bs.length c'])) assign body) W0 := by simpa using hy
      refine ⟨fn, _, assign, body, hy', roundIn_of_wpIn hfn (hassign _ ls A c A' c' W0 _ ?_)⟩
      intro a1 W hbW hR1
      have hl : W.heap[w.heap.size + 1]? = some (.loop (rec .ready none)) := (hbW.block _ hlt0).trans hl0
      have hk : W.heap[w.heap.size]? = some (.deferred (some [])) := (hbW.block _ (by omega)).trans hk0
      have hlt : w.heap.size + 1 < W.heap.size := (Array.getElem?_eq_some_iff.1 hl).1
      have hX0 : KZ Z W0 W := KZ.below hZ (by omega) hbW
      obtain ⟨hr, hbX⟩ := hr0.kz hX0 hbX0
      obtain ⟨hr2, hbX2⟩ := hr20.kz hX0 hbX20
      have hoz := hoz0.kz hX0
      have hi := hI _ _ _ hi0 (KC.below hbW) (hbW.mono (by omega))
      refine ⟨_, run_beginRound hl (by rw [hrec]), ?_⟩
      have hB2 : Below w.heap.size W (W.putObj (w.heap.size + 1) (.loop { rec .ready none with state := .busy })) := below_putObj _ (by omega)
      have hX2 : KZ Z W (W.putObj (w.heap.size + 1) (.loop { rec .ready none with state := .busy })) := KZ.putObj hZ _ (by omega) hl rfl
      have hl2 : (W.putObj (w.heap.size + 1) (.loop { rec .ready none with state := .busy })).heap[w.heap.size + 1]? = some (.loop { rec .ready none with state := .busy }) := World.putObj_heap_same hlt
      have hk2 : (W.putObj (w.heap.size + 1) (.loop { rec .ready none with state := .busy })).heap[w.heap.size]? = some (.deferred (some [])) := (World.putObj_heap_other (by omega)).trans hk
      have fin : ∀ (jump : Option Code) (W3 : World), (∀ k, (k = w.heap.size ∨ k = w.heap.size + 1) → W3.heap[k]? = (W.putObj (w.heap.size + 1) (.loop { rec .ready none with state := .busy })).heap[k]?) →
          (Instr.endRound (w.heap.size + 1) jump).run Try.prog W3 = .ok (.bool jump.isNone) (W3.putObj (w.heap.size + 1) (.loop (rec (if jump.isNone then .ready else .done) jump))) ∧
          W3.heap[w.heap.size + 1]? = some (.loop { rec .ready none with state := .busy }) ∧
          (W3.putObj (w.heap.size + 1) (.loop (rec (if jump.isNone then .ready else .done) jump))).heap[w.heap.size + 1]? = some (.loop (rec (if jump.isNone then .ready else .done) jump)) ∧
          (W3.putObj (w.heap.size + 1) (.loop (rec (if jump.isNone then .ready else .done) jump))).heap[w.heap.size]? = some (.deferred (some [])) := fun jump W3 hk3 => by
        have hl3 := (hk3 _ (.inr rfl)).trans hl2
        have := run_endRound (P := Try.prog) jump hl3
        rw [hrec] at this ⊢
        exact ⟨this, by rw [hrec] at hl3; exact hl3, World.putObj_heap_same (Array.getElem?_eq_some_iff.1 hl3).1, (World.putObj_heap_other (by omega)).trans ((hk3 _ (.inl rfl)).trans hk2)⟩
      have hrx := hr.kz hX2 hbX
      have hrx2 := hr2.kz hX2 hbX2
      refine wpIn_mono (hbody _ pre ls A b o c A' b' o' c' a1 _ (hI _ _ _ hi (KC.putObj _ hl rfl) hB2) hok hrx.1 hrx.2 hrx2.1 hrx2.2 (hoz.kz hX2) (by simp; omega) (hRk _ _ _ _ _ _ _ _ hR1 (KC.putObj _ hl rfl))) ?_
      rintro e a3 W3 hp
      cases e with
      | normal =>
        obtain ⟨hk3, hx3, hi3⟩ := hp
        obtain ⟨hr3, hl3, hl4, hk4⟩ := fin none W3 hk3
        exact ⟨_, _, hr3, .inl ⟨rfl, ⟨hI _ _ _ hi3 (KC.putObj _ hl3 rfl) (below_putObj _ (by omega)), hl4, hk4⟩, ((hX0.trans hX2).trans hx3).trans (KZ.putObj hZ _ (by omega) hl3 rfl)⟩⟩
      | ret =>
        obtain ⟨hk3, hx3, hi3⟩ := hp
        obtain ⟨hr3, hl3, hl4, hk4⟩ := fin (some .ret) W3 hk3
        exact ⟨_, _, hr3, .inr ⟨rfl, ⟨.ret, hIx _ _ _ _ hi3 (KC.putObj _ hl3 rfl) (below_putObj _ (by omega)), hl4, hk4⟩, ((hX0.trans hX2).trans hx3).trans (KZ.putObj hZ _ (by omega) hl3 rfl)⟩⟩
      | exit id =>
        obtain ⟨hk3, hx3, hi3⟩ := hp
        obtain ⟨hr3, hl3, hl4, hk4⟩ := fin (some (.exit id)) W3 hk3
        exact ⟨_, _, hr3, .inr ⟨rfl, ⟨.exit id, hIx _ _ _ _ hi3 (KC.putObj _ hl3 rfl) (below_putObj _ (by omega)), hl4, hk4⟩, ((hX0.trans hX2).trans hx3).trans (KZ.putObj hZ _ (by omega) hl3 rfl)⟩⟩
      | goto t => exact hp.elim
      | panic ch => exact hp.elim
      | outgrown => exact hp.elim
    · rintro pre A B ⟨hi, hl, hk⟩ hkc hb
      rw [hsz] at hb
      exact ⟨hI _ _ _ hi hkc (hb.mono (by omega)), (hb.block _ (by omega)).trans hl, (hb.block _ (by omega)).trans hk⟩
    · rintro pre A ⟨hi, -, -⟩
      exact hIZ _ _ hi
    · rintro e W2 ⟨⟨v, rfl⟩, (⟨xs, hS, hi, hl, hk⟩ | ⟨pre, hSp, c, hi, hl, hk⟩)⟩
      · exact ⟨none, _, by have := run_endLoop (P := Try.prog) hl (by rw [hrec]; simp); rw [hrec] at this; exact this, hdone xs _ hS (hI _ _ _ hi (KC.putObj _ hl rfl) (below_putObj _ (by omega))) ((World.putObj_heap_other (by omega)).trans hk)⟩
      · exact ⟨some c, _, by have := run_endLoop (P := Try.prog) hl (by rw [hrec]; simp); rw [hrec] at this; exact this, hstop c pre _ hSp (hIx _ _ _ _ hi (KC.putObj _ hl rfl) (below_putObj _ (by omega))) ((World.putObj_heap_other (by omega)).trans hk)⟩
end Go.Proofs.Ytledgblepdjjlaa
