/-
 What the walks of this seat share: words for memory, and small laws on worlds.
-/
import Derived.Test.YtmnajkhoacogjaaGreatDoorProg
import Derived.Test.YtmnajkhoacogjaaGreatDoorPure
import Derived.WalkKit
import Derived.ProofKit
import Derived.Deep.QuietTactic
import Derived.BigQuiet
import Derived.Deep.LoopGhost
import Derived.Deep.OwnRows
import Derived.Deep.Cut
import Derived.Deep.Light
import Derived.Deep.CutRange
import Derived.Deep.DeepCutAuto
import Derived.Deep.RegionHeld3
import Derived.Deep.RegionLaw
import Derived.CellFam
import Derived.BigGuard
import Derived.BigRegion
import Derived.Lib.Hide
import Derived.StillTailTactics
import Derived.Deep.AppendLies
import Derived.Handy
import Derived.Deep.DeepFit
import Derived.Maps.AppendAt
import Derived.Lib.AppendZerosOnto
import Derived.WalkSpells
import Derived.KernelRfl
namespace Go.Proofs.YtmnajkhoacogjaaGreatDoor
set_option linter.unusedVariables false
set_option linter.unusedSimpArgs false
open Go.RowKit Pp

theorem hide {p : Prop} (h : p) : Hid p := h

/-- What a call leaves of old cells and old marks. -/
theorem bcell {W w1 : World} (hb : Below W.heap.size W w1) : (∀ b o, b < W.heap.size → w1.cell? ⟨b, o, none⟩ = W.cell? ⟨b, o, none⟩) ∧ (∀ b o, b < W.heap.size → w1.frozen? ⟨b, o, none⟩ = W.frozen? ⟨b, o, none⟩) :=
 ⟨fun b o h => hb.cell (p := ⟨b, o, none⟩) h, fun b o h => hb.frozen (p := ⟨b, o, none⟩) h⟩

theorem bthen {w W w' : World} (h : Below w.heap.size w W) (hb : Below W.heap.size W w') : Below w.heap.size w w' := h.trans (hb.mono h.size)

theorem since_of {B : Nat} {w w' : World} (h : Below B w w') : w.Since B w' := ⟨h.os, h.tape, h.output, h.size, h.block⟩
theorem below_of {B : Nat} {w w' : World} (h : w.Since B w') : Below B w w' := ⟨h.os, h.tape, h.output, h.size, h.block⟩

/-- A slice of integers that reads as a list. -/
structure IntsR (w : World) (B b o : Nat) (A : Option Addr) (xs : List Int) : Prop where
 addr : 0 < xs.length → A = some ⟨b, o, none⟩
 lt : 0 < xs.length → b < B
 cell : ∀ j, j < xs.length → w.cell? ⟨b, o + j, none⟩ = some (.int .i64 (xs.getD j 0))

theorem IntsR.below {w w' : World} {B b o : Nat} {A : Option Addr} {xs : List Int} (h : IntsR w B b o A xs) (hb : Below B w w') : IntsR w' B b o A xs :=
 ⟨h.addr, h.lt, fun j hj => (hb.cell (p := ⟨b, o + j, none⟩) (h.lt (by omega))).trans (h.cell j hj)⟩
theorem IntsR.more {w : World} {B B' b o : Nat} {A : Option Addr} {xs : List Int} (h : IntsR w B b o A xs) (hB : B ≤ B') : IntsR w B' b o A xs :=
 ⟨h.addr, fun hx => Nat.lt_of_lt_of_le (h.lt hx) hB, h.cell⟩
theorem IntsR.nil (w : World) (B : Nat) (A : Option Addr) : IntsR w B 0 0 A [] := ⟨by simp, by simp, by simp⟩

/-- A slice of bounds that reads as a list. -/
structure BdsR (w : World) (B b o : Nat) (A : Option Addr) (bs : List Bd) : Prop where
 addr : 0 < bs.length → A = some ⟨b, o, none⟩
 lt : 0 < bs.length → b < B
 c0 : ∀ j (x : Bd), bs[j]? = some x → w.cell? ⟨b, o + j * 3, none⟩ = some (.int .i64 x.f)
 c1 : ∀ j (x : Bd), bs[j]? = some x → w.cell? ⟨b, o + j * 3 + 1, none⟩ = some (.int .i64 x.t)
 c2 : ∀ j (x : Bd), bs[j]? = some x → w.cell? ⟨b, o + j * 3 + 2, none⟩ = some (.int .i64 x.m)

theorem BdsR.below {w w' : World} {B b o : Nat} {A : Option Addr} {bs : List Bd} (h : BdsR w B b o A bs) (hb : Below B w w') : BdsR w' B b o A bs := by
 have hl : ∀ j (x : Bd), bs[j]? = some x → b < B := fun j x hx => h.lt (by have := (List.getElem?_eq_some_iff.1 hx).1; omega)
 exact ⟨h.addr, h.lt, fun j x hx => (hb.cell (p := ⟨b, _, none⟩) (hl j x hx)).trans (h.c0 j x hx), fun j x hx => (hb.cell (p := ⟨b, _, none⟩) (hl j x hx)).trans (h.c1 j x hx),
  fun j x hx => (hb.cell (p := ⟨b, _, none⟩) (hl j x hx)).trans (h.c2 j x hx)⟩
theorem BdsR.more {w : World} {B B' b o : Nat} {A : Option Addr} {bs : List Bd} (h : BdsR w B b o A bs) (hB : B ≤ B') : BdsR w B' b o A bs :=
 ⟨h.addr, fun hx => Nat.lt_of_lt_of_le (h.lt hx) hB, h.c0, h.c1, h.c2⟩
theorem BdsR.nil (w : World) (B : Nat) (A : Option Addr) : BdsR w B 0 0 A [] := ⟨by simp, by simp, by simp, by simp, by simp⟩

/-! ### rows that a call makes for itself -/

theorem add_zero_off (b o j : Nat) : ((⟨b, o, none⟩ : Addr).add j) = ⟨b, o + j, none⟩ := by
 unfold Addr.add; split <;> simp_all

def bdCs : List Bd → List Value
 | [] => []
 | x :: l => .int .i64 x.f :: .int .i64 x.t :: .int .i64 x.m :: bdCs l

theorem bdCs_length : ∀ bs : List Bd, (bdCs bs).length = bs.length * 3
 | [] => rfl
 | x :: l => by simp [bdCs, bdCs_length l]; omega
theorem bdCs_append : ∀ a b : List Bd, bdCs (a ++ b) = bdCs a ++ bdCs b
 | [], _ => rfl
 | x :: l, b => by simp [bdCs, bdCs_append l b]
theorem bdCs_one : ∀ (bs : List Bd), ∀ u ∈ bdCs bs, u.oneCell' = true
 | [] => by simp [bdCs]
 | x :: l => by
   intro u hu
   simp only [bdCs, List.mem_cons] at hu
   rcases hu with rfl | rfl | rfl | hu
   ·rfl
   ·rfl
   ·rfl
   ·exact bdCs_one l u hu
theorem bdCs_get : ∀ (bs : List Bd) (q : Nat) (x : Bd), bs[q]? = some x → (bdCs bs)[q * 3]? = some (.int .i64 x.f) ∧ (bdCs bs)[q * 3 + 1]? = some (.int .i64 x.t) ∧ (bdCs bs)[q * 3 + 2]? = some (.int .i64 x.m)
 | [], q, x => by simp
 | y :: l, 0, x => by intro h; simp at h; subst h; simp [bdCs]
 | y :: l, q + 1, x => by
   intro h
   have := bdCs_get l q x (by simpa using h)
   have e : (q + 1) * 3 = q * 3 + 3 := by omega
   rw [e]
   simpa [bdCs] using this
theorem ints_one (xs : List Int) : ∀ u ∈ xs.map (Value.int .i64), u.oneCell' = true := by
 intro u hu
 obtain ⟨n, _, rfl⟩ := List.mem_map.1 hu
 rfl

/-- What an append reads: news lie at A. -/
def NewsAt (w : World) (A : Option Addr) (m : Nat) (news : List Value) : Prop := 0 < m → ∃ ad, A = some ad ∧ ∀ j u, news[j]? = some u → w.cell? (ad.add j) = some u

theorem BdsR.news {w : World} {B b o : Nat} {A : Option Addr} {bs : List Bd} (h : BdsR w B b o A bs) : NewsAt w A bs.length (bdCs bs) := fun hm => by
 refine ⟨_, h.addr hm, fun j u hu => ?_⟩
 have hj : j < bs.length * 3 := by
  have := (List.getElem?_eq_some_iff.1 hu).1; rwa [bdCs_length] at this
 obtain ⟨x, hx⟩ : ∃ x, bs[j / 3]? = some x := ⟨bs[j / 3]'(by omega), List.getElem?_eq_getElem (by omega)⟩
 obtain ⟨g0, g1, g2⟩ := bdCs_get bs _ x hx
 rw [add_zero_off]
 have hr : j = j / 3 * 3 ∨ j = j / 3 * 3 + 1 ∨ j = j / 3 * 3 + 2 := by omega
 rcases hr with e | e | e
 ·have := h.c0 _ x hx; rw [← e] at this g0; rw [this, ← hu, g0]
 ·have := h.c1 _ x hx; rw [Nat.add_assoc, ← e] at this; rw [← e] at g1; rw [this, ← hu, g1]
 ·have := h.c2 _ x hx; rw [Nat.add_assoc, ← e] at this; rw [← e] at g2; rw [this, ← hu, g2]
theorem IntsR.news {w : World} {B b o : Nat} {A : Option Addr} {xs : List Int} (h : IntsR w B b o A xs) : NewsAt w A xs.length (xs.map (Value.int .i64)) := fun hm => by
 refine ⟨_, h.addr hm, fun j u hu => ?_⟩
 have hj : j < xs.length := by
  have := (List.getElem?_eq_some_iff.1 hu).1; simpa using this
 rw [add_zero_off, h.cell j hj, ← hu]
 simp [hj]
theorem NewsAt.block {w : World} {g m : Nat} {cs : Array Value} {t : TypeId} {fr : Nat × Nat} (hb : w.heap[g]? = some (.cells cs t fr)) : NewsAt w (some ⟨g, 0, none⟩) m cs.toList :=
 fun _ => ⟨_, rfl, World.news_of_block hb⟩

theorem own_form {w : World} {base : Nat} {e : TypeId} {size : Nat} {v : Value} {n : Nat} {xs : List Value} (h : w.ownsRow base e size v n xs) :
  ∃ A g c, v = .slice A n c ∧ (0 < n → A = some ⟨g, 0, none⟩) ∧ (0 < n → base ≤ g ∧ g < w.heap.size) ∧ ∀ j u, xs[j]? = some u → w.cell? ⟨g, j, none⟩ = some u := by
 rcases h.2 with ⟨rfl, rfl⟩ | ⟨g, cap, cur, rfl, hb, hh, _⟩
 ·have : xs = [] := List.eq_nil_of_length_eq_zero (by simpa using h.1)
  subst this
  exact ⟨none, 0, 0, rfl, by simp, by simp, by simp⟩
 ·refine ⟨some ⟨g, 0, none⟩, g, cap, rfl, fun _ => rfl, fun _ => ⟨hb, (Array.getElem?_eq_some_iff.1 hh).1⟩, fun j u hu => ?_⟩
  have := h.cells (g := g) rfl j u hu
  rwa [add_zero_off, Nat.zero_add] at this

section
variable {P : Program} (w : World)
theorem app_run (base : Nat) (t ty e : TypeId) (i : TypeInfo) (z : Value) (size bytes : Nat) (ht : P.underlying t = some (.slice e)) (hi : P.info? e = some i) (hz : i.zero = some z)
  (hsize : i.size = size) (hby : i.bytes = bytes) (hzs : z.cells.size = size) (hsz : 0 < size) (v : Value) (n : Nat) (xs : List Value) (hown : w.ownsRow base e size v n xs)
  (A : Option Addr) (m c : Nat) (news : List Value) (hl : news.length = m * size) (hA : NewsAt w A m news) (h1 : ∀ u ∈ news, u.oneCell' = true)
  (hlen : (n + m) * bytes ≤ 140737488355328) (hmx : n + m ≤ 9000000000000) (hbase : base ≤ w.heap.size) :
  ∃ v' w', (Builtin.append_ #[t, t] ty #[v, .slice A m c]).run P w = .ok v' w' ∧ w'.ownsRow base e size v' (n + m) (xs ++ news) ∧ w.grownBy w' v.ownBlock ∧ (v'.ownBlock = v.ownBlock ∨ v'.ownBlock = some w.heap.size) := by
 rcases Nat.eq_zero_or_pos m with h0 | h0
 ·subst h0
  obtain rfl : news = [] := List.eq_nil_of_length_eq_zero (by simpa using hl)
  rcases A with _ | ad
  ·refine ⟨v, w, ?_, by simpa using hown, World.grownBy.refl w _, .inl rfl⟩
   rcases hown.2 with ⟨rfl, rfl⟩ | ⟨g, cap, cur, rfl, _, _, hnc, _⟩
   ·simp [Builtin.append_, run_underlying ht, sizeOf, typeInfo, hi, Builtin.lenOf, Builtin.firstCells]
   ·simp [Builtin.append_, run_underlying ht, sizeOf, typeInfo, hi, Builtin.lenOf, Builtin.firstCells, hnc, storeCells]
  ·obtain ⟨v', w', a1, a2, a3, _, a5⟩ := run_append_own_at (P := P) w base t ty e i z size bytes ht hi hz hsize hby hzs hsz v n xs hown ad 0 c [] hl (by simp) h1 (by unfold maxLen; omega) hlen hbase
   exact ⟨v', w', a1, a2, a3, a5⟩
 ·obtain ⟨ad, rfl, hc⟩ := hA h0
  obtain ⟨v', w', a1, a2, a3, _, a5⟩ := run_append_own_at (P := P) w base t ty e i z size bytes ht hi hz hsize hby hzs hsz v n xs hown ad m c news hl hc h1 (by unfold maxLen; omega) hlen hbase
  exact ⟨v', w', a1, a2, a3, a5⟩

theorem app_wp {o : Oper} {a : Act} {K : Act → World → Prop} {Q : Exit → Act → World → Prop} (s x : Operand) (t : TypeId)
  (ho : o.op = .call { callee := .builtin .append, args := #[s, x], argTypes := #[t, t] })
  (base : Nat) (e : TypeId) (i : TypeInfo) (z : Value) (size bytes : Nat) (ht : P.underlying t = some (.slice e)) (hi : P.info? e = some i) (hz : i.zero = some z)
  (hsize : i.size = size) (hby : i.bytes = bytes) (hzs : z.cells.size = size) (hsz : 0 < size) (v : Value) (n : Nat) (xs : List Value) (hs : a.eval s = v) (hown : w.ownsRow base e size v n xs)
  (A : Option Addr) (m c : Nat) (news : List Value) (hx : a.eval x = .slice A m c) (hl : news.length = m * size) (hA : NewsAt w A m news) (h1 : ∀ u ∈ news, u.oneCell' = true)
  (hlen : (n + m) * bytes ≤ 140737488355328) (hmx : n + m ≤ 9000000000000) (hbase : base ≤ w.heap.size)
  (h : ∀ A' c' w', w'.ownsRow base e size (.slice A' (n + m) c') (n + m) (xs ++ news) → w.grownBy w' v.ownBlock → ((Value.slice A' (n + m) c').ownBlock = v.ownBlock ∨ (Value.slice A' (n + m) c').ownBlock = some w.heap.size) → K (a.put o.dst (.slice A' (n + m) c')) w') : o.wp P a w K Q := by
 obtain ⟨v', w', hrun, h2, h3, h4⟩ := app_run (P := P) w base t o.type e i z size bytes ht hi hz hsize hby hzs hsz v n xs hown A m c news hl hA h1 hlen hmx hbase
 unfold Oper.wp execOp
 simp only [ho, resolve, invoke, builtin, Sem.run_bind, Sem.run_pure, Result.andThen_ok, List.map_toArray, List.map_cons, List.map_nil, hs, hx, hrun]
 obtain ⟨A', g', c', rfl, _⟩ := own_form h2
 exact h A' c' w' h2 h3 h4

theorem app_list {ops : Array Oper} {rest : List Oper} {o : Oper} {a : Act} {Q : Exit → Act → World → Prop} (hgd : o.guard = none) (s x : Operand) (t : TypeId)
  (ho : o.op = .call { callee := .builtin .append, args := #[s, x], argTypes := #[t, t] })
  (base : Nat) (e : TypeId) (i : TypeInfo) (z : Value) (size bytes : Nat) (ht : P.underlying t = some (.slice e)) (hi : P.info? e = some i) (hz : i.zero = some z)
  (hsize : i.size = size) (hby : i.bytes = bytes) (hzs : z.cells.size = size) (hsz : 0 < size) (v : Value) (n : Nat) (xs : List Value) (hs : a.eval s = v) (hown : w.ownsRow base e size v n xs)
  (A : Option Addr) (m c : Nat) (news : List Value) (hx : a.eval x = .slice A m c) (hl : news.length = m * size) (hA : NewsAt w A m news) (h1 : ∀ u ∈ news, u.oneCell' = true)
  (hlen : (n + m) * bytes ≤ 140737488355328) (hmx : n + m ≤ 9000000000000) (hbase : base ≤ w.heap.size)
  (h : ∀ A' c' w', w'.ownsRow base e size (.slice A' (n + m) c') (n + m) (xs ++ news) → w.grownBy w' v.ownBlock → ((Value.slice A' (n + m) c').ownBlock = v.ownBlock ∨ (Value.slice A' (n + m) c').ownBlock = some w.heap.size) → wpList P ops Q rest (a.put o.dst (.slice A' (n + m) c')) w') : wpList P ops Q (o :: rest) a w :=
 wpList_plain hgd fun _ hK => app_wp w s x t ho base e i z size bytes ht hi hz hsize hby hzs hsz v n xs hs hown A m c news hx hl hA h1 hlen hmx hbase fun A' c' w' h2 h3 h4 => hK _ _ (h A' c' w' h2 h3 h4)

theorem app_step {ops : Array Oper} {o : Oper} {a : Act} {K : Act → World → Prop} {Q : Exit → Act → World → Prop} {E : Prop} (hgd : o.guard = none) (s x : Operand) (t : TypeId)
  (ho : o.op = .call { callee := .builtin .append, args := #[s, x], argTypes := #[t, t] })
  (base : Nat) (e : TypeId) (i : TypeInfo) (z : Value) (size bytes : Nat) (ht : P.underlying t = some (.slice e)) (hi : P.info? e = some i) (hz : i.zero = some z)
  (hsize : i.size = size) (hby : i.bytes = bytes) (hzs : z.cells.size = size) (hsz : 0 < size) (v : Value) (n : Nat) (xs : List Value) (hs : a.eval s = v) (hown : w.ownsRow base e size v n xs)
  (A : Option Addr) (m c : Nat) (news : List Value) (hx : a.eval x = .slice A m c) (hl : news.length = m * size) (hA : NewsAt w A m news) (h1 : ∀ u ∈ news, u.oneCell' = true)
  (hlen : (n + m) * bytes ≤ 140737488355328) (hmx : n + m ≤ 9000000000000) (hbase : base ≤ w.heap.size)
  (h : ∀ A' c' w', w'.ownsRow base e size (.slice A' (n + m) c') (n + m) (xs ++ news) → w.grownBy w' v.ownBlock → ((Value.slice A' (n + m) c').ownBlock = v.ownBlock ∨ (Value.slice A' (n + m) c').ownBlock = some w.heap.size) → K (a.put o.dst (.slice A' (n + m) c')) w') :
  if Region.wanted o (yielded ops a.tmps) = true then Oper.wp P o a w K Q else E := by
 rw [if_pos (by simp [Region.wanted, hgd])]
 exact app_wp w s x t ho base e i z size bytes ht hi hz hsize hby hzs hsz v n xs hs hown A m c news hx hl hA h1 hlen hmx hbase h
end

def OwnI (base : Nat) (w : World) (v : Value) (xs : List Int) : Prop := w.ownsRow base 3 1 v xs.length (xs.map (Value.int .i64))
def OwnB (base : Nat) (w : World) (v : Value) (bs : List Bd) : Prop := w.ownsRow base 97 3 v bs.length (bdCs bs)

theorem infoI : (Tryz.prog.info? 3).map (fun i => (i.zero, i.size, i.bytes)) = some (some (.int .i64 0), 1, 8) := by kernel_rfl
theorem infoB : (Tryz.prog.info? 97).map (fun i => (i.zero, i.size, i.bytes)) = some (some (.agg #[.int .i64 0, .int .i64 0, .int .i64 0]), 3, 24) := by kernel_rfl

theorem OwnB.reads {base : Nat} {w : World} {v : Value} {bs : List Bd} (h : OwnB base w v bs) : ∃ A g c, v = .slice A bs.length c ∧ BdsR w w.heap.size g 0 A bs := by
 obtain ⟨A, g, c, hv, h1, h2, h3⟩ := own_form h
 have k := fun j x hx => bdCs_get bs j x hx
 exact ⟨A, g, c, hv, h1, fun hx => (h2 hx).2, fun j x hx => by rw [Nat.zero_add]; exact h3 _ _ (k j x hx).1, fun j x hx => by rw [Nat.zero_add]; exact h3 _ _ (k j x hx).2.1,
  fun j x hx => by rw [Nat.zero_add]; exact h3 _ _ (k j x hx).2.2⟩
theorem OwnB.readsA {base : Nat} {w : World} {A : Option Addr} {c : Nat} {bs : List Bd} (h : OwnB base w (.slice A bs.length c) bs) : ∃ g, BdsR w w.heap.size g 0 A bs := by
 obtain ⟨A2, g, c2, hv, hr⟩ := h.reads
 injection hv with h1 h2 h3
 subst h1
 exact ⟨g, hr⟩
theorem OwnI.reads {base : Nat} {w : World} {v : Value} {xs : List Int} (h : OwnI base w v xs) : ∃ A g c, v = .slice A xs.length c ∧ IntsR w w.heap.size g 0 A xs := by
 obtain ⟨A, g, c, hv, h1, h2, h3⟩ := own_form h
 exact ⟨A, g, c, hv, h1, fun hx => (h2 hx).2, fun j hj => by rw [Nat.zero_add]; exact h3 _ _ (by simp [hj])⟩

theorem own_below {w w' : World} {base : Nat} {e : TypeId} {size : Nat} {v : Value} {n : Nat} {xs : List Value} (h : w.ownsRow base e size v n xs) (hb : Below w.heap.size w w') : w'.ownsRow base e size v n xs :=
 h.kept (row := none) ⟨hb.os, hb.tape, hb.output, hb.size, fun k hk _ => hb.block k hk⟩ (by cases hv : v.ownBlock <;> simp)
theorem own_less {w : World} {base base' : Nat} {e : TypeId} {size : Nat} {v : Value} {n : Nat} {xs : List Value} (h : w.ownsRow base e size v n xs) (hb : base' ≤ base) : w.ownsRow base' e size v n xs := by
 refine ⟨h.1, ?_⟩
 rcases h.2 with h2 | ⟨g, cap, cur, hv, hg, r⟩
 ·exact .inl h2
 ·exact .inr ⟨g, cap, cur, hv, by omega, r⟩

theorem grown_set (w : World) (p : Addr) (u : Value) : w.grownBy (w.setCell p u) (some p.block) :=
 ⟨rfl, rfl, rfl, by simp, fun k _ hne => Below.heap_setCell w p u k (fun e => hne (by rw [e]))⟩
theorem own_set {w : World} {base : Nat} {e : TypeId} {size : Nat} {v : Value} {n : Nat} {xs : List Value} (h : w.ownsRow base e size v n xs) {p : Addr} (hne : v.ownBlock ≠ some p.block) (u : Value) : (w.setCell p u).ownsRow base e size v n xs :=
 h.kept (grown_set w p u) (.inr hne)
theorem own_set_low {w : World} {base : Nat} {e : TypeId} {size : Nat} {v : Value} {n : Nat} {xs : List Value} (h : w.ownsRow base e size v n xs) {p : Addr} (hp : p.block < base) (u : Value) : (w.setCell p u).ownsRow base e size v n xs :=
 own_set h (fun e => by have := h.lt _ e; omega) u
/-- A struct of two cells that is written whole. -/
theorem two_cells {w : World} {g : Nat} {a b x y : Value} (h0 : w.cell? ⟨g, 0, none⟩ = some x) (h1 : w.cell? ⟨g, 1, none⟩ = some y) :
  ((w.setCell ⟨g, 0, none⟩ a).setCell ⟨g, 1, none⟩ b).cell? ⟨g, 0, none⟩ = some a ∧ ((w.setCell ⟨g, 0, none⟩ a).setCell ⟨g, 1, none⟩ b).cell? ⟨g, 1, none⟩ = some b := by
 constructor
 ·rw [World.cell?_setCell_other _ _ _ _ (by simp)]
  exact World.cell?_setCell_same _ _ _ h0
 ·exact World.cell?_setCell_same (u := y) _ _ _ ((World.cell?_setCell_other _ _ _ _ (by simp)).trans h1)

/-- Behind an append: below the base nothing has turned. -/
theorem below_app {w0 w w' : World} {v : Value} {base B : Nat} {e : TypeId} {size n : Nat} {xs : List Value} (h : Below B w0 w) (hown : w.ownsRow base e size v n xs) (hg : w.grownBy w' v.ownBlock) (hB : B ≤ base) (hs : base ≤ w.heap.size) : Below B w0 w' :=
 h.grown hg (by omega) (fun k hk => by have := hown.lt k hk; omega)

end Go.Proofs.YtmnajkhoacogjaaGreatDoor
