/-
 Rows of deeds in memory.
-/
import Derived.Test.YtmnajkhoacogjaaGreatDoorR75
namespace Go.Proofs.YtmnajkhoacogjaaGreatDoor
set_option linter.unusedVariables false
set_option linter.unusedSimpArgs false
open Go Go.RowKit Pp

def byts (l : List UInt8) : ByteArray := ⟨l.toArray⟩
theorem byts_list (l : List UInt8) : (byts l).data.toList = l := by simp [byts]
theorem byts_of {s : ByteArray} {l : List UInt8} (h : s.data.toList = l) : s = byts l := by
 obtain ⟨d⟩ := s
 subst h
 simp [byts]
def ddCs : List Dd → List Value
 | [] => []
 | x :: l => .int .i64 x.k :: .int .i64 x.a :: .int .i64 x.b :: .int .i64 x.c :: .string (byts x.ws) :: ddCs l
theorem ddCs_length : ∀ xs : List Dd, (ddCs xs).length = xs.length * 5
 | [] => rfl
 | x :: l => by simp [ddCs, ddCs_length l]; omega
theorem ddCs_append : ∀ a b : List Dd, ddCs (a ++ b) = ddCs a ++ ddCs b
 | [], _ => rfl
 | x :: l, b => by simp [ddCs, ddCs_append l b]
theorem ddCs_one : ∀ (xs : List Dd), ∀ u ∈ ddCs xs, u.oneCell' = true
 | [] => by simp [ddCs]
 | x :: l => by
   intro u hu
   simp only [ddCs, List.mem_cons] at hu
   rcases hu with rfl | rfl | rfl | rfl | rfl | hu
   ·rfl
   ·rfl
   ·rfl
   ·rfl
   ·rfl
   ·exact ddCs_one l u hu
theorem ddCs_get : ∀ (xs : List Dd) (q : Nat) (x : Dd), xs[q]? = some x → (ddCs xs)[q * 5]? = some (.int .i64 x.k) ∧ (ddCs xs)[q * 5 + 1]? = some (.int .i64 x.a) ∧ (ddCs xs)[q * 5 + 2]? = some (.int .i64 x.b) ∧ (ddCs xs)[q * 5 + 3]? = some (.int .i64 x.c) ∧ (ddCs xs)[q * 5 + 4]? = some (.string (byts x.ws))
 | [], q, x => by simp
 | y :: l, 0, x => by intro h; simp at h; subst h; simp [ddCs]
 | y :: l, q + 1, x => by
   intro h
   have := ddCs_get l q x (by simpa using h)
   have e : (q + 1) * 5 = q * 5 + 5 := by omega
   rw [e]
   simpa [ddCs] using this
theorem ddCs_drop (xs : List Dd) : ∀ m, ddCs (xs.drop m) = (ddCs xs).drop (m * 5) := by
 induction xs with
 | nil => intro m; simp [ddCs]
 | cons x l ih =>
   intro m
   cases m with
   | zero => simp
   | succ m =>
     have e : (m + 1) * 5 = m * 5 + 1 + 1 + 1 + 1 + 1 := by omega
     rw [e]
     simp only [List.drop_succ_cons, ddCs]
     exact ih m
theorem ddCs_take (xs : List Dd) : ∀ m, ddCs (xs.take m) = (ddCs xs).take (m * 5) := by
 induction xs with
 | nil => intro m; simp [ddCs]
 | cons x l ih =>
   intro m
   cases m with
   | zero => simp [ddCs]
   | succ m =>
     have e : (m + 1) * 5 = m * 5 + 1 + 1 + 1 + 1 + 1 := by omega
     rw [e]
     simp only [List.take_succ_cons, ddCs]
     rw [ih m]
/-- A slice of deeds that is read. -/
abbrev DdR (w : World) (B b o : Nat) (A : Option Addr) (l : List Dd) : Prop := CsR w B b o A l.length (ddCs l)
theorem DdR.next {w w' : World} {b o : Nat} {A : Option Addr} {l : List Dd} (h : DdR w w.heap.size b o A l) (hb : Below w.heap.size w w') : DdR w' w'.heap.size b o A l := (CsR.below h hb).more hb.size
theorem dd_cells {w : World} {B b o : Nat} {A : Option Addr} {xs : List Dd} (h : DdR w B b o A xs) {k : Nat} {x : Dd} (hx : xs[k]? = some x) :
  w.cell? ⟨b, o + k * 5, none⟩ = some (.int .i64 x.k) ∧ w.cell? ⟨b, o + k * 5 + 1, none⟩ = some (.int .i64 x.a) ∧ w.cell? ⟨b, o + k * 5 + 2, none⟩ = some (.int .i64 x.b) ∧ w.cell? ⟨b, o + k * 5 + 3, none⟩ = some (.int .i64 x.c) ∧ w.cell? ⟨b, o + k * 5 + 4, none⟩ = some (.string (byts x.ws)) := by
 obtain ⟨g0, g1, g2, g3, g4⟩ := ddCs_get xs k _ hx
 exact ⟨h.cell _ _ g0, h.at (k * 5) 1 rfl g1, h.at (k * 5) 2 rfl g2, h.at (k * 5) 3 rfl g3, h.at (k * 5) 4 rfl g4⟩
theorem DdR.take {w : World} {B b o : Nat} {A : Option Addr} {t : List Dd} (h : DdR w B b o A t) (m : Nat) : DdR w B b o A (t.take m) := by
 have hl : (t.take m).length ≤ t.length := by rw [List.length_take]; omega
 refine ⟨fun hx => h.addr (by omega), fun hx => h.lt (by omega), fun j u hu => ?_, fun h0 => by rw [List.eq_nil_of_length_eq_zero h0]; rfl⟩
 rw [ddCs_take, List.getElem?_take] at hu
 split at hu
 ·exact h.cell j u hu
 ·cases hu
theorem DdR.drop {w : World} {B b o : Nat} {A A' : Option Addr} {t : List Dd} (h : DdR w B b o A t) (m : Nat) (hA : m < t.length → A' = some ⟨b, o + m * 5, none⟩) : DdR w B b (o + m * 5) A' (t.drop m) := by
 have hl : (t.drop m).length = t.length - m := List.length_drop
 refine ⟨fun hx => hA (by omega), fun hx => h.lt (by omega), fun j u hu => ?_, fun h0 => by rw [List.eq_nil_of_length_eq_zero h0]; rfl⟩
 rw [ddCs_drop, List.getElem?_drop] at hu
 have := h.cell _ u hu
 rwa [← Nat.add_assoc] at this
theorem DdR.news {w : World} {B b o : Nat} {A : Option Addr} {t : List Dd} (h : DdR w B b o A t) : NewsAt w A t.length (ddCs t) := fun hm =>
 ⟨_, h.addr hm, fun j u hu => by rw [add_zero_off]; exact h.cell j u hu⟩
theorem infoDd : (Tryz.prog.info? 41).map (fun i => (i.zero, i.size, i.bytes)) = some (some (.agg #[.int .i64 0, .int .i64 0, .int .i64 0, .int .i64 0, .string ⟨#[]⟩]), 5, 48) := by kernel_rfl
def OwnDd (base : Nat) (w : World) (v : Value) (t : List Dd) : Prop := w.ownsRow base 41 5 v t.length (ddCs t)
theorem OwnDd.reads {base : Nat} {w : World} {A : Option Addr} {c : Nat} {t : List Dd} (h : OwnDd base w (.slice A t.length c) t) : ∃ g, DdR w w.heap.size g 0 A t := own_csR h
theorem OwnDd.below {w w' : World} {base : Nat} {v : Value} {t : List Dd} (h : OwnDd base w v t) (hb : Below w.heap.size w w') : OwnDd base w' v t := own_below h hb
/-- No two rows of a desk are one block. -/
structure DifC (M : Nat) (v : Value) (cs : List Value) : Prop where
 two : ∀ i j x y k, i ≠ j → cs[i * 2 + 1]? = some x → cs[j * 2 + 1]? = some y → x.ownBlock = some k → y.ownBlock ≠ some k
 now : ∀ j y k, cs[j * 2 + 1]? = some y → v.ownBlock = some k → y.ownBlock ≠ some k
 lt : ∀ j y k, cs[j * 2 + 1]? = some y → y.ownBlock = some k → k < M
theorem DifC.nil (M : Nat) (v : Value) : DifC M v [] := ⟨by simp, by simp, by simp⟩
theorem DifC.snoc {M M' n : Nat} {v u row : Value} {cs : List Value} (h : DifC M v cs) (hl : cs.length = n * 2) (hM : M ≤ M') (h0 : ∀ k, row.ownBlock = some k → M ≤ k ∧ k < M') (hv : ∀ k, v.ownBlock = some k → k < M) : DifC M' v (cs ++ [u, row]) := by
 have hg : ∀ j y, (cs ++ [u, row])[j * 2 + 1]? = some y → (j < n ∧ cs[j * 2 + 1]? = some y) ∨ (j = n ∧ y = row) := fun j y hy => by
  by_cases hj : j < n
  ·exact .inl ⟨hj, by rwa [List.getElem?_append_left (by omega)] at hy⟩
  ·rw [List.getElem?_append_right (by omega)] at hy
   have hlt := (List.getElem?_eq_some_iff.1 hy).1
   simp at hlt
   have hjn : j = n := by omega
   subst hjn
   rw [hl, show j * 2 + 1 - j * 2 = 1 by omega] at hy
   simp at hy
   exact .inr ⟨rfl, hy.symm⟩
 refine ⟨fun i j x y k hij hx hy e => ?_, fun j y k hy e => ?_, fun j y k hy e => ?_⟩
 ·rcases hg i x hx with ⟨i1, i2⟩ | ⟨i1, rfl⟩ <;> rcases hg j y hy with ⟨j1, j2⟩ | ⟨j1, rfl⟩
  ·exact h.two i j x y k hij i2 j2 e
  ·intro e2; have := (h0 k e2).1; have := h.lt i x k i2 e; omega
  ·intro e2; have := (h0 k e).1; have := h.lt j y k j2 e2; omega
  ·omega
 ·rcases hg j y hy with ⟨j1, j2⟩ | ⟨j1, rfl⟩
  ·exact h.now j y k j2 e
  ·intro e2; have := (h0 k e2).1; have := hv k e; omega
 ·rcases hg j y hy with ⟨j1, j2⟩ | ⟨j1, rfl⟩
  ·have := h.lt j y k j2 e; omega
  ·exact (h0 k e).2
/-- The same, of a row of plans in memory. -/
def DifW (lo M : Nat) (w : World) (v A2v : Value) (n : Nat) : Prop := ∃ (A : Option Addr) (c g : Nat) (cs : List Value), A2v = .slice A n c ∧ DifC M v cs ∧ cs.length = n * 2 ∧ (0 < n → A = some ⟨g, 0, none⟩ ∧ lo ≤ g ∧ g < w.heap.size) ∧ ∀ j u, cs[j]? = some u → w.cell? ⟨g, j, none⟩ = some u
theorem DifW.below {lo M n : Nat} {w w' : World} {v a : Value} (h : DifW lo M w v a n) (hb : Below w.heap.size w w') : DifW lo M w' v a n := by
 obtain ⟨A, c, g, cs, h1, h2, h3, h4, h5⟩ := h
 refine ⟨A, c, g, cs, h1, h2, h3, fun hn => ⟨(h4 hn).1, (h4 hn).2.1, Nat.lt_of_lt_of_le (h4 hn).2.2 hb.size⟩, fun j u hu => ?_⟩
 have := (List.getElem?_eq_some_iff.1 hu).1
 exact (hb.cell (p := ⟨g, j, none⟩) (h4 (by omega)).2.2).trans (h5 j u hu)
theorem DifW.setLow {lo M n Y : Nat} {w : World} {v a : Value} (h : DifW lo M w v a n) (hY : Y < lo) (i : Nat) (x : Value) : DifW lo M (w.setCell ⟨Y, i, none⟩ x) v a n := by
 obtain ⟨A, c, g, cs, h1, h2, h3, h4, h5⟩ := h
 refine ⟨A, c, g, cs, h1, h2, h3, fun hn => ⟨(h4 hn).1, (h4 hn).2.1, by simpa using (h4 hn).2.2⟩, fun j u hu => ?_⟩
 have := (List.getElem?_eq_some_iff.1 hu).1
 have hg := (h4 (by omega)).2.1
 have hp : (⟨Y, i, none⟩ : Addr) ≠ ⟨g, j, none⟩ := fun e => by injection e with e; omega
 rw [World.cell?_setCell_other (h := hp)]
 exact h5 j u hu
theorem DifW.less {lo lo' M n : Nat} {w : World} {v a : Value} (h : DifW lo M w v a n) (hl : lo' ≤ lo) : DifW lo' M w v a n := by
 obtain ⟨A, c, g, cs, h1, h2, h3, h4, h5⟩ := h
 exact ⟨A, c, g, cs, h1, h2, h3, fun hn => ⟨(h4 hn).1, Nat.le_trans hl (h4 hn).2.1, (h4 hn).2.2⟩, h5⟩
theorem DifW.of_own {lo M n c : Nat} {w : World} {v : Value} {A : Option Addr} {cs : List Value} (h : w.ownsRow lo 34 2 (.slice A n c) n cs) (hd : DifC M v cs) : DifW lo M w v (.slice A n c) n := by
 obtain ⟨A2, g, c2, hv, e1, e2, e3⟩ := own_form h
 injection hv with hv1 _ hv3
 subst hv1
 exact ⟨A, c, g, cs, rfl, hd, h.1, fun hn => ⟨e1 hn, (e2 hn).1, (e2 hn).2⟩, e3⟩
theorem DifW.toC {lo lo' M n c : Nat} {w : World} {v : Value} {A : Option Addr} {cs : List Value} (hF : DifW lo M w v (.slice A n c) n) (h : w.ownsRow lo' 34 2 (.slice A n c) n cs) : DifC M v cs := by
 obtain ⟨A1, c1, g1, cs1, k1, k2, k3, k4, k5⟩ := hF
 injection k1 with k1 _ _
 subst k1
 obtain ⟨A2, g, c2, hv, e1, e2, e3⟩ := own_form h
 injection hv with hv1 _ _
 subst hv1
 have hl : cs.length = n * 2 := h.1
 have : cs1 = cs := by
  refine List.ext_getElem? fun j => ?_
  by_cases hj : j < n * 2
  ·have hn : 0 < n := by omega
   have hg : g1 = g := by
    have e := (k4 hn).1.symm.trans (e1 hn)
    injection e with e
    injection e with e
   subst hg
   obtain ⟨u, hu⟩ : ∃ u, cs1[j]? = some u := ⟨_, List.getElem?_eq_getElem (by omega)⟩
   obtain ⟨u', hu'⟩ : ∃ u, cs[j]? = some u := ⟨_, List.getElem?_eq_getElem (by omega)⟩
   have := (k5 j u hu).symm.trans (e3 j u' hu')
   injection this with this
   rw [hu, hu', this]
  ·rw [List.getElem?_eq_none (by omega), List.getElem?_eq_none (by omega)]
 exact this ▸ k2
theorem DifW.moreM {lo M M' n : Nat} {w : World} {v a : Value} (h : DifW lo M w v a n) (hl : M ≤ M') : DifW lo M' w v a n := by
 obtain ⟨A, c, g, cs, h1, h2, h3, h4, h5⟩ := h
 exact ⟨A, c, g, cs, h1, ⟨h2.two, h2.now, fun j y k hy e => Nat.lt_of_lt_of_le (h2.lt j y k hy e) hl⟩, h3, h4, h5⟩
theorem DifW.set {lo M n X : Nat} {w : World} {v a : Value} (h : DifW lo M w v a n) (hX : a.ownBlock ≠ some X) (i : Nat) (x : Value) : DifW lo M (w.setCell ⟨X, i, none⟩ x) v a n := by
 obtain ⟨A, c, g, cs, h1, h2, h3, h4, h5⟩ := h
 refine ⟨A, c, g, cs, h1, h2, h3, fun hn => ⟨(h4 hn).1, (h4 hn).2.1, by simpa using (h4 hn).2.2⟩, fun j u hu => ?_⟩
 have := (List.getElem?_eq_some_iff.1 hu).1
 have hg := (h4 (by omega)).1
 have hne : g ≠ X := fun e => hX (by rw [h1, hg, e]; rfl)
 have hp : (⟨X, i, none⟩ : Addr) ≠ ⟨g, j, none⟩ := fun e => by injection e with e; omega
 rw [World.cell?_setCell_other (h := hp)]
 exact h5 j u hu
theorem DifW.nil (lo M c : Nat) (w : World) (v : Value) (A : Option Addr) : DifW lo M w v (.slice A 0 c) 0 := ⟨A, c, 0, [], rfl, DifC.nil _ _, rfl, by simp, by simp⟩
end Go.Proofs.YtmnajkhoacogjaaGreatDoor
