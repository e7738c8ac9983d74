/-
 Marks and parts of terms in memory.
-/
import Derived.Test.YtmnajkhoacogjaaGreatDoorI1
import Derived.Test.YtmnajkhoacogjaaGreatDoorP50
namespace Go.Proofs.YtmnajkhoacogjaaGreatDoor
set_option linter.unusedVariables false
set_option linter.unusedSimpArgs false
open Go.RowKit Pp

def mkCs : List Mk → List Value
 | [] => []
 | x :: l => .int .i64 x.k :: .int .i64 x.l :: .int .i64 x.h :: mkCs l
theorem mkCs_length : ∀ xs : List Mk, (mkCs xs).length = xs.length * 3
 | [] => rfl
 | x :: l => by simp [mkCs, mkCs_length l]; omega
theorem mkCs_append : ∀ a b : List Mk, mkCs (a ++ b) = mkCs a ++ mkCs b
 | [], _ => rfl
 | x :: l, b => by simp [mkCs, mkCs_append l b]
theorem mkCs_one : ∀ (xs : List Mk), ∀ u ∈ mkCs xs, u.oneCell' = true
 | [] => by simp [mkCs]
 | x :: l => by
   intro u hu
   simp only [mkCs, List.mem_cons] at hu
   rcases hu with rfl | rfl | rfl | hu
   ·rfl
   ·rfl
   ·rfl
   ·exact mkCs_one l u hu
theorem mkCs_get : ∀ (xs : List Mk) (q : Nat) (x : Mk), xs[q]? = some x → (mkCs xs)[q * 3]? = some (.int .i64 x.k) ∧ (mkCs xs)[q * 3 + 1]? = some (.int .i64 x.l) ∧ (mkCs xs)[q * 3 + 2]? = some (.int .i64 x.h)
 | [], q, x => by simp
 | y :: l, 0, x => by intro h; simp at h; subst h; simp [mkCs]
 | y :: l, q + 1, x => by
   intro h
   have := mkCs_get l q x (by simpa using h)
   have e : (q + 1) * 3 = q * 3 + 3 := by omega
   rw [e]
   simpa [mkCs] using this
theorem mkCs_drop (xs : List Mk) : ∀ m, mkCs (xs.drop m) = (mkCs xs).drop (m * 3) := by
 induction xs with
 | nil => intro m; simp [mkCs]
 | cons x l ih =>
   intro m
   cases m with
   | zero => simp
   | succ m =>
     have e : (m + 1) * 3 = m * 3 + 1 + 1 + 1 := by omega
     rw [e]
     simp only [List.drop_succ_cons, mkCs]
     exact ih m
theorem mkCs_take (xs : List Mk) : ∀ m, mkCs (xs.take m) = (mkCs xs).take (m * 3) := by
 induction xs with
 | nil => intro m; simp [mkCs]
 | cons x l ih =>
   intro m
   cases m with
   | zero => simp [mkCs]
   | succ m =>
     have e : (m + 1) * 3 = m * 3 + 1 + 1 + 1 := by omega
     rw [e]
     simp only [List.take_succ_cons, mkCs]
     rw [ih m]
/-- A slice of marks that is read. -/
abbrev MkR (w : World) (B b o : Nat) (A : Option Addr) (t : List Mk) : Prop := CsR w B b o A t.length (mkCs t)
theorem MkR.next {w w' : World} {b o : Nat} {A : Option Addr} {t : List Mk} (h : MkR w w.heap.size b o A t) (hb : Below w.heap.size w w') : MkR w' w'.heap.size b o A t := (CsR.below h hb).more hb.size
theorem mk_cells {w : World} {B b o : Nat} {A : Option Addr} {xs : List Mk} (h : MkR w B b o A xs) {k : Nat} {x : Mk} (hx : xs[k]? = some x) :
  w.cell? ⟨b, o + k * 3, none⟩ = some (.int .i64 x.k) ∧ w.cell? ⟨b, o + k * 3 + 1, none⟩ = some (.int .i64 x.l) ∧ w.cell? ⟨b, o + k * 3 + 2, none⟩ = some (.int .i64 x.h) := by
 obtain ⟨g0, g1, g2⟩ := mkCs_get xs k _ hx
 exact ⟨h.cell _ _ g0, h.at (k * 3) 1 rfl g1, h.at (k * 3) 2 rfl g2⟩
theorem MkR.take {w : World} {B b o : Nat} {A : Option Addr} {t : List Mk} (h : MkR w B b o A t) (m : Nat) : MkR w B b o A (t.take m) := by
 have hl : (t.take m).length ≤ t.length := by rw [List.length_take]; omega
 refine ⟨fun hx => h.addr (by omega), fun hx => h.lt (by omega), fun j u hu => ?_, fun h0 => by rw [List.eq_nil_of_length_eq_zero h0]; rfl⟩
 rw [mkCs_take, List.getElem?_take] at hu
 split at hu
 ·exact h.cell j u hu
 ·cases hu
theorem MkR.drop {w : World} {B b o : Nat} {A A' : Option Addr} {t : List Mk} (h : MkR w B b o A t) (m : Nat) (hA : m < t.length → A' = some ⟨b, o + m * 3, none⟩) : MkR w B b (o + m * 3) A' (t.drop m) := by
 have hl : (t.drop m).length = t.length - m := List.length_drop
 refine ⟨fun hx => hA (by omega), fun hx => h.lt (by omega), fun j u hu => ?_, fun h0 => by rw [List.eq_nil_of_length_eq_zero h0]; rfl⟩
 rw [mkCs_drop, List.getElem?_drop] at hu
 have := h.cell _ u hu
 rwa [← Nat.add_assoc] at this
theorem MkR.news {w : World} {B b o : Nat} {A : Option Addr} {t : List Mk} (h : MkR w B b o A t) : NewsAt w A t.length (mkCs t) := fun hm =>
 ⟨_, h.addr hm, fun j u hu => by rw [add_zero_off]; exact h.cell j u hu⟩

theorem infoM : (Tryz.prog.info? 139).map (fun i => (i.zero, i.size, i.bytes)) = some (some (.agg #[.int .i64 0, .int .i64 0, .int .i64 0]), 3, 24) := by kernel_rfl
def OwnM (base : Nat) (w : World) (v : Value) (t : List Mk) : Prop := w.ownsRow base 139 3 v t.length (mkCs t)
theorem OwnM.reads {base : Nat} {w : World} {A : Option Addr} {c : Nat} {t : List Mk} (h : OwnM base w (.slice A t.length c) t) : ∃ g, MkR w w.heap.size g 0 A t := own_csR h
theorem OwnM.below {w w' : World} {base : Nat} {v : Value} {t : List Mk} (h : OwnM base w v t) (hb : Below w.heap.size w w') : OwnM base w' v t := own_below h hb
theorem own_capM {w : World} {base : Nat} {e : TypeId} {size : Nat} {A : Option Addr} {n c : Nat} {xs : List Value} (h : w.ownsRow base e size (.slice A n c) n xs) : n ≤ c := by
 rcases h.2 with ⟨hv, hx⟩ | ⟨g, cap, cur, hv, _, _, hcap, _⟩
 ·injection hv with _ h2 h3
  omega
 ·injection hv with _ h2 h3
  omega

/-! ### parts -/
def ptr (p : Nat) : Value := .pointer (some ⟨p, 0, none⟩)
namespace Pp
def Tm.mark : Tm → Mk
 | .step l h => ⟨0, l, h⟩
 | .wth _ h => ⟨3, 0, h⟩
 | .thn _ _ => ⟨1, 0, 0⟩
 | .bth _ _ => ⟨2, 0, 0⟩
def Tm.kids : Tm → List Tm
 | .step _ _ => []
 | .wth a _ => [a]
 | .thn a b => [a, b]
 | .bth a b => [a, b]
def Tm.size : Tm → Nat
 | .step _ _ => 1
 | .wth a _ => a.size + 1
 | .thn a b => a.size + b.size + 1
 | .bth a b => a.size + b.size + 1
theorem Tm.kid_size {a k : Tm} {j : Nat} (h : a.kids[j]? = some k) : k.size < a.size := by
 cases a with
 | step l h => simp [Tm.kids] at h
 | wth a h' => match j with
   | 0 => simp [Tm.kids] at h; subst h; simp [Tm.size]
   | j + 1 => simp [Tm.kids] at h
 | thn a b => match j with
   | 0 => simp [Tm.kids] at h; subst h; simp only [Tm.size]; omega
   | 1 => simp [Tm.kids] at h; subst h; simp only [Tm.size]; omega
   | j + 2 => simp [Tm.kids] at h
 | bth a b => match j with
   | 0 => simp [Tm.kids] at h; subst h; simp only [Tm.size]; omega
   | 1 => simp [Tm.kids] at h; subst h; simp only [Tm.size]; omega
   | j + 2 => simp [Tm.kids] at h
theorem Tm.marks_len : ∀ a : Tm, a.marks.length = a.size
 | .step l h => rfl
 | .wth a h => by simp [Tm.marks, Tm.size, Tm.marks_len a]
 | .thn a b => by simp [Tm.marks, Tm.size, Tm.marks_len a, Tm.marks_len b]; omega
 | .bth a b => by simp [Tm.marks, Tm.size, Tm.marks_len a, Tm.marks_len b]; omega
theorem Tm.marks_kids (a : Tm) : a.marks = (a.kids.map Tm.marks).flatten ++ [a.mark] := by cases a <;> simp [Tm.marks, Tm.kids, Tm.mark]
theorem Tm.kids_len (a : Tm) : a.kids.length ≤ 2 := by cases a <;> simp [Tm.kids]
end Pp
/-- A part's box. -/
structure PBox (w : World) (S : Nat → Prop) (p : Nat) (m : Mk) (A : Option Addr) (n c : Nat) : Prop where
 at_ : S p
 c0 : w.cell? ⟨p, 0, none⟩ = some (.int .i64 m.k)
 c1 : w.cell? ⟨p, 1, none⟩ = some (.int .i64 m.l)
 c2 : w.cell? ⟨p, 2, none⟩ = some (.int .i64 m.h)
 c3 : w.cell? ⟨p, 3, none⟩ = some (.slice A n c)
/-- The part lies at p, all of it in the blocks S. -/
def PartAt (w : World) (S : Nat → Prop) : Tm → Nat → Prop
 | .step l h, p => ∃ A c, PBox w S p ⟨0, l, h⟩ A 0 c
 | .wth a h, p => ∃ A c b o q, PBox w S p ⟨3, 0, h⟩ A 1 c ∧ A = some ⟨b, o, none⟩ ∧ S b ∧ w.cell? ⟨b, o, none⟩ = some (ptr q) ∧ PartAt w S a q
 | .thn a a', p => ∃ A c b o q q', PBox w S p ⟨1, 0, 0⟩ A 2 c ∧ A = some ⟨b, o, none⟩ ∧ S b ∧ w.cell? ⟨b, o, none⟩ = some (ptr q) ∧ w.cell? ⟨b, o + 1, none⟩ = some (ptr q') ∧ PartAt w S a q ∧ PartAt w S a' q'
 | .bth a a', p => ∃ A c b o q q', PBox w S p ⟨2, 0, 0⟩ A 2 c ∧ A = some ⟨b, o, none⟩ ∧ S b ∧ w.cell? ⟨b, o, none⟩ = some (ptr q) ∧ w.cell? ⟨b, o + 1, none⟩ = some (ptr q') ∧ PartAt w S a q ∧ PartAt w S a' q'
theorem PBox.kept {w w' : World} {S S' : Nat → Prop} {p : Nat} {m : Mk} {A : Option Addr} {n c : Nat} (h : PBox w S p m A n c) (hS : ∀ b, S b → S' b) (hc : ∀ b o v, S b → w.cell? ⟨b, o, none⟩ = some v → w'.cell? ⟨b, o, none⟩ = some v) : PBox w' S' p m A n c :=
 ⟨hS _ h.at_, hc _ _ _ h.at_ h.c0, hc _ _ _ h.at_ h.c1, hc _ _ _ h.at_ h.c2, hc _ _ _ h.at_ h.c3⟩
theorem PartAt.kept {w w' : World} {S S' : Nat → Prop} (hS : ∀ b, S b → S' b) (hc : ∀ b o v, S b → w.cell? ⟨b, o, none⟩ = some v → w'.cell? ⟨b, o, none⟩ = some v) : ∀ {a : Tm} {p : Nat}, PartAt w S a p → PartAt w' S' a p
 | .step l h, p, ⟨A, c, hb⟩ => ⟨A, c, hb.kept hS hc⟩
 | .wth a h, p, ⟨A, c, b, o, q, hb, hA, h1, h2, h3⟩ => ⟨A, c, b, o, q, hb.kept hS hc, hA, hS _ h1, hc _ _ _ h1 h2, PartAt.kept hS hc h3⟩
 | .thn a a', p, ⟨A, c, b, o, q, q', hb, hA, h1, h2, h3, h4, h5⟩ => ⟨A, c, b, o, q, q', hb.kept hS hc, hA, hS _ h1, hc _ _ _ h1 h2, hc _ _ _ h1 h3, PartAt.kept hS hc h4, PartAt.kept hS hc h5⟩
 | .bth a a', p, ⟨A, c, b, o, q, q', hb, hA, h1, h2, h3, h4, h5⟩ => ⟨A, c, b, o, q, q', hb.kept hS hc, hA, hS _ h1, hc _ _ _ h1 h2, hc _ _ _ h1 h3, PartAt.kept hS hc h4, PartAt.kept hS hc h5⟩
theorem PartAt.mono {w : World} {S S' : Nat → Prop} {a : Tm} {p : Nat} (h : PartAt w S a p) (hS : ∀ b, S b → S' b) : PartAt w S' a p := h.kept hS (fun _ _ _ _ h => h)
theorem PartAt.at_ {w : World} {S : Nat → Prop} : ∀ {a : Tm} {p : Nat}, PartAt w S a p → S p
 | .step l h, p, ⟨A, c, hb⟩ => hb.at_
 | .wth a h, p, ⟨A, c, b, o, q, hb, _⟩ => hb.at_
 | .thn a a', p, ⟨A, c, b, o, q, q', hb, _⟩ => hb.at_
 | .bth a a', p, ⟨A, c, b, o, q, q', hb, _⟩ => hb.at_
/-- The part, opened. -/
theorem PartAt.opened {w : World} {S : Nat → Prop} : ∀ {a : Tm} {p : Nat}, PartAt w S a p → ∃ A c b o, PBox w S p a.mark A a.kids.length c ∧ (0 < a.kids.length → A = some ⟨b, o, none⟩ ∧ S b) ∧ ∀ j k, a.kids[j]? = some k → ∃ q, w.cell? ⟨b, o + j, none⟩ = some (ptr q) ∧ PartAt w S k q
 | .step l h, p, ⟨A, c, hb⟩ => ⟨A, c, 0, 0, hb, fun h => absurd h (by simp [Tm.kids]), fun j k h => by simp [Tm.kids] at h⟩
 | .wth a h, p, ⟨A, c, b, o, q, hb, hA, h1, h2, h3⟩ => ⟨A, c, b, o, hb, fun _ => ⟨hA, h1⟩, fun j k h => by
    match j with
    | 0 => simp [Tm.kids] at h; subst h; exact ⟨q, h2, h3⟩
    | j + 1 => simp [Tm.kids] at h⟩
 | .thn a a', p, ⟨A, c, b, o, q, q', hb, hA, h1, h2, h3, h4, h5⟩ => ⟨A, c, b, o, hb, fun _ => ⟨hA, h1⟩, fun j k h => by
    match j with
    | 0 => simp [Tm.kids] at h; subst h; exact ⟨q, h2, h4⟩
    | 1 => simp [Tm.kids] at h; subst h; exact ⟨q', h3, h5⟩
    | j + 2 => simp [Tm.kids] at h⟩
 | .bth a a', p, ⟨A, c, b, o, q, q', hb, hA, h1, h2, h3, h4, h5⟩ => ⟨A, c, b, o, hb, fun _ => ⟨hA, h1⟩, fun j k h => by
    match j with
    | 0 => simp [Tm.kids] at h; subst h; exact ⟨q, h2, h4⟩
    | 1 => simp [Tm.kids] at h; subst h; exact ⟨q', h3, h5⟩
    | j + 2 => simp [Tm.kids] at h⟩
/-- A part is made. -/
theorem PartAt.made {w : World} {S : Nat → Prop} : ∀ {a : Tm} {p : Nat} {A : Option Addr} {c b o : Nat}, PBox w S p a.mark A a.kids.length c → (0 < a.kids.length → A = some ⟨b, o, none⟩ ∧ S b) → (∀ j k, a.kids[j]? = some k → ∃ q, w.cell? ⟨b, o + j, none⟩ = some (ptr q) ∧ PartAt w S k q) → PartAt w S a p
 | .step l h, p, A, c, b, o, hb, _, _ => ⟨A, c, hb⟩
 | .wth a h, p, A, c, b, o, hb, hA, hk => by
   obtain ⟨q, h2, h3⟩ := hk 0 a rfl
   obtain ⟨e, h1⟩ := hA (by simp [Tm.kids])
   exact ⟨A, c, b, o, q, hb, e, h1, h2, h3⟩
 | .thn a a', p, A, c, b, o, hb, hA, hk => by
   obtain ⟨q, h2, h3⟩ := hk 0 a rfl
   obtain ⟨q', h4, h5⟩ := hk 1 a' rfl
   obtain ⟨e, h1⟩ := hA (by simp [Tm.kids])
   exact ⟨A, c, b, o, q, q', hb, e, h1, h2, h4, h3, h5⟩
 | .bth a a', p, A, c, b, o, hb, hA, hk => by
   obtain ⟨q, h2, h3⟩ := hk 0 a rfl
   obtain ⟨q', h4, h5⟩ := hk 1 a' rfl
   obtain ⟨e, h1⟩ := hA (by simp [Tm.kids])
   exact ⟨A, c, b, o, q, q', hb, e, h1, h2, h4, h3, h5⟩
/-- A part that is read. -/
abbrev PtR (w : World) (B : Nat) (a : Tm) (p : Nat) : Prop := PartAt w (fun b => b < B) a p
theorem PtR.below {w w' : World} {B : Nat} {a : Tm} {p : Nat} (h : PtR w B a p) (hb : Below B w w') : PtR w' B a p :=
 h.kept (fun _ h => h) (fun b o v h hv => (hb.cell (p := ⟨b, o, none⟩) h).trans hv)
theorem PtR.more {w : World} {B B' : Nat} {a : Tm} {p : Nat} (h : PtR w B a p) (hB : B ≤ B') : PtR w B' a p := h.mono (fun _ h => Nat.lt_of_lt_of_le h hB)
theorem PtR.next {w w' : World} {a : Tm} {p : Nat} (h : PtR w w.heap.size a p) (hb : Below w.heap.size w w') : PtR w' w'.heap.size a p := (h.below hb).more hb.size
end Go.Proofs.YtmnajkhoacogjaaGreatDoor
