/-
 Plain: the text of a term; how the reference reads one.
 Plain: the reference reads the text of a term.
 Plain: the text of a plan tells the plan; who reads a term.
 Plain: desks, and what a deed does.
 Plain: what was done can be undone; runs of deeds.
 Plain: how the program reads a term.
-/
import Derived.Test.YtmnajkhoacogjaaGreatDoorP50
import Derived.Test.YtmnajkhoacogjaaGreatDoorPure
import Derived.Test.YtmnajkhoacogjaaGreatDoorP2
import Derived.Test.YtmnajkhoacogjaaGreatDoorL1
import Derived.Test.YtmnajkhoacogjaaGreatDoorL88
namespace Go.Proofs.YtmnajkhoacogjaaGreatDoor
set_option linter.unusedVariables false
set_option linter.unusedSimpArgs false

namespace Pp

/-- A digit. -/
def dg (k : Nat) : UInt8 := UInt8.ofNat (48 + k)
def num2 (k : Nat) : List UInt8 := if k < 10 then [dg k] else [dg (k / 10), dg (k % 10)]
/-- A number of -99 to 99 in decimal. -/
def num (n : Int) : List UInt8 := if n < 0 then 45 :: num2 (-n).toNat else num2 n.toNat
def Tm.binds : Tm → Nat
 | .thn _ _ => 0
 | .bth _ _ => 1
 | _ => 2
def brk (q : Bool) (l : List UInt8) : List UInt8 := if q then 40 :: (l ++ [41]) else l
/-- The text of a part. -/
def Tm.text : Tm → List UInt8
 | .step l h => if l = h then num l else num l ++ 45 :: num h
 | .wth a h => brk (decide (a.binds < 2)) a.text ++ 60 :: num h
 | .thn a b => a.text ++ 59 :: brk (decide (b.binds < 1)) b.text
 | .bth a b => brk (decide (a.binds < 1)) a.text ++ 38 :: brk (decide (b.binds < 2)) b.text
def termText (t : List Mk) : List UInt8 := match termOf t with
 | some a => a.text
 | none => []

def isDig (c : UInt8) : Bool := decide (48 ≤ c.toNat ∧ c.toNat ≤ 57)
def valD (n : Int) : List UInt8 → Int
 | [] => n
 | c :: l => valD (10 * n + ((c.toNat : Int) - 48)) l
/-- Of digits alone: a number of one to six digits without leading zeros. -/
def digs (l : List UInt8) : Option Int :=
 if 1 ≤ l.length ∧ l.length ≤ 6 ∧ ¬ (l.head? = some 48 ∧ 1 < l.length) then some (valD 0 l) else none
/-- The digits from a place on. -/
def digAt (s : List UInt8) (n : Nat) : List UInt8 := (s.drop n).takeWhile isDig
def numA (s : List UInt8) (n : Int) : Int × Int := match digs (digAt s n.toNat) with
 | some v => (v, n + (digAt s n.toNat).length)
 | none => (0, -1)
/-- At a place stands a byte. -/
def ch (s : List UInt8) (n : Int) (c : UInt8) : Bool := decide (0 ≤ n ∧ s[n.toNat]? = some c)

inductive Md where | thn | thnL | bth | bthL | atm | atmL

def hiA (s : List UInt8) (a : Int × Int) : Int × Int := if 0 < a.2 ∧ ch s a.2 45 = true then numA s (a.2 + 1) else a

/-- How the reference reads. -/
inductive Sp (s : List UInt8) : Md → List Mk → Int → List Mk → Int → Prop where
 | thn {n t1 n1 t n'} : Sp s .bth [] n t1 n1 → Sp s .thnL t1 n1 t n' → Sp s .thn [] n t n'
 | thnM {t n t1 n1 t' n'} : ch s n 59 = true → Sp s .bth [] (n + 1) t1 n1 → Sp s .thnL (t ++ t1 ++ [⟨1, 0, 0⟩]) n1 t' n' → Sp s .thnL t n t' n'
 | thnD {t n} : ch s n 59 = false → Sp s .thnL t n t n
 | bth {n t1 n1 t n'} : Sp s .atm [] n t1 n1 → Sp s .bthL t1 n1 t n' → Sp s .bth [] n t n'
 | bthM {t n t1 n1 t' n'} : ch s n 38 = true → Sp s .atm [] (n + 1) t1 n1 → Sp s .bthL (t ++ t1 ++ [⟨2, 0, 0⟩]) n1 t' n' → Sp s .bthL t n t' n'
 | bthD {t n} : ch s n 38 = false → Sp s .bthL t n t n
 | atmX {n} : n < 0 ∨ (s.length : Int) ≤ n → Sp s .atm [] n [] (-1)
 | atmB {n t1 n1 t' n'} : ch s n 40 = true → Sp s .thn [] (n + 1) t1 n1 → ch s n1 41 = true → Sp s .atmL t1 (n1 + 1) t' n' → Sp s .atm [] n t' n'
 | atmF {n t1 n1} : ch s n 40 = true → Sp s .thn [] (n + 1) t1 n1 → ch s n1 41 = false → Sp s .atm [] n t1 (-1)
 | atmN {n t' n'} : 0 ≤ n ∧ n < (s.length : Int) → ch s n 40 = false → Sp s .atmL [⟨0, (numA s n).1, (hiA s (numA s n)).1⟩] (hiA s (numA s n)).2 t' n' → Sp s .atm [] n t' n'
 | atmM {t n t' n'} : ch s n 60 = true → Sp s .atmL (t ++ [⟨3, 0, (numA s (n + 1)).1⟩]) (numA s (n + 1)).2 t' n' → Sp s .atmL t n t' n'
 | atmD {t n} : ch s n 60 = false → Sp s .atmL t n t n

theorem ch_lt {s : List UInt8} {n : Int} {c : UInt8} (h : ch s n c = true) : 0 ≤ n ∧ n < (s.length : Int) := by
 unfold ch at h
 obtain ⟨h0, h1⟩ := of_decide_eq_true h
 have := (List.getElem?_eq_some_iff.1 h1).1
 omega
theorem Sp.det {s : List UInt8} {md : Md} {t t1 t2 : List Mk} {n n1 n2 : Int} (h1 : Sp s md t n t1 n1) (h2 : Sp s md t n t2 n2) : t1 = t2 ∧ n1 = n2 := by
 induction h1 generalizing t2 n2 with
 | thn _ _ ih1 ih2 =>
   cases h2 with
   | thn a b =>
     obtain ⟨rfl, rfl⟩ := ih1 a
     exact ih2 b
 | thnM c _ _ ih1 ih2 =>
   cases h2 with
   | thnM c' a b =>
     obtain ⟨rfl, rfl⟩ := ih1 a
     exact ih2 b
   | thnD c' => rw [c] at c'; cases c'
 | thnD c =>
   cases h2 with
   | thnM c' a b => rw [c] at c'; cases c'
   | thnD c' => exact ⟨rfl, rfl⟩
 | bth _ _ ih1 ih2 =>
   cases h2 with
   | bth a b =>
     obtain ⟨rfl, rfl⟩ := ih1 a
     exact ih2 b
 | bthM c _ _ ih1 ih2 =>
   cases h2 with
   | bthM c' a b =>
     obtain ⟨rfl, rfl⟩ := ih1 a
     exact ih2 b
   | bthD c' => rw [c] at c'; cases c'
 | bthD c =>
   cases h2 with
   | bthM c' a b => rw [c] at c'; cases c'
   | bthD c' => exact ⟨rfl, rfl⟩
 | atmX c =>
   cases h2 with
   | atmX _ => exact ⟨rfl, rfl⟩
   | atmB c' _ _ _ => have := ch_lt c'; omega
   | atmF c' _ _ => have := ch_lt c'; omega
   | atmN c' _ _ => omega
 | atmB c _ c1 _ ih1 ih2 =>
   cases h2 with
   | atmX c' => have := ch_lt c; omega
   | atmB _ a _ b =>
     obtain ⟨rfl, rfl⟩ := ih1 a
     exact ih2 b
   | atmF _ a c' =>
     obtain ⟨rfl, rfl⟩ := ih1 a
     rw [c1] at c'; cases c'
   | atmN _ c' _ => rw [c] at c'; cases c'
 | atmF c _ c1 ih1 =>
   cases h2 with
   | atmX c' => have := ch_lt c; omega
   | atmB _ a c' b =>
     obtain ⟨rfl, rfl⟩ := ih1 a
     rw [c1] at c'; cases c'
   | atmF _ a _ =>
     obtain ⟨rfl, rfl⟩ := ih1 a
     exact ⟨rfl, rfl⟩
   | atmN _ c' _ => rw [c] at c'; cases c'
 | atmN c c1 _ ih =>
   cases h2 with
   | atmX c' => omega
   | atmB c' _ _ _ => rw [c1] at c'; cases c'
   | atmF c' _ _ => rw [c1] at c'; cases c'
   | atmN _ _ a => exact ih a
 | atmM c _ ih =>
   cases h2 with
   | atmM _ a => exact ih a
   | atmD c' => rw [c] at c'; cases c'
 | atmD c =>
   cases h2 with
   | atmM c' a => rw [c] at c'; cases c'
   | atmD _ => exact ⟨rfl, rfl⟩
theorem numA_rng {s : List UInt8} {n : Int} (h : 0 ≤ n ∧ n ≤ (s.length : Int)) : (numA s n).2 = -1 ∨ (n + 1 ≤ (numA s n).2 ∧ (numA s n).2 ≤ (s.length : Int)) := by
 unfold numA
 have hl : (digAt s n.toNat).length ≤ s.length - n.toNat := by
  unfold digAt
  have := (List.takeWhile_sublist (l := s.drop n.toNat) isDig).length_le
  rwa [List.length_drop] at this
 split
 ·rename_i v hv
  right
  unfold digs at hv
  split at hv
  ·dsimp only; omega
  ·cases hv
 ·exact .inl rfl
theorem hiA_rng {s : List UInt8} {n : Int} {a : Int × Int} (h : 0 ≤ n) (ha : a.2 = -1 ∨ (n ≤ a.2 ∧ a.2 ≤ (s.length : Int))) : (hiA s a).2 = -1 ∨ (n ≤ (hiA s a).2 ∧ (hiA s a).2 ≤ (s.length : Int)) := by
 unfold hiA
 split
 ·rename_i h1
  have := ch_lt h1.2
  have := numA_rng (s := s) (n := a.2 + 1) (by omega)
  omega
 ·exact ha
theorem Sp.rng {s : List UInt8} {md : Md} {t t' : List Mk} {n n' : Int} (h : Sp s md t n t' n') (hn : n = -1 ∨ (0 ≤ n ∧ n ≤ (s.length : Int))) :
  (n = -1 ∧ n' = -1 ∧ t'.length ≤ t.length) ∨ (0 ≤ n ∧ n' = -1 ∧ (t'.length : Int) ≤ t.length + (s.length - n)) ∨ (0 ≤ n ∧ n ≤ n' ∧ n' ≤ (s.length : Int) ∧ (t'.length : Int) ≤ t.length + (n' - n)) := by
 induction h with
 | thn _ _ ih1 ih2 =>
   have h1 := ih1 hn
   have h2 := ih2 (by omega)
   simp only [List.length_nil] at *
   omega
 | thnM c _ _ ih1 ih2 =>
   have := ch_lt c
   have h1 := ih1 (by omega)
   have h2 := ih2 (by omega)
   simp only [List.length_nil, List.length_append, List.length_cons] at *
   omega
 | thnD c => (clear c; omega)
 | bth _ _ ih1 ih2 =>
   have h1 := ih1 hn
   have h2 := ih2 (by omega)
   simp only [List.length_nil] at *
   omega
 | bthM c _ _ ih1 ih2 =>
   have := ch_lt c
   have h1 := ih1 (by omega)
   have h2 := ih2 (by omega)
   simp only [List.length_nil, List.length_append, List.length_cons] at *
   omega
 | bthD c => (clear c; omega)
 | atmX c => (simp only [List.length_nil, true_and]; omega)
 | atmB c _ c1 _ ih1 ih2 =>
   have := ch_lt c
   have := ch_lt c1
   have h1 := ih1 (by omega)
   have h2 := ih2 (by omega)
   simp only [List.length_nil] at *
   omega
 | atmF c _ c1 ih1 =>
   have := ch_lt c
   have h1 := ih1 (by omega)
   simp only [List.length_nil, true_and] at *
   omega
 | atmN c c1 _ ih =>
   rename_i n _ _ _
   have h0 := numA_rng (s := s) (n := n) (by omega)
   have h1 := hiA_rng (s := s) (n := n + 1) (a := numA s n) (by omega) (by omega)
   have h2 := ih (by omega)
   simp only [List.length_nil, List.length_cons] at *
   omega
 | atmM c _ ih =>
   rename_i t n _ _ _
   have := ch_lt c
   have h0 := numA_rng (s := s) (n := n + 1) (by omega)
   have h2 := ih (by omega)
   simp only [List.length_append, List.length_nil, List.length_cons] at *
   omega
 | atmD c => (clear c; omega)

/-! ### A text is read back. -/
theorem ch_mid (pre post : List UInt8) (c : UInt8) : ch (pre ++ c :: post) pre.length c = true := by
 unfold ch
 rw [decide_eq_true_eq]
 refine ⟨by omega, ?_⟩
 rw [Int.toNat_natCast, List.getElem?_append_right (Nat.le_refl _), Nat.sub_self]
 rfl
theorem ch_not (pre post : List UInt8) (c : UInt8) (h : post.head? ≠ some c) : ch (pre ++ post) pre.length c = false := by
 unfold ch
 rw [decide_eq_false_iff_not]
 rintro ⟨-, h1⟩
 rw [Int.toNat_natCast, List.getElem?_append_right (Nat.le_refl _), Nat.sub_self] at h1
 exact h (by rw [List.head?_eq_getElem?]; exact h1)
theorem take_all {ds post : List UInt8} (h1 : ∀ c ∈ ds, isDig c = true) (h2 : ∀ c, post.head? = some c → isDig c = false) : (ds ++ post).takeWhile isDig = ds := by
 induction ds with
 | nil =>
   cases post with
   | nil => rfl
   | cons c post => simp [List.takeWhile, h2 c rfl]
 | cons d ds ih =>
   rw [List.cons_append, List.takeWhile_cons_of_pos (h1 d (by simp)), ih (fun c hc => h1 c (by simp [hc]))]
theorem num_facts : ∀ k : Fin 20, (∀ c ∈ num (k.1 : Int), isDig c = true) ∧ digs (num (k.1 : Int)) = some (k.1 : Int) ∧ (num (k.1 : Int)).head? ≠ some 40 ∧ 1 ≤ (num (k.1 : Int)).length := by decide
theorem num_at (pre post : List UInt8) (v : Int) (hv : 0 ≤ v ∧ v ≤ 19) (h2 : ∀ c, post.head? = some c → isDig c = false) : numA (pre ++ (num v ++ post)) (pre.length : Nat) = (v, (((pre ++ num v).length : Nat) : Int)) := by
 obtain ⟨k, rfl⟩ := Int.eq_ofNat_of_zero_le hv.1
 obtain ⟨f1, f2, f3, f4⟩ := num_facts ⟨k, by omega⟩
 dsimp only at f1 f2 f3 f4
 have hd : digAt (pre ++ (num (k : Int) ++ post)) ((pre.length : Nat) : Int).toNat = num (k : Int) := by
  unfold digAt
  rw [Int.toNat_natCast, List.drop_left, take_all f1 h2]
 unfold numA
 rw [hd]
 show (match digs (num (k : Int)) with | some v => _ | none => _) = _
 rw [f2]
 dsimp only
 rw [List.length_append]
 congr 1
theorem num_head (v : Int) (hv : 0 ≤ v ∧ v ≤ 19) (post : List UInt8) : (num v ++ post).head? ≠ some 40 ∧ ∃ c, (num v ++ post).head? = some c := by
 obtain ⟨k, rfl⟩ := Int.eq_ofNat_of_zero_le hv.1
 obtain ⟨f1, f2, f3, f4⟩ := num_facts ⟨k, by omega⟩
 dsimp only at f3 f4
 cases hn : num (k : Int) with
 | nil => rw [hn] at f4; simp at f4
 | cons c l => rw [hn] at f3; exact ⟨by simpa using f3, c, rfl⟩
end Pp

namespace Pp

def Hd (post bar : List UInt8) : Prop := ∀ c, post.head? = some c → isDig c = false ∧ c ∉ bar
def XA (s : List UInt8) (md mdL : Md) (txt : List UInt8) (ms : List Mk) (bar : List UInt8) : Prop :=
 ∀ pre post t' n', Hd post bar → s = pre ++ (txt ++ post) → Sp s mdL ms ((pre ++ txt).length : Nat) t' n' → Sp s md [] (pre.length : Nat) t' n'

theorem Hd.cons {c : UInt8} {l bar : List UInt8} (h : isDig c = false) (h2 : c ∉ bar) : Hd (c :: l) bar := fun c' hc => by
 simp at hc; subst hc; exact ⟨h, h2⟩
theorem Hd.less {post bar bar' : List UInt8} (h : Hd post bar) (h2 : ∀ c ∈ bar', c ∈ bar) : Hd post bar' := fun c hc => ⟨(h c hc).1, fun e => (h c hc).2 (h2 c e)⟩
theorem ch_end {s pre txt post : List UInt8} {bar : List UInt8} (hs : s = pre ++ (txt ++ post)) (h : Hd post bar) (c : UInt8) (hc : c ∈ bar) : ch s (((pre ++ txt).length : Nat) : Int) c = false := by
 subst hs
 rw [← List.append_assoc]
 exact ch_not _ _ _ (fun e => (h c e).2 hc)
theorem ch_at {s pre txt post : List UInt8} {c : UInt8} (hs : s = pre ++ (txt ++ c :: post)) : ch s (((pre ++ txt).length : Nat) : Int) c = true := by
 subst hs
 rw [← List.append_assoc]
 exact ch_mid _ _ _
theorem XA.up1 {s txt : List UInt8} {ms : List Mk} (h : XA s .atm .atmL txt ms [45]) : XA s .bth .bthL txt ms [45, 60] := fun pre post t' n' hp hs hc =>
 .bth (h pre post _ _ (hp.less (by simp)) hs (.atmD (ch_end hs hp 60 (by simp)))) hc
theorem XA.up2 {s txt : List UInt8} {ms : List Mk} (h : XA s .bth .bthL txt ms [45, 60]) : XA s .thn .thnL txt ms [45, 60, 38] := fun pre post t' n' hp hs hc =>
 .thn (h pre post _ _ (hp.less (by simp)) hs (.bthD (ch_end hs hp 38 (by simp)))) hc
theorem pos1 (pre : List UInt8) (c : UInt8) : ((pre.length : Nat) : Int) + 1 = (((pre ++ [c]).length : Nat) : Int) := by simp
theorem XA.brk {s txt : List UInt8} {ms : List Mk} (h : XA s .thn .thnL txt ms [45, 60, 38]) : XA s .atm .atmL (40 :: (txt ++ [41])) ms [45] := fun pre post t' n' hp hs hc => by
 have hs2 : s = (pre ++ [40]) ++ (txt ++ (41 :: post)) := by rw [hs]; simp
 refine .atmB (t1 := ms) (n1 := (((pre ++ [40]) ++ txt).length : Nat)) (by rw [hs]; exact ch_mid _ _ _) ?_ (ch_at hs2) ?_
 ·rw [pos1 pre 40]
  refine h (pre ++ [40]) (41 :: post) _ _ (.cons (by decide) (by decide)) hs2 (.thnD ?_)
  exact ch_end hs2 (bar := [59]) (.cons (by decide) (by decide)) 59 (by simp)
 ·have e : ((((pre ++ [40]) ++ txt).length : Nat) : Int) + 1 = ((pre ++ 40 :: (txt ++ [41])).length : Nat) := by simp; omega
  rw [e]; exact hc

/-- A part, in brackets or not, read as an atom. -/
theorem XA.held2 {s : List UInt8} {a : Tm} (h2 : a.binds = 2 → XA s .atm .atmL a.text a.marks [45]) (h0 : XA s .thn .thnL a.text a.marks [45, 60, 38]) : XA s .atm .atmL (Pp.brk (decide (a.binds < 2)) a.text) a.marks [45] := by
 by_cases hb : a.binds < 2
 ·rw [decide_eq_true hb]; exact h0.brk
 ·rw [decide_eq_false hb]; exact h2 (by cases a <;> simp_all [Tm.binds])
theorem XA.held1 {s : List UInt8} {a : Tm} (h1 : 1 ≤ a.binds → XA s .bth .bthL a.text a.marks [45, 60]) (h0 : XA s .thn .thnL a.text a.marks [45, 60, 38]) : XA s .bth .bthL (Pp.brk (decide (a.binds < 1)) a.text) a.marks [45, 60] := by
 by_cases hb : a.binds < 1
 ·rw [decide_eq_true hb]; exact h0.brk.up1
 ·rw [decide_eq_false hb]; exact h1 (by omega)
theorem hd_dig {post bar : List UInt8} (h : Hd post bar) : ∀ c, post.head? = some c → isDig c = false := fun c hc => (h c hc).1
theorem read_text (s : List UInt8) : ∀ a : Tm, a.fine →
  (a.binds = 2 → XA s .atm .atmL a.text a.marks [45]) ∧ (1 ≤ a.binds → XA s .bth .bthL a.text a.marks [45, 60]) ∧ XA s .thn .thnL a.text a.marks [45, 60, 38] := by
 intro a
 induction a with
 | step l h =>
   intro hf
   obtain ⟨f0, f1, f2⟩ := hf
   have hA : XA s .atm .atmL (Tm.step l h).text (Tm.step l h).marks [45] := fun pre post t' n' hp hs hc => by
    by_cases e : l = h
    ·subst e
     have ht : (Tm.step l l).text = num l := by simp [Tm.text]
     rw [ht] at hs hc
     have hn : numA s (pre.length : Nat) = (l, (((pre ++ num l).length : Nat) : Int)) := by rw [hs]; exact num_at pre post l (by omega) (hd_dig hp)
     have hh : hiA s (numA s (pre.length : Nat)) = (l, (((pre ++ num l).length : Nat) : Int)) := by
      rw [hn]; unfold hiA
      rw [if_neg]
      rintro ⟨-, h1⟩
      rw [show ((l, (((pre ++ num l).length : Nat) : Int)) : Int × Int).2 = (((pre ++ num l).length : Nat) : Int) from rfl, ch_end hs hp 45 (by simp)] at h1
      cases h1
     obtain ⟨k1, c, k2⟩ := num_head l (by omega) post
     refine .atmN ⟨by omega, ?_⟩ (by rw [hs]; exact ch_not _ _ _ k1) ?_
     ·rw [hs, List.length_append]
      have : 0 < (num l ++ post).length := by
       cases hx : num l ++ post with
       | nil => rw [hx] at k2; cases k2
       | cons c l => simp
      omega
     ·rw [hh, hn]; exact hc
    ·have ht : (Tm.step l h).text = num l ++ 45 :: num h := by simp [Tm.text, e]
     rw [ht] at hs hc
     have hs1 : s = pre ++ (num l ++ (45 :: (num h ++ post))) := by rw [hs]; simp
     have hs2 : s = (pre ++ num l ++ [45]) ++ (num h ++ post) := by rw [hs]; simp
     have hn : numA s (pre.length : Nat) = (l, (((pre ++ num l).length : Nat) : Int)) := by rw [hs1]; exact num_at pre _ l (by omega) (fun c hc => by simp at hc; subst hc; decide)
     have hn2 : numA s ((((pre ++ num l).length : Nat) : Int) + 1) = (h, (((pre ++ (num l ++ 45 :: num h)).length : Nat) : Int)) := by
      rw [pos1 (pre ++ num l) 45, hs2, num_at _ post h (by omega) (hd_dig hp)]
      simp
     have hh : hiA s (numA s (pre.length : Nat)) = (h, (((pre ++ (num l ++ 45 :: num h)).length : Nat) : Int)) := by
      rw [hn]; unfold hiA
      obtain ⟨-, -, -, f4⟩ : True ∧ True ∧ True ∧ 1 ≤ (num l).length := by
       obtain ⟨k, rfl⟩ := Int.eq_ofNat_of_zero_le f0
       exact ⟨trivial, trivial, trivial, (num_facts ⟨k, by omega⟩).2.2.2⟩
      rw [if_pos ⟨by simp only [List.length_append]; omega, ch_at hs1⟩]
      exact hn2
     obtain ⟨k1, c, k2⟩ := num_head l (by omega) (45 :: (num h ++ post))
     refine .atmN ⟨by omega, ?_⟩ (by rw [hs1]; exact ch_not _ _ _ k1) ?_
     ·rw [hs1]; simp only [List.length_append, List.length_cons]; omega
     ·rw [hh, hn]; exact hc
   exact ⟨fun _ => hA, fun _ => hA.up1, hA.up1.up2⟩
 | wth a h ih =>
   intro hf
   obtain ⟨f0, f1, f2⟩ := hf
   obtain ⟨i2, i1, i0⟩ := ih f0
   have hH := XA.held2 i2 i0
   have hA : XA s .atm .atmL (Tm.wth a h).text (Tm.wth a h).marks [45] := fun pre post t' n' hp hs hc => by
    obtain ⟨x, hx⟩ : ∃ x, Pp.brk (decide (a.binds < 2)) a.text = x := ⟨_, rfl⟩
    have ht : (Tm.wth a h).text = x ++ 60 :: num h := by rw [← hx]; rfl
    rw [hx] at hH
    rw [ht] at hs hc
    have hs1 : s = pre ++ (x ++ (60 :: (num h ++ post))) := by rw [hs]; simp
    have hs2 : s = (pre ++ x ++ [60]) ++ (num h ++ post) := by rw [hs]; simp
    have hn2 : numA s ((((pre ++ x).length : Nat) : Int) + 1) = (h, (((pre ++ (x ++ 60 :: num h)).length : Nat) : Int)) := by
     rw [pos1 (pre ++ x) 60, hs2, num_at _ post h (by omega) (hd_dig hp)]
     simp
    refine hH pre (60 :: (num h ++ post)) t' n' (.cons (by decide) (by decide)) hs1 (.atmM (ch_at hs1) ?_)
    rw [hn2]; exact hc
   exact ⟨fun _ => hA, fun _ => hA.up1, hA.up1.up2⟩
 | thn a b iha ihb =>
   intro hf
   obtain ⟨f0, f1⟩ := hf
   obtain ⟨i2, i1, i0⟩ := iha f0
   obtain ⟨j2, j1, j0⟩ := ihb f1
   have hH := XA.held1 j1 j0
   refine ⟨fun e => by simp [Tm.binds] at e, fun e => by simp [Tm.binds] at e, fun pre post t' n' hp hs hc => ?_⟩
   obtain ⟨x, hx⟩ : ∃ x, Pp.brk (decide (b.binds < 1)) b.text = x := ⟨_, rfl⟩
   have ht : (Tm.thn a b).text = a.text ++ 59 :: x := by rw [← hx]; rfl
   rw [hx] at hH
   rw [ht] at hs hc
   have hs1 : s = pre ++ (a.text ++ (59 :: (x ++ post))) := by rw [hs]; simp
   have hs2 : s = (pre ++ a.text ++ [59]) ++ (x ++ post) := by rw [hs]; simp
   have e : (((pre ++ a.text ++ [59]) ++ x).length : Nat) = (pre ++ (a.text ++ 59 :: x)).length := by simp
   refine i0 pre (59 :: (x ++ post)) t' n' (.cons (by decide) (by decide)) hs1 (.thnM (t1 := b.marks) (n1 := (((pre ++ a.text ++ [59]) ++ x).length : Nat)) (ch_at hs1) ?_ ?_)
   ·rw [pos1 (pre ++ a.text) 59]
    exact hH _ post _ _ (hp.less (by simp)) hs2 (.bthD (ch_end hs2 hp 38 (by simp)))
   ·rw [e]; exact hc
 | bth a b iha ihb =>
   intro hf
   obtain ⟨f0, f1⟩ := hf
   obtain ⟨i2, i1, i0⟩ := iha f0
   obtain ⟨j2, j1, j0⟩ := ihb f1
   have hG := XA.held1 i1 i0
   have hH := XA.held2 j2 j0
   have hB : XA s .bth .bthL (Tm.bth a b).text (Tm.bth a b).marks [45, 60] := fun pre post t' n' hp hs hc => by
    obtain ⟨x, hx⟩ : ∃ x, Pp.brk (decide (b.binds < 2)) b.text = x := ⟨_, rfl⟩
    obtain ⟨y, hy⟩ : ∃ y, Pp.brk (decide (a.binds < 1)) a.text = y := ⟨_, rfl⟩
    have ht : (Tm.bth a b).text = y ++ 38 :: x := by rw [← hx, ← hy]; rfl
    rw [hx] at hH
    rw [hy] at hG
    rw [ht] at hs hc
    have hs1 : s = pre ++ (y ++ (38 :: (x ++ post))) := by rw [hs]; simp
    have hs2 : s = (pre ++ y ++ [38]) ++ (x ++ post) := by rw [hs]; simp
    have e : (((pre ++ y ++ [38]) ++ x).length : Nat) = (pre ++ (y ++ 38 :: x)).length := by simp
    refine hG pre (38 :: (x ++ post)) t' n' (.cons (by decide) (by decide)) hs1 (.bthM (t1 := b.marks) (n1 := (((pre ++ y ++ [38]) ++ x).length : Nat)) (ch_at hs1) ?_ ?_)
    ·rw [pos1 (pre ++ y) 38]
     exact hH _ post _ _ (hp.less (by simp)) hs2 (.atmD (ch_end hs2 hp 60 (by simp)))
    ·rw [e]; exact hc
   exact ⟨fun e => by simp [Tm.binds] at e, fun _ => hB, hB.up2⟩
end Pp

namespace Pp

/-- The part of a text of a plan that tells a bound. -/
def bTxt (b : Bd) : List UInt8 := 32 :: (num b.f ++ 58 :: (num b.t ++ 58 :: num b.m))
def bsTxt : List Bd → List UInt8
 | [] => []
 | b :: bs => bTxt b ++ bsTxt bs
def planText (p : Pl) : List UInt8 := num p.n ++ bsTxt p.bs

def unnum : List UInt8 → Int
 | 45 :: l => - valD 0 l
 | l => valD 0 l
set_option maxRecDepth 100000 in
set_option maxHeartbeats 2000000 in
theorem num_back : ∀ i : Fin 199, unnum (num ((i.1 : Int) - 99)) = (i.1 : Int) - 99 ∧ ¬ (32 ∈ num ((i.1 : Int) - 99)) ∧ ¬ (58 ∈ num ((i.1 : Int) - 99)) := by decide
theorem num_f {v : Int} (h : -99 ≤ v ∧ v ≤ 99) : unnum (num v) = v ∧ 32 ∉ num v ∧ 58 ∉ num v := by
 have := num_back ⟨(v + 99).toNat, by omega⟩
 dsimp only at this
 rw [show (((v + 99).toNat : Nat) : Int) - 99 = v by omega] at this
 exact this
theorem num_inj {v u : Int} (hv : -99 ≤ v ∧ v ≤ 99) (hu : -99 ≤ u ∧ u ≤ 99) (h : num v = num u) : v = u := by
 rw [← (num_f hv).1, ← (num_f hu).1, h]
theorem sep_inj {c : UInt8} : ∀ {l1 l2 x y : List UInt8}, c ∉ l1 → c ∉ l2 → l1 ++ c :: x = l2 ++ c :: y → l1 = l2 ∧ x = y
 | [], [], x, y, _, _, h => by simpa using h
 | [], b :: l2, x, y, _, h2, h => by
   simp at h
   exact absurd (by rw [h.1]; simp) h2
 | a :: l1, [], x, y, h1, _, h => by
   simp at h
   exact absurd (by rw [← h.1]; simp) h1
 | a :: l1, b :: l2, x, y, h1, h2, h => by
   simp only [List.cons_append, List.cons.injEq] at h
   obtain ⟨rfl, h⟩ := h
   obtain ⟨e1, e2⟩ := sep_inj (fun e => h1 (by simp [e])) (fun e => h2 (by simp [e])) h
   exact ⟨by rw [e1], e2⟩
theorem bsTxt_head : ∀ bs : List Bd, ∃ x, bsTxt bs ++ [32] = 32 :: x
 | [] => ⟨[], rfl⟩
 | b :: bs => ⟨(num b.f ++ 58 :: (num b.t ++ 58 :: num b.m)) ++ bsTxt bs ++ [32], rfl⟩
theorem end_inj {l1 l2 : List UInt8} {bs bs' : List Bd} (h1 : 32 ∉ l1) (h2 : 32 ∉ l2) (h : l1 ++ bsTxt bs = l2 ++ bsTxt bs') : l1 = l2 ∧ bsTxt bs = bsTxt bs' := by
 obtain ⟨x, hx⟩ := bsTxt_head bs
 obtain ⟨y, hy⟩ := bsTxt_head bs'
 have e : l1 ++ 32 :: x = l2 ++ 32 :: y := by rw [← hx, ← hy, ← List.append_assoc, h, List.append_assoc]
 obtain ⟨rfl, rfl⟩ := sep_inj h1 h2 e
 exact ⟨rfl, List.append_cancel_left h⟩
def bdSm (b : Bd) : Prop := (-99 ≤ b.f ∧ b.f ≤ 99) ∧ (-99 ≤ b.t ∧ b.t ≤ 99) ∧ (-99 ≤ b.m ∧ b.m ≤ 99)
theorem bsTxt_inj : ∀ {bs bs' : List Bd}, (∀ b ∈ bs, bdSm b) → (∀ b ∈ bs', bdSm b) → bsTxt bs = bsTxt bs' → bs = bs'
 | [], [], _, _, _ => rfl
 | [], b :: bs, _, _, h => by simp [bsTxt, bTxt] at h
 | b :: bs, [], _, _, h => by simp [bsTxt, bTxt] at h
 | a :: bs, b :: bs', h1, h2, h => by
   obtain ⟨a1, a2, a3⟩ := h1 a (by simp)
   obtain ⟨b1, b2, b3⟩ := h2 b (by simp)
   simp only [bsTxt, bTxt, List.cons_append, List.append_assoc, List.cons.injEq, true_and] at h
   obtain ⟨e1, h⟩ := sep_inj (num_f a1).2.2 (num_f b1).2.2 h
   obtain ⟨e2, h⟩ := sep_inj (num_f a2).2.2 (num_f b2).2.2 h
   obtain ⟨e3, h⟩ := end_inj (num_f a3).2.1 (num_f b3).2.1 h
   rw [bsTxt_inj (fun x hx => h1 x (by simp [hx])) (fun x hx => h2 x (by simp [hx])) h, Bd.ext' (num_inj a1 b1 e1) (num_inj a2 b2 e2) (num_inj a3 b3 e3)]
theorem planOk_sm {p : Pl} (h : planOk p = true) : (-99 ≤ p.n ∧ p.n ≤ 99) ∧ ∀ b ∈ p.bs, bdSm b := by
 unfold planOk at h
 simp only [Bool.and_eq_true, decide_eq_true_eq, inB_iff, List.all_eq_true] at h
 obtain ⟨⟨h1, h2⟩, h3⟩ := h
 refine ⟨by omega, fun b hb => ?_⟩
 have := bdOk_iff.1 (h3 b hb)
 unfold bdSm
 omega
theorem planText_inj {p q : Pl} (hp : planOk p = true) (hq : planOk q = true) (h : planText p = planText q) : p = q := by
 obtain ⟨p1, p2⟩ := planOk_sm hp
 obtain ⟨q1, q2⟩ := planOk_sm hq
 obtain ⟨e1, h⟩ := end_inj (num_f p1).2.1 (num_f q1).2.1 h
 have e1 := num_inj p1 q1 e1
 have e2 := bsTxt_inj p2 q2 h
 cases p; cases q
 simp_all

/-! ### Who reads a term. -/
/-- The term whose text a text is. -/
def IsRead (rt : List UInt8 → Option (List Mk)) : Prop := ∀ s t, rt s = some t ↔ s.length ≤ 120 ∧ ∃ a, termOf t = some a ∧ a.text = s
theorem sp_text {t : List Mk} {a : Tm} (h : termOf t = some a) : Sp a.text .thn [] 0 t a.text.length := by
 obtain ⟨hf, hm, -⟩ := term_back h
 have h1 := (read_text a.text a hf).2.2
 have h2 := h1 [] [] a.marks a.text.length (fun c hc => by simp at hc) (by simp) (.thnD (by
  have := ch_not a.text [] 59 (by simp)
  simpa using this))
 rw [hm] at h2
 exact h2
theorem text_inj {t t' : List Mk} {a a' : Tm} (h : termOf t = some a) (h' : termOf t' = some a') (he : a.text = a'.text) : t = t' := by
 have h1 := sp_text h
 have h2 := sp_text h'
 rw [he] at h1
 exact (h1.det h2).1
theorem isRead_ex : ∃ rt, IsRead rt := by
 have h : ∀ s, ∃ o : Option (List Mk), ∀ t, o = some t ↔ s.length ≤ 120 ∧ ∃ a, termOf t = some a ∧ a.text = s := fun s => by
  by_cases hs : s.length ≤ 120 ∧ ∃ t a, termOf t = some a ∧ a.text = s
  ·obtain ⟨hs1, t, a, ht, ha⟩ := hs
   refine ⟨some t, fun t' => ⟨fun e => ?_, fun ⟨_, a', h1, h2⟩ => ?_⟩⟩
   ·injection e with e
    subst e
    exact ⟨hs1, a, ht, ha⟩
   ·rw [text_inj ht h1 (ha.trans h2.symm)]
  ·refine ⟨none, fun t' => ⟨fun e => (by cases e), fun ⟨h1, a, h2, h3⟩ => absurd ⟨h1, t', a, h2, h3⟩ hs⟩⟩
 exact ⟨fun s => (h s).choose, fun s t => (h s).choose_spec t⟩
end Pp

namespace Pp

structure Dk where
 now : Pl
 past : List Pl
structure Dd where
 k : Int
 a : Int
 b : Int
 c : Int
 ws : List UInt8
def deskOk (d : Dk) : Bool := d.past.all planOk && planOk d.now && decide (d.past.length ≤ 8)
def swapP (p : Pl) : Pl := ⟨p.n, p.bs.map fun b => ⟨b.t, b.f, b.m⟩⟩
def lessP (p : Pl) (a : Int) : Pl := if planOk p && inB a 0 ((p.bs.length : Int) - 1) then ⟨p.n, del p.bs a.toNat⟩ else ⟨0, []⟩
/-- What a deed makes of a plan; rt reads terms. -/
def madeP (rt : List UInt8 → Option (List Mk)) (p : Pl) (d : Dd) : Pl :=
 if d.k = 0 ∧ d.a = 0 ∧ d.b = 0 ∧ d.c = 0 ∧ d.ws = [] then ⟨p.n + 1, p.bs⟩
 else if d.k = 1 ∧ d.ws = [] then toldP ⟨p.n, p.bs ++ [⟨d.a, d.b, d.c⟩]⟩
 else if d.k = 2 ∧ d.b = 0 ∧ d.c = 0 ∧ d.ws = [] then lessP p d.a
 else if d.k = 3 ∧ d.a = 0 ∧ d.b = 0 ∧ d.c = 0 ∧ d.ws = [] then trim p
 else if d.k = 4 ∧ d.a = 0 ∧ d.b = 0 ∧ d.c = 0 ∧ d.ws = [] then swapP p
 else if d.k = 5 ∧ d.a = 0 ∧ d.b = 0 ∧ d.c = 0 then planOf ((rt d.ws).getD [])
 else ⟨0, []⟩
def pushP (past : List Pl) (p : Pl) : List Pl := if 8 < (past ++ [p]).length then (past ++ [p]).drop 1 else past ++ [p]
def deskDo (rt : List UInt8 → Option (List Mk)) (d : Dk) (a : Dd) : Dk × Bool :=
 if deskOk d then
  if (a.k = 6 ∧ a.a = 0 ∧ a.b = 0 ∧ a.c = 0 ∧ a.ws = []) ∧ 0 < d.past.length then (⟨d.past.getLastD ⟨0, []⟩, d.past.dropLast⟩, true)
  else if planOk (madeP rt d.now a) = true ∧ planText (madeP rt d.now a) ≠ planText d.now then (⟨madeP rt d.now a, pushP d.past d.now⟩, true)
  else (d, false)
 else (⟨⟨0, []⟩, []⟩, false)

theorem deskOk_iff {d : Dk} : deskOk d = true ↔ (∀ p ∈ d.past, planOk p = true) ∧ planOk d.now = true ∧ d.past.length ≤ 8 := by
 unfold deskOk
 simp [List.all_eq_true, and_assoc]
theorem deskDo_ok (rt : List UInt8 → Option (List Mk)) {d : Dk} (a : Dd) (h : deskOk d = true) : deskOk (deskDo rt d a).1 = true := by
 obtain ⟨h1, h2, h3⟩ := deskOk_iff.1 h
 unfold deskDo
 rw [if_pos h]
 split
 ·rename_i hb
  obtain ⟨-, hl⟩ := hb
  rw [deskOk_iff]
  refine ⟨fun p hp => h1 p (List.dropLast_subset _ hp), ?_, by simp; omega⟩
  have hne : d.past ≠ [] := fun e => by rw [e] at hl; simp at hl
  rw [List.getLastD_eq_getLast?, List.getLast?_eq_some_getLast hne]
  exact h1 _ (List.getLast_mem hne)
 ·split
  ·rename_i hm
   rw [deskOk_iff]
   refine ⟨fun p hp => ?_, hm.1, ?_⟩
   ·have hp' : p ∈ d.past ++ [d.now] := by
     unfold pushP at hp
     dsimp only at hp
     split at hp
     ·exact List.mem_of_mem_drop hp
     ·exact hp
    rcases List.mem_append.1 hp' with h4 | h4
    ·exact h1 p h4
    ·rw [List.mem_singleton.1 h4]; exact h2
   ·unfold pushP
    dsimp only
    split
    ·simp; omega
    ·rename_i h4; simp at h4 ⊢; omega
  ·exact h
end Pp

namespace Pp

def backD : Dd := ⟨6, 0, 0, 0, []⟩
/-- What a deed makes, by its kind, if it is a plan. -/
theorem made_k {rt : List UInt8 → Option (List Mk)} {p : Pl} {a : Dd} (h : planOk (madeP rt p a) = true) :
  (a.k = 0 ∧ madeP rt p a = ⟨p.n + 1, p.bs⟩) ∨ (a.k = 1 ∧ madeP rt p a = toldP ⟨p.n, p.bs ++ [⟨a.a, a.b, a.c⟩]⟩) ∨ (a.k = 2 ∧ madeP rt p a = lessP p a.a) ∨ (a.k = 3 ∧ madeP rt p a = trim p) ∨ (a.k = 4 ∧ madeP rt p a = swapP p) ∨ (a.k = 5 ∧ madeP rt p a = planOf ((rt a.ws).getD [])) := by
 unfold madeP at h ⊢
 by_cases h0 : a.k = 0 ∧ a.a = 0 ∧ a.b = 0 ∧ a.c = 0 ∧ a.ws = []
 ·rw [if_pos h0]; exact .inl ⟨h0.1, rfl⟩
 rw [if_neg h0] at h ⊢
 by_cases h1 : a.k = 1 ∧ a.ws = []
 ·rw [if_pos h1]; exact .inr (.inl ⟨h1.1, rfl⟩)
 rw [if_neg h1] at h ⊢
 by_cases h2 : a.k = 2 ∧ a.b = 0 ∧ a.c = 0 ∧ a.ws = []
 ·rw [if_pos h2]; exact .inr (.inr (.inl ⟨h2.1, rfl⟩))
 rw [if_neg h2] at h ⊢
 by_cases h3 : a.k = 3 ∧ a.a = 0 ∧ a.b = 0 ∧ a.c = 0 ∧ a.ws = []
 ·rw [if_pos h3]; exact .inr (.inr (.inr (.inl ⟨h3.1, rfl⟩)))
 rw [if_neg h3] at h ⊢
 by_cases h4 : a.k = 4 ∧ a.a = 0 ∧ a.b = 0 ∧ a.c = 0 ∧ a.ws = []
 ·rw [if_pos h4]; exact .inr (.inr (.inr (.inr (.inl ⟨h4.1, rfl⟩))))
 rw [if_neg h4] at h ⊢
 by_cases h5 : a.k = 5 ∧ a.a = 0 ∧ a.b = 0 ∧ a.c = 0
 ·rw [if_pos h5]; exact .inr (.inr (.inr (.inr (.inr ⟨h5.1, rfl⟩))))
 rw [if_neg h5] at h
 exact absurd h (by decide)
/-- A deed that is done, other than DkBack. -/
theorem do_yes {rt : List UInt8 → Option (List Mk)} {d : Dk} {a : Dd} (h : (deskDo rt d a).2 = true) (hk : a.k ≠ 6) :
  deskOk d = true ∧ planOk (madeP rt d.now a) = true ∧ deskDo rt d a = (⟨madeP rt d.now a, pushP d.past d.now⟩, true) := by
 unfold deskDo at h ⊢
 by_cases hd : deskOk d = true
 ·rw [if_pos hd] at h ⊢
  rw [if_neg (fun hx => hk hx.1.1)] at h ⊢
  by_cases hm : planOk (madeP rt d.now a) = true ∧ planText (madeP rt d.now a) ≠ planText d.now
  ·rw [if_pos hm]; exact ⟨hd, hm.1, rfl⟩
  ·rw [if_neg hm] at h; cases h
 ·rw [if_neg hd] at h; cases h
theorem do_no {rt : List UInt8 → Option (List Mk)} {d : Dk} {a : Dd} (h : (deskDo rt d a).2 = false) (hd : deskOk d = true) : deskDo rt d a = (d, false) := by
 unfold deskDo at h ⊢
 rw [if_pos hd] at h ⊢
 split at h
 ·cases h
 ·rename_i h1
  rw [if_neg h1]
  split at h
  ·cases h
  ·rename_i h2
   rw [if_neg h2]
theorem do_bad {rt : List UInt8 → Option (List Mk)} {d : Dk} {a : Dd} (hd : deskOk d = false) : deskDo rt d a = (⟨⟨0, []⟩, []⟩, false) := by
 unfold deskDo
 rw [if_neg (by rw [hd]; decide)]
/-- What was done can be undone. -/
theorem do_back {rt : List UInt8 → Option (List Mk)} {d : Dk} {a : Dd} (h : (deskDo rt d a).2 = true) (hk : a.k ≠ 6) (h8 : d.past.length < 8) : deskDo rt (deskDo rt d a).1 backD = (d, true) := by
 obtain ⟨hd, hm, he⟩ := do_yes h hk
 have hok := deskDo_ok rt a hd
 rw [he] at hok ⊢
 have hp : pushP d.past d.now = d.past ++ [d.now] := by
  unfold pushP
  rw [if_neg (by simp; omega)]
 dsimp only at hok ⊢
 rw [hp] at hok ⊢
 unfold deskDo
 rw [if_pos hok, if_pos ⟨⟨rfl, rfl, rfl, rfl, rfl⟩, by simp⟩]
 dsimp only
 rw [List.dropLast_concat, List.getLastD_concat]
theorem toldP_ok {p : Pl} (h : planOk (toldP p) = true) : planOk p = true ∧ toldP p = p := by
 cases hp : planOk p
 ·unfold toldP at h
  rw [hp, if_neg (by decide)] at h
  exact absurd h (by decide)
 ·unfold toldP
  rw [hp]
  exact ⟨rfl, rfl⟩
theorem kept_trim {rt : List UInt8 → Option (List Mk)} {d : Dk} {a : Dd} (h : (deskDo rt d a).2 = true) (hk : a.k = 3) : alike (deskDo rt d a).1.now d.now = true := by
 obtain ⟨hd, hm, he⟩ := do_yes h (by omega)
 rw [he]
 dsimp only
 rcases made_k hm with ⟨h1, h2⟩ | ⟨h1, h2⟩ | ⟨h1, h2⟩ | ⟨h1, h2⟩ | ⟨h1, h2⟩ | ⟨h1, h2⟩ <;> first | omega | skip
 rw [h2]
 exact (trim_ok (deskOk_iff.1 hd).2.1).2.2.2.1
theorem swap_turn {p : Pl} (h : planOk p = true) : swapP p = turn p := by
 unfold turn swapP
 rw [if_pos h]
theorem swap_swap (p : Pl) : swapP (swapP p) = p := by
 unfold swapP
 dsimp only
 rw [List.map_map]
 have : ((fun b : Bd => (⟨b.t, b.f, b.m⟩ : Bd)) ∘ fun b : Bd => (⟨b.t, b.f, b.m⟩ : Bd)) = id := by funext b; rfl
 rw [this, List.map_id]
theorem swap_fits {p : Pl} (h : planOk p = true) : fits (swapP p) = fits p := by
 have hs : planOk (swapP p) = true := by rw [swap_turn h]; exact (turn_ok h).1
 cases hf : fits p
 ·cases hg : fits (swapP p)
  ·rfl
  ·have := turn_fits hg
   rw [← swap_turn hs, swap_swap, hf] at this
   cases this
 ·rw [swap_turn h]; exact turn_fits hf
theorem kept_turn {rt : List UInt8 → Option (List Mk)} {d : Dk} {a : Dd} (h : (deskDo rt d a).2 = true) (hk : a.k = 4) : fits (deskDo rt d a).1.now = fits d.now := by
 obtain ⟨hd, hm, he⟩ := do_yes h (by omega)
 rw [he]
 dsimp only
 rcases made_k hm with ⟨h1, h2⟩ | ⟨h1, h2⟩ | ⟨h1, h2⟩ | ⟨h1, h2⟩ | ⟨h1, h2⟩ | ⟨h1, h2⟩ <;> first | omega | skip
 rw [h2]
 exact swap_fits (deskOk_iff.1 hd).2.1
theorem kept_bound {rt : List UInt8 → Option (List Mk)} {d : Dk} {a : Dd} (h : (deskDo rt d a).2 = true) (hk : a.k = 1) : implies (deskDo rt d a).1.now d.now = true := by
 obtain ⟨hd, hm, he⟩ := do_yes h (by omega)
 rw [he]
 dsimp only
 have hok := (deskOk_iff.1 hd).2.1
 rcases made_k hm with ⟨h1, h2⟩ | ⟨h1, h2⟩ | ⟨h1, h2⟩ | ⟨h1, h2⟩ | ⟨h1, h2⟩ | ⟨h1, h2⟩ <;> first | omega | skip
 rw [h2] at hm ⊢
 obtain ⟨h3, h4⟩ := toldP_ok hm
 rw [h4]
 exact (implies_iff h3 hok rfl).2 fun y hy b hb => hy b (List.mem_append_left _ hb)
theorem kept_loose {rt : List UInt8 → Option (List Mk)} {d : Dk} {a : Dd} (h : (deskDo rt d a).2 = true) (hk : a.k = 2) : implies d.now (deskDo rt d a).1.now = true := by
 obtain ⟨hd, hm, he⟩ := do_yes h (by omega)
 rw [he]
 dsimp only
 have hok := (deskOk_iff.1 hd).2.1
 rcases made_k hm with ⟨h1, h2⟩ | ⟨h1, h2⟩ | ⟨h1, h2⟩ | ⟨h1, h2⟩ | ⟨h1, h2⟩ | ⟨h1, h2⟩ <;> first | omega | skip
 rw [h2] at hm ⊢
 unfold lessP at hm ⊢
 split at hm
 ·rename_i h5
  rw [if_pos h5]
  exact (implies_iff hok hm rfl).2 fun y hy => del_sol hy
 ·exact absurd hm (by decide)

/-! ### Runs. -/
def runD (rt : List UInt8 → Option (List Mk)) : Dk → List Dd → Dk × Nat
 | d, [] => (d, 0)
 | d, a :: l => ((runD rt (deskDo rt d a).1 l).1, (if (deskDo rt d a).2 then 1 else 0) + (runD rt (deskDo rt d a).1 l).2)
theorem runD_app (rt : List UInt8 → Option (List Mk)) : ∀ (l1 l2 : List Dd) (d : Dk), runD rt d (l1 ++ l2) = ((runD rt (runD rt d l1).1 l2).1, (runD rt d l1).2 + (runD rt (runD rt d l1).1 l2).2)
 | [], l2, d => by simp [runD]
 | a :: l1, l2, d => by
   simp only [List.cons_append, runD]
   rw [runD_app rt l1 l2]
   simp only [Nat.add_assoc]
theorem runD_snoc (rt : List UInt8 → Option (List Mk)) (l : List Dd) (a : Dd) (d : Dk) : runD rt d (l ++ [a]) = ((deskDo rt (runD rt d l).1 a).1, (runD rt d l).2 + if (deskDo rt (runD rt d l).1 a).2 then 1 else 0) := by
 rw [runD_app]
 simp [runD]
theorem runD_ok (rt : List UInt8 → Option (List Mk)) : ∀ (l : List Dd) (d : Dk), deskOk d = true → deskOk (runD rt d l).1 = true
 | [], d, h => h
 | a :: l, d, h => runD_ok rt l _ (deskDo_ok rt a h)
theorem runD_le (rt : List UInt8 → Option (List Mk)) : ∀ (l : List Dd) (d : Dk), (runD rt d l).2 ≤ l.length
 | [], d => Nat.le_refl _
 | a :: l, d => by
   have := runD_le rt l (deskDo rt d a).1
   simp only [runD, List.length_cons]
   split <;> omega
/-- What DeskRun returns. -/
def deskRun (rt : List UInt8 → Option (List Mk)) (d : Dk) (l : List Dd) : Dk × Nat := if deskOk d = true ∧ l.length ≤ 40 then runD rt d l else (⟨⟨0, []⟩, []⟩, 0)
theorem deskRun_two (rt : List UInt8 → Option (List Mk)) {d : Dk} {l : List Dd} (h : deskOk d = true) (hl : l.length ≤ 40) (k : Nat) :
  deskOk (deskRun rt d l).1 = true ∧ (deskRun rt (deskRun rt d (l.take k)).1 (l.drop k)).1 = (deskRun rt d l).1 ∧ (deskRun rt d (l.take k)).2 + (deskRun rt (deskRun rt d (l.take k)).1 (l.drop k)).2 = (deskRun rt d l).2 := by
 have h1 : deskRun rt d l = runD rt d l := by unfold deskRun; rw [if_pos ⟨h, hl⟩]
 have h2 : deskRun rt d (l.take k) = runD rt d (l.take k) := by unfold deskRun; rw [if_pos ⟨h, by rw [List.length_take]; omega⟩]
 have h3 : deskRun rt (runD rt d (l.take k)).1 (l.drop k) = runD rt (runD rt d (l.take k)).1 (l.drop k) := by unfold deskRun; rw [if_pos ⟨runD_ok rt _ _ h, by rw [List.length_drop]; omega⟩]
 rw [h1, h2, h3]
 have h4 := runD_app rt (l.take k) (l.drop k) d
 rw [List.take_append_drop] at h4
 rw [h4]
 exact ⟨runD_ok rt _ _ (runD_ok rt _ _ h), rfl, rfl⟩
end Pp

namespace Pp

/-- A number is read from a place on. -/
def NumI (s : List UInt8) (n : Int) (v n1 : Int) (ok : Bool) : Prop := n1 = n + (digAt s n.toNat).length ∧ ∀ x, digs (digAt s n.toNat) = some x → v = x ∧ ok = true

/-- How the program reads. -/
inductive Im (s : List UInt8) : Md → List Mk → Int → Bool → List Mk → Int → Bool → Prop where
 | thn {n f t1 n1 f1 t n' f'} : Im s .bth [] n f t1 n1 f1 → Im s .thnL t1 n1 f1 t n' f' → Im s .thn [] n f t n' f'
 | thnM {t n f t1 n1 f1 t' n' f'} : ch s n 59 = true → Im s .bth [] (n + 1) f t1 n1 f1 → Im s .thnL (t ++ t1 ++ [⟨1, 0, 0⟩]) n1 f1 t' n' f' → Im s .thnL t n f t' n' f'
 | thnD {t n f} : ch s n 59 = false → Im s .thnL t n f t n f
 | bth {n f t1 n1 f1 t n' f'} : Im s .atm [] n f t1 n1 f1 → Im s .bthL t1 n1 f1 t n' f' → Im s .bth [] n f t n' f'
 | bthM {t n f t1 n1 f1 t' n' f'} : ch s n 38 = true → Im s .atm [] (n + 1) f t1 n1 f1 → Im s .bthL (t ++ t1 ++ [⟨2, 0, 0⟩]) n1 f1 t' n' f' → Im s .bthL t n f t' n' f'
 | bthD {t n f} : ch s n 38 = false → Im s .bthL t n f t n f
 | atmB {n f t1 n1 f1 t' n' f'} : ch s n 40 = true → Im s .thn [] (n + 1) f t1 n1 f1 → ch s n1 41 = true → Im s .atmL t1 (n1 + 1) f1 t' n' f' → Im s .atm [] n f t' n' f'
 | atmF {n f t1 n1 f1 t' n' f'} : ch s n 40 = true → Im s .thn [] (n + 1) f t1 n1 f1 → ch s n1 41 = false → Im s .atmL t1 n1 false t' n' f' → Im s .atm [] n f t' n' f'
 | atmN {n f v n1 k t' n' f'} : ch s n 40 = false → NumI s n v n1 k → ch s n1 45 = false → Im s .atmL [⟨0, v, v⟩] n1 (f && k) t' n' f' → Im s .atm [] n f t' n' f'
 | atmH {n f v n1 k u n2 j t' n' f'} : ch s n 40 = false → NumI s n v n1 k → ch s n1 45 = true → NumI s (n1 + 1) u n2 j → Im s .atmL [⟨0, v, u⟩] n2 (f && k && j) t' n' f' → Im s .atm [] n f t' n' f'
 | atmM {t n f v n1 k t' n' f'} : ch s n 60 = true → NumI s (n + 1) v n1 k → Im s .atmL (t ++ [⟨3, 0, v⟩]) n1 (f && k) t' n' f' → Im s .atmL t n f t' n' f'
 | atmD {t n f} : ch s n 60 = false → Im s .atmL t n f t n f

theorem NumI.rng {s : List UInt8} {n v n1 : Int} {k : Bool} (h : NumI s n v n1 k) (hn : 0 ≤ n ∧ n ≤ (s.length : Int)) : n ≤ n1 ∧ n1 ≤ (s.length : Int) := by
 have hl : (digAt s n.toNat).length ≤ s.length - n.toNat := by
  unfold digAt
  have := (List.takeWhile_sublist (l := s.drop n.toNat) isDig).length_le
  rwa [List.length_drop] at this
 have := h.1
 omega
theorem NumI.numA {s : List UInt8} {n v n1 : Int} {k : Bool} (h : NumI s n v n1 k) (hn : 0 ≤ n) (h0 : 0 ≤ (numA s n).2) : v = (numA s n).1 ∧ n1 = (numA s n).2 ∧ k = true := by
 unfold Pp.numA at h0 ⊢
 obtain ⟨h1, h2⟩ := h
 cases hd : digs (digAt s n.toNat) with
 | none => rw [hd] at h0; dsimp only at h0; omega
 | some x =>
   obtain ⟨rfl, rfl⟩ := h2 x hd
   exact ⟨rfl, h1, rfl⟩
theorem Im.rng {s : List UInt8} {md : Md} {t t' : List Mk} {n n' : Int} {f f' : Bool} (h : Im s md t n f t' n' f') (hn : 0 ≤ n ∧ n ≤ (s.length : Int)) :
  n ≤ n' ∧ n' ≤ (s.length : Int) ∧ (t'.length : Int) ≤ t.length + 2 * (n' - n) + 1 ∧ ((md = .thnL ∨ md = .bthL ∨ md = .atmL) → (t'.length : Int) ≤ t.length + 2 * (n' - n)) := by
 induction h with
 | thn _ _ ih1 ih2 =>
   have h1 := ih1 hn
   have h2 := ih2 (by omega)
   have h3 := h2.2.2.2 (.inl rfl)
   simp only [List.length_nil] at *
   refine ⟨by omega, by omega, by omega, fun h => by rcases h with h | h | h <;> cases h⟩
 | thnM c _ _ ih1 ih2 =>
   have := ch_lt c
   have h1 := ih1 (by omega)
   have h2 := ih2 (by omega)
   have h3 := h2.2.2.2 (.inl rfl)
   simp only [List.length_nil, List.length_append, List.length_cons] at *
   exact ⟨by omega, by omega, by omega, fun _ => by omega⟩
 | thnD c => exact ⟨by omega, hn.2, by omega, fun _ => by omega⟩
 | bth _ _ ih1 ih2 =>
   have h1 := ih1 hn
   have h2 := ih2 (by omega)
   have h3 := h2.2.2.2 (.inr (.inl rfl))
   simp only [List.length_nil] at *
   refine ⟨by omega, by omega, by omega, fun h => by rcases h with h | h | h <;> cases h⟩
 | bthM c _ _ ih1 ih2 =>
   have := ch_lt c
   have h1 := ih1 (by omega)
   have h2 := ih2 (by omega)
   have h3 := h2.2.2.2 (.inr (.inl rfl))
   simp only [List.length_nil, List.length_append, List.length_cons] at *
   exact ⟨by omega, by omega, by omega, fun _ => by omega⟩
 | bthD c => exact ⟨by omega, hn.2, by omega, fun _ => by omega⟩
 | atmB c _ c1 _ ih1 ih2 =>
   have := ch_lt c
   have := ch_lt c1
   have h1 := ih1 (by omega)
   have h2 := ih2 (by omega)
   have h3 := h2.2.2.2 (.inr (.inr rfl))
   simp only [List.length_nil] at *
   refine ⟨by omega, by omega, by omega, fun h => by rcases h with h | h | h <;> cases h⟩
 | atmF c _ c1 _ ih1 ih2 =>
   have := ch_lt c
   have h1 := ih1 (by omega)
   have h2 := ih2 (by omega)
   have h3 := h2.2.2.2 (.inr (.inr rfl))
   simp only [List.length_nil] at *
   refine ⟨by omega, by omega, by omega, fun h => by rcases h with h | h | h <;> cases h⟩
 | atmN c a c1 _ ih =>
   have h1 := a.rng hn
   have h2 := ih (by omega)
   have h3 := h2.2.2.2 (.inr (.inr rfl))
   simp only [List.length_nil, List.length_cons] at *
   refine ⟨by omega, by omega, by omega, fun h => by rcases h with h | h | h <;> cases h⟩
 | atmH c a c1 b _ ih =>
   have h1 := a.rng hn
   have := ch_lt c1
   have h4 := b.rng (by omega)
   have h2 := ih (by omega)
   have h3 := h2.2.2.2 (.inr (.inr rfl))
   simp only [List.length_nil, List.length_cons] at *
   refine ⟨by omega, by omega, by omega, fun h => by rcases h with h | h | h <;> cases h⟩
 | atmM c a _ ih =>
   have := ch_lt c
   have h1 := a.rng (by omega)
   have h2 := ih (by omega)
   have h3 := h2.2.2.2 (.inr (.inr rfl))
   simp only [List.length_append, List.length_nil, List.length_cons] at *
   exact ⟨by omega, by omega, by omega, fun _ => by omega⟩
 | atmD c => exact ⟨by omega, hn.2, by omega, fun _ => by omega⟩
theorem sp_neg {s : List UInt8} {md : Md} {t t' : List Mk} {n n' : Int} (h : Sp s md t n t' n') (hn : n = -1 ∨ (0 ≤ n ∧ n ≤ (s.length : Int))) (h0 : 0 ≤ n') : 0 ≤ n ∧ n ≤ n' ∧ n' ≤ (s.length : Int) := by
 have := h.rng hn
 omega
/-- Where the reference reads, the program reads the same. -/
theorem Im.agree {s : List UInt8} {md : Md} {t t1 : List Mk} {n n1 : Int} (h : Sp s md t n t1 n1) (h0 : 0 ≤ n1) (hn : n = -1 ∨ (0 ≤ n ∧ n ≤ (s.length : Int))) : ∀ {f t2 n2 f2}, Im s md t n f t2 n2 f2 → t2 = t1 ∧ n2 = n1 ∧ f2 = f := by
 induction h with
 | thn a b ih1 ih2 =>
   have hb := b.rng (by have := a.rng hn; omega)
   have ha := sp_neg a hn (by omega)
   intro f t2 n2 f2 hi
   cases hi with
   | thn a' b' =>
     obtain ⟨rfl, rfl, rfl⟩ := ih1 (by omega) hn a'
     exact ih2 h0 (by omega) b'
 | thnM c a b ih1 ih2 =>
   have := ch_lt c
   have hb := b.rng (by have := a.rng (by omega); omega)
   have ha := sp_neg a (by omega) (by omega)
   intro f t2 n2 f2 hi
   cases hi with
   | thnM c' a' b' =>
     obtain ⟨rfl, rfl, rfl⟩ := ih1 (by omega) (by omega) a'
     exact ih2 h0 (by omega) b'
   | thnD c' => rw [c] at c'; cases c'
 | thnD c =>
   intro f t2 n2 f2 hi
   cases hi with
   | thnM c' a' b' => rw [c] at c'; cases c'
   | thnD c' => exact ⟨rfl, rfl, rfl⟩
 | bth a b ih1 ih2 =>
   have hb := b.rng (by have := a.rng hn; omega)
   have ha := sp_neg a hn (by omega)
   intro f t2 n2 f2 hi
   cases hi with
   | bth a' b' =>
     obtain ⟨rfl, rfl, rfl⟩ := ih1 (by omega) hn a'
     exact ih2 h0 (by omega) b'
 | bthM c a b ih1 ih2 =>
   have := ch_lt c
   have hb := b.rng (by have := a.rng (by omega); omega)
   have ha := sp_neg a (by omega) (by omega)
   intro f t2 n2 f2 hi
   cases hi with
   | bthM c' a' b' =>
     obtain ⟨rfl, rfl, rfl⟩ := ih1 (by omega) (by omega) a'
     exact ih2 h0 (by omega) b'
   | bthD c' => rw [c] at c'; cases c'
 | bthD c =>
   intro f t2 n2 f2 hi
   cases hi with
   | bthM c' a' b' => rw [c] at c'; cases c'
   | bthD c' => exact ⟨rfl, rfl, rfl⟩
 | atmX c => omega
 | atmB c a c1 b ih1 ih2 =>
   have := ch_lt c
   have := ch_lt c1
   have ha := sp_neg a (by omega) (by omega)
   intro f t2 n2 f2 hi
   cases hi with
   | atmB c' a' c1' b' =>
     obtain ⟨rfl, rfl, rfl⟩ := ih1 (by omega) (by omega) a'
     exact ih2 h0 (by omega) b'
   | atmF c' a' c1' b' =>
     obtain ⟨rfl, rfl, rfl⟩ := ih1 (by omega) (by omega) a'
     rw [c1] at c1'; cases c1'
   | atmN c' _ _ _ => rw [c] at c'; cases c'
   | atmH c' _ _ _ _ => rw [c] at c'; cases c'
 | atmF c a c1 ih1 => omega
 | atmN c c1 b ih =>
   rename_i n t' n'
   intro f t2 n2 f2 hi
   have hA := numA_rng (s := s) (n := n) (by omega)
   have hH := hiA_rng (s := s) (n := n) (a := numA s n) (by omega) (by omega)
   have hb := b.rng (by omega)
   have hh0 : 0 ≤ (hiA s (numA s n)).2 := by omega
   have hA0 : 0 ≤ (numA s n).2 := by
    unfold hiA at hh0
    split at hh0
    ·rename_i h1; omega
    ·exact hh0
   cases hi with
   | atmB c' _ _ _ => rw [c1] at c'; cases c'
   | atmF c' _ _ _ => rw [c1] at c'; cases c'
   | atmN c' a' d' b' =>
     obtain ⟨rfl, rfl, rfl⟩ := a'.numA (by omega) hA0
     have e : hiA s (numA s n) = numA s n := by unfold hiA; rw [if_neg (fun h => by rw [d'] at h; cases h.2)]
     rw [e] at ih
     rw [Bool.and_true] at b'
     exact ih h0 (by rw [← e]; omega) b'
   | atmH c' a' d' e' b' =>
     obtain ⟨rfl, rfl, rfl⟩ := a'.numA (by omega) hA0
     have hlt := ch_lt d'
     have hne : 0 < (numA s n).2 := by omega
     have e : hiA s (numA s n) = numA s ((numA s n).2 + 1) := by unfold hiA; rw [if_pos ⟨hne, d'⟩]
     obtain ⟨rfl, rfl, rfl⟩ := e'.numA (by omega) (by rw [← e]; exact hh0)
     rw [e] at ih hH
     rw [Bool.and_true, Bool.and_true] at b'
     exact ih h0 (by omega) b'
 | atmM c b ih =>
   rename_i t n t' n'
   have := ch_lt c
   have hA := numA_rng (s := s) (n := n + 1) (by omega)
   have hb := b.rng (by omega)
   intro f t2 n2 f2 hi
   cases hi with
   | atmM c' a' b' =>
     obtain ⟨rfl, rfl, rfl⟩ := a'.numA (by omega) (by omega)
     rw [Bool.and_true] at b'
     exact ih h0 (by omega) b'
   | atmD c' => rw [c] at c'; cases c'
 | atmD c =>
   intro f t2 n2 f2 hi
   cases hi with
   | atmM c' a' b' => rw [c] at c'; cases c'
   | atmD c' => exact ⟨rfl, rfl, rfl⟩
/-- What the program has read, tells what is read. -/
theorem im_read {rt : List UInt8 → Option (List Mk)} (hrt : IsRead rt) {L : List UInt8} (hL : L.length ≤ 120) {t : List Mk} {n : Int} {f : Bool} (h : Im L .thn [] 0 true t n f) : rt L = if f = true ∧ L ≠ [] ∧ termText t = L then some t else none := by
 have hyes : ∀ t', rt L = some t' → t = t' ∧ f = true ∧ L ≠ [] ∧ termText t = L := fun t' h' => by
  obtain ⟨-, a, h1, h2⟩ := (hrt L t').1 h'
  have h3 := sp_text h1
  rw [h2] at h3
  obtain ⟨rfl, rfl, rfl⟩ := Im.agree h3 (by omega) (.inr (by omega)) h
  refine ⟨rfl, rfl, fun e => ?_, by unfold termText; rw [h1]; exact h2⟩
  rw [e] at h3
  have hx : Sp [] .thn [] 0 [] (-1) := .thn (.bth (.atmX (.inr (by simp))) (.bthD (by simp [ch]))) (.thnD (by simp [ch]))
  have := (h3.det hx).2
  simp at this
 cases hr : rt L with
 | some t' =>
   obtain ⟨rfl, h2, h3, h4⟩ := hyes t' hr
   rw [if_pos ⟨h2, h3, h4⟩]
 | none =>
   split
   ·rename_i hx
    obtain ⟨h1, h2, h3⟩ := hx
    exfalso
    cases ht : termOf t with
    | none =>
      unfold termText at h3
      rw [ht] at h3
      exact h2 h3.symm
    | some a =>
      unfold termText at h3
      rw [ht] at h3
      have := (hrt L t).2 ⟨hL, a, ht, h3⟩
      rw [hr] at this
      cases this
   ·rfl
end Pp
end Go.Proofs.YtmnajkhoacogjaaGreatDoor
