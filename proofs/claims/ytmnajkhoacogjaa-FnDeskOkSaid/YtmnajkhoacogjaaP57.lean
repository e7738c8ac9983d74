/-
  Plain: the text of a term; how the reference reads one.
  Plain: the reference reads the text of a term.
  Plain: the text of a plan tells the plan; who reads a term.
-/
import Derived.Test.YtmnajkhoacogjaaP50
import Derived.Test.YtmnajkhoacogjaaPure
namespace Go.Proofs.Ytmnajkhoacogjaa
set_option linter.unusedVariables false
set_option linter.unusedSimpArgs false

namespace Pp

/-- A digit. -/
def dg (k : Nat) : UInt8 := UInt8.ofNat (48 + k)
def num2 (k : Nat) : List UInt8 := if k < 10 then [dg k] else [dg (k / 10), dg (k % 10)]
/-- A number of -99 to 99 in decimal. -/
def num (n : Int) : List UInt8 := if n < 0 then 45 :: num2 (-n).toNat else num2 n.toNat
def Tm.binds : Tm → Nat
  | .thn _ _ => 0
  | .bth _ _ => 1
  | _ => 2
def brk (q : Bool) (l : List UInt8) : List UInt8 := if q then 40 :: (l ++ [41]) else l
/-- The text of a part. -/
def Tm.text : Tm → List UInt8
  | .step l h => if l = h then num l else num l ++ 45 :: num h
  | .wth a h => brk (decide (a.binds < 2)) a.text ++ 60 :: num h
  | .thn a b => a.text ++ 59 :: brk (decide (b.binds < 1)) b.text
  | .bth a b => brk (decide (a.binds < 1)) a.text ++ 38 :: brk (decide (b.binds < 2)) b.text
def termText (t : List Mk) : List UInt8 := match termOf t with
  | some a => a.text
  | none => []

def isDig (c : UInt8) : Bool := decide (48 ≤ c.toNat ∧ c.toNat ≤ 57)
def valD (n : Int) : List UInt8 → Int
  | [] => n
  | c :: l => valD (10 * n + ((c.toNat : Int) - 48)) l
/-- Of digits alone: a number of one to six digits without leading zeros. -/
def digs (l : List UInt8) : Option Int :=
  if 1 ≤ l.length ∧ l.length ≤ 6 ∧ ¬ (l.head? = some 48 ∧ 1 < l.length) then some (valD 0 l) else none
/-- The digits from a place on. -/
def digAt (s : List UInt8) (n : Nat) : List UInt8 := (s.drop n).takeWhile isDig
def numA (s : List UInt8) (n : Int) : Int × Int := match digs (digAt s n.toNat) with
  | some v => (v, n + (digAt s n.toNat).length)
  | none => (0, -1)
/-- At a place stands a byte. -/
def ch (s : List UInt8) (n : Int) (c : UInt8) : Bool := decide (0 ≤ n ∧ s[n.toNat]? = some c)

inductive Md where | thn | thnL | bth | bthL | atm | atmL

def hiA (s : List UInt8) (a : Int × Int) : Int × Int := if 0 < a.2 ∧ ch s a.2 45 = true then numA s (a.2 + 1) else a

/-- How the reference reads. -/
inductive Sp (s : List UInt8) : Md → List Mk → Int → List Mk → Int → Prop where
  | thn {n t1 n1 t n'} : Sp s .bth [] n t1 n1 → Sp s .thnL t1 n1 t n' → Sp s .thn [] n t n'
  | thnM {t n t1 n1 t' n'} : ch s n 59 = true → Sp s .bth [] (n + 1) t1 n1 → Sp s .thnL (t ++ t1 ++ [⟨1, 0, 0⟩]) n1 t' n' → Sp s .thnL t n t' n'
  | thnD {t n} : ch s n 59 = false → Sp s .thnL t n t n
  | bth {n t1 n1 t n'} : Sp s .atm [] n t1 n1 → Sp s .bthL t1 n1 t n' → Sp s .bth [] n t n'
  | bthM {t n t1 n1 t' n'} : ch s n 38 = true → Sp s .atm [] (n + 1) t1 n1 → Sp s .bthL (t ++ t1 ++ [⟨2, 0, 0⟩]) n1 t' n' → Sp s .bthL t n t' n'
  | bthD {t n} : ch s n 38 = false → Sp s .bthL t n t n
  | atmX {n} : n < 0 ∨ (s.length : Int) ≤ n → Sp s .atm [] n [] (-1)
  | atmB {n t1 n1 t' n'} : ch s n 40 = true → Sp s .thn [] (n + 1) t1 n1 → ch s n1 41 = true → Sp s .atmL t1 (n1 + 1) t' n' → Sp s .atm [] n t' n'
  | atmF {n t1 n1} : ch s n 40 = true → Sp s .thn [] (n + 1) t1 n1 → ch s n1 41 = false → Sp s .atm [] n t1 (-1)
  | atmN {n t' n'} : 0 ≤ n ∧ n < (s.length : Int) → ch s n 40 = false → Sp s .atmL [⟨0, (numA s n).1, (hiA s (numA s n)).1⟩] (hiA s (numA s n)).2 t' n' → Sp s .atm [] n t' n'
  | atmM {t n t' n'} : ch s n 60 = true → Sp s .atmL (t ++ [⟨3, 0, (numA s (n + 1)).1⟩]) (numA s (n + 1)).2 t' n' → Sp s .atmL t n t' n'
  | atmD {t n} : ch s n 60 = false → Sp s .atmL t n t n

theorem ch_lt {s : List UInt8} {n : Int} {c : UInt8} (h : ch s n c = true) : 0 ≤ n ∧ n < (s.length : Int) := by
  unfold ch at h
  obtain ⟨h0, h1⟩ := of_decide_eq_true h
  have := (List.getElem?_eq_some_iff.1 h1).1
  omega
theorem Sp.det {s : List UInt8} {md : Md} {t t1 t2 : List Mk} {n n1 n2 : Int} (h1 : Sp s md t n t1 n1) (h2 : Sp s md t n t2 n2) : t1 = t2 ∧ n1 = n2 := by
  induction h1 generalizing t2 n2 with
  | thn _ _ ih1 ih2 =>
    cases h2 with
    | thn a b =>
      obtain ⟨rfl, rfl⟩ := ih1 a
      exact ih2 b
  | thnM c _ _ ih1 ih2 =>
    cases h2 with
    | thnM c' a b =>
      obtain ⟨rfl, rfl⟩ := ih1 a
      exact ih2 b
    | thnD c' => rw [c] at c'; cases c'
  | thnD c =>
    cases h2 with
    | thnM c' a b => rw [c] at c'; cases c'
    | thnD c' => exact ⟨rfl, rfl⟩
  | bth _ _ ih1 ih2 =>
    cases h2 with
    | bth a b =>
      obtain ⟨rfl, rfl⟩ := ih1 a
      exact ih2 b
  | bthM c _ _ ih1 ih2 =>
    cases h2 with
    | bthM c' a b =>
      obtain ⟨rfl, rfl⟩ := ih1 a
      exact ih2 b
    | bthD c' => rw [c] at c'; cases c'
  | bthD c =>
    cases h2 with
    | bthM c' a b => rw [c] at c'; cases c'
    | bthD c' => exact ⟨rfl, rfl⟩
  | atmX c =>
    cases h2 with
    | atmX _ => exact ⟨rfl, rfl⟩
    | atmB c' _ _ _ => have := ch_lt c'; omega
    | atmF c' _ _ => have := ch_lt c'; omega
    | atmN c' _ _ => omega
  | atmB c _ c1 _ ih1 ih2 =>
    cases h2 with
    | atmX c' => have := ch_lt c; omega
    | atmB _ a _ b =>
      obtain ⟨rfl, rfl⟩ := ih1 a
      exact ih2 b
    | atmF _ a c' =>
      obtain ⟨rfl, rfl⟩ := ih1 a
      rw [c1] at c'; cases c'
    | atmN _ c' _ => rw [c] at c'; cases c'
  | atmF c _ c1 ih1 =>
    cases h2 with
    | atmX c' => have := ch_lt c; omega
    | atmB _ a c' b =>
      obtain ⟨rfl, rfl⟩ := ih1 a
      rw [c1] at c'; cases c'
    | atmF _ a _ =>
      obtain ⟨rfl, rfl⟩ := ih1 a
      exact ⟨rfl, rfl⟩
    | atmN _ c' _ => rw [c] at c'; cases c'
  | atmN c c1 _ ih =>
    cases h2 with
    | atmX c' => omega
    | atmB c' _ _ _ => rw [c1] at c'; cases c'
    | atmF c' _ _ => rw [c1] at c'; cases c'
    | atmN _ _ a => exact ih a
  | atmM c _ ih =>
    cases h2 with
    | atmM _ a => exact ih a
    | atmD c' => rw [c] at c'; cases c'
  | atmD c =>
    cases h2 with
    | atmM c' a => rw [c] at c'; cases c'
    | atmD _ => exact ⟨rfl, rfl⟩
theorem numA_rng {s : List UInt8} {n : Int} (h : 0 ≤ n ∧ n ≤ (s.length : Int)) : (numA s n).2 = -1 ∨ (n + 1 ≤ (numA s n).2 ∧ (numA s n).2 ≤ (s.length : Int)) := by
  unfold numA
  have hl : (digAt s n.toNat).length ≤ s.length - n.toNat := by
    unfold digAt
    have := (List.takeWhile_sublist (l := s.drop n.toNat) isDig).length_le
    rwa [List.length_drop] at this
  split
  · rename_i v hv
    right
    unfold digs at hv
    split at hv
    · dsimp only; omega
    · cases hv
  · exact .inl rfl
theorem hiA_rng {s : List UInt8} {n : Int} {a : Int × Int} (h : 0 ≤ n) (ha : a.2 = -1 ∨ (n ≤ a.2 ∧ a.2 ≤ (s.length : Int))) : (hiA s a).2 = -1 ∨ (n ≤ (hiA s a).2 ∧ (hiA s a).2 ≤ (s.length : Int)) := by
  unfold hiA
  split
  · rename_i h1
    have := ch_lt h1.2
    have := numA_rng (s := s) (n := a.2 + 1) (by omega)
    omega
  · exact ha
theorem Sp.rng {s : List UInt8} {md : Md} {t t' : List Mk} {n n' : Int} (h : Sp s md t n t' n') (hn : n = -1 ∨ (0 ≤ n ∧ n ≤ (s.length : Int))) :
    (n = -1 ∧ n' = -1 ∧ t'.length ≤ t.length) ∨ (0 ≤ n ∧ n' = -1 ∧ (t'.length : Int) ≤ t.length + (s.length - n)) ∨ (0 ≤ n ∧ n ≤ n' ∧ n' ≤ (s.length : Int) ∧ (t'.length : Int) ≤ t.length + (n' - n)) := by
  induction h with
  | thn _ _ ih1 ih2 =>
    have h1 := ih1 hn
    have h2 := ih2 (by omega)
    simp only [List.length_nil] at *
    omega
  | thnM c _ _ ih1 ih2 =>
    have := ch_lt c
    have h1 := ih1 (by omega)
    have h2 := ih2 (by omega)
    simp only [List.length_nil, List.length_append, List.length_cons] at *
    omega
  | thnD c => (clear c; omega)
  | bth _ _ ih1 ih2 =>
    have h1 := ih1 hn
    have h2 := ih2 (by omega)
    simp only [List.length_nil] at *
    omega
  | bthM c _ _ ih1 ih2 =>
    have := ch_lt c
    have h1 := ih1 (by omega)
    have h2 := ih2 (by omega)
    simp only [List.length_nil, List.length_append, List.length_cons] at *
    omega
  | bthD c => (clear c; omega)
  | atmX c => (simp only [List.length_nil, true_and]; omega)
  | atmB c _ c1 _ ih1 ih2 =>
    have := ch_lt c
    have := ch_lt c1
    have h1 := ih1 (by omega)
    have h2 := ih2 (by omega)
    simp only [List.length_nil] at *
    omega
  | atmF c _ c1 ih1 =>
    have := ch_lt c
    have h1 := ih1 (by omega)
    simp only [List.length_nil, true_and] at *
    omega
  | atmN c c1 _ ih =>
    rename_i n _ _ _
    have h0 := numA_rng (s := s) (n := n) (by omega)
    have h1 := hiA_rng (s := s) (n := n + 1) (a := numA s n) (by omega) (by omega)
    have h2 := ih (by omega)
    simp only [List.length_nil, List.length_cons] at *
    omega
  | atmM c _ ih =>
    rename_i t n _ _ _
    have := ch_lt c
    have h0 := numA_rng (s := s) (n := n + 1) (by omega)
    have h2 := ih (by omega)
    simp only [List.length_append, List.length_nil, List.length_cons] at *
    omega
  | atmD c => (clear c; omega)

/-! ### A text is read back. -/
theorem ch_mid (pre post : List UInt8) (c : UInt8) : ch (pre ++ c :: post) pre.length c = true := by
  unfold ch
  rw [decide_eq_true_eq]
  refine ⟨by omega, ?_⟩
  rw [Int.toNat_natCast, List.getElem?_append_right (Nat.le_refl _), Nat.sub_self]
  rfl
theorem ch_not (pre post : List UInt8) (c : UInt8) (h : post.head? ≠ some c) : ch (pre ++ post) pre.length c = false := by
  unfold ch
  rw [decide_eq_false_iff_not]
  rintro ⟨-, h1⟩
  rw [Int.toNat_natCast, List.getElem?_append_right (Nat.le_refl _), Nat.sub_self] at h1
  exact h (by rw [List.head?_eq_getElem?]; exact h1)
theorem take_all {ds post : List UInt8} (h1 : ∀ c ∈ ds, isDig c = true) (h2 : ∀ c, post.head? = some c → isDig c = false) : (ds ++ post).takeWhile isDig = ds := by
  induction ds with
  | nil =>
    cases post with
    | nil => rfl
    | cons c post => simp [List.takeWhile, h2 c rfl]
  | cons d ds ih =>
    rw [List.cons_append, List.takeWhile_cons_of_pos (h1 d (by simp)), ih (fun c hc => h1 c (by simp [hc]))]
theorem num_facts : ∀ k : Fin 20, (∀ c ∈ num (k.1 : Int), isDig c = true) ∧ digs (num (k.1 : Int)) = some (k.1 : Int) ∧ (num (k.1 : Int)).head? ≠ some 40 ∧ 1 ≤ (num (k.1 : Int)).length := by decide
theorem num_at (pre post : List UInt8) (v : Int) (hv : 0 ≤ v ∧ v ≤ 19) (h2 : ∀ c, post.head? = some c → isDig c = false) : numA (pre ++ (num v ++ post)) (pre.length : Nat) = (v, (((pre ++ num v).length : Nat) : Int)) := by
  obtain ⟨k, rfl⟩ := Int.eq_ofNat_of_zero_le hv.1
  obtain ⟨f1, f2, f3, f4⟩ := num_facts ⟨k, by omega⟩
  dsimp only at f1 f2 f3 f4
  have hd : digAt (pre ++ (num (k : Int) ++ post)) ((pre.length : Nat) : Int).toNat = num (k : Int) := by
    unfold digAt
    rw [Int.toNat_natCast, List.drop_left, take_all f1 h2]
  unfold numA
  rw [hd]
  show (match digs (num (k : Int)) with | some v => _ | none => _) = _
  rw [f2]
  dsimp only
  rw [List.length_append]
  congr 1
theorem num_head (v : Int) (hv : 0 ≤ v ∧ v ≤ 19) (post : List UInt8) : (num v ++ post).head? ≠ some 40 ∧ ∃ c, (num v ++ post).head? = some c := by
  obtain ⟨k, rfl⟩ := Int.eq_ofNat_of_zero_le hv.1
  obtain ⟨f1, f2, f3, f4⟩ := num_facts ⟨k, by omega⟩
  dsimp only at f3 f4
  cases hn : num (k : Int) with
  | nil => rw [hn] at f4; simp at f4
  | cons c l => rw [hn] at f3; exact ⟨by simpa using f3, c, rfl⟩
end Pp

namespace Pp

def Hd (post bar : List UInt8) : Prop := ∀ c, post.head? = some c → isDig c = false ∧ c ∉ bar
def XA (s : List UInt8) (md mdL : Md) (txt : List UInt8) (ms : List Mk) (bar : List UInt8) : Prop :=
  ∀ pre post t' n', Hd post bar → s = pre ++ (txt ++ post) → Sp s mdL ms ((pre ++ txt).length : Nat) t' n' → Sp s md [] (pre.length : Nat) t' n'

theorem Hd.cons {c : UInt8} {l bar : List UInt8} (h : isDig c = false) (h2 : c ∉ bar) : Hd (c :: l) bar := fun c' hc => by
  simp at hc; subst hc; exact ⟨h, h2⟩
theorem Hd.less {post bar bar' : List UInt8} (h : Hd post bar) (h2 : ∀ c ∈ bar', c ∈ bar) : Hd post bar' := fun c hc => ⟨(h c hc).1, fun e => (h c hc).2 (h2 c e)⟩
theorem ch_end {s pre txt post : List UInt8} {bar : List UInt8} (hs : s = pre ++ (txt ++ post)) (h : Hd post bar) (c : UInt8) (hc : c ∈ bar) : ch s (((pre ++ txt).length : Nat) : Int) c = false := by
  subst hs
  rw [← List.append_assoc]
  exact ch_not _ _ _ (fun e => (h c e).2 hc)
theorem ch_at {s pre txt post : List UInt8} {c : UInt8} (hs : s = pre ++ (txt ++ c :: post)) : ch s (((pre ++ txt).length : Nat) : Int) c = true := by
  subst hs
  rw [← List.append_assoc]
  exact ch_mid _ _ _
theorem XA.up1 {s txt : List UInt8} {ms : List Mk} (h : XA s .atm .atmL txt ms [45]) : XA s .bth .bthL txt ms [45, 60] := fun pre post t' n' hp hs hc =>
  .bth (h pre post _ _ (hp.less (by simp)) hs (.atmD (ch_end hs hp 60 (by simp)))) hc
theorem XA.up2 {s txt : List UInt8} {ms : List Mk} (h : XA s .bth .bthL txt ms [45, 60]) : XA s .thn .thnL txt ms [45, 60, 38] := fun pre post t' n' hp hs hc =>
  .thn (h pre post _ _ (hp.less (by simp)) hs (.bthD (ch_end hs hp 38 (by simp)))) hc
theorem pos1 (pre : List UInt8) (c : UInt8) : ((pre.length : Nat) : Int) + 1 = (((pre ++ [c]).length : Nat) : Int) := by simp
theorem XA.brk {s txt : List UInt8} {ms : List Mk} (h : XA s .thn .thnL txt ms [45, 60, 38]) : XA s .atm .atmL (40 :: (txt ++ [41])) ms [45] := fun pre post t' n' hp hs hc => by
  have hs2 : s = (pre ++ [40]) ++ (txt ++ (41 :: post)) := by rw [hs]; simp
  refine .atmB (t1 := ms) (n1 := (((pre ++ [40]) ++ txt).length : Nat)) (by rw [hs]; exact ch_mid _ _ _) ?_ (ch_at hs2) ?_
  · rw [pos1 pre 40]
    refine h (pre ++ [40]) (41 :: post) _ _ (.cons (by decide) (by decide)) hs2 (.thnD ?_)
    exact ch_end hs2 (bar := [59]) (.cons (by decide) (by decide)) 59 (by simp)
  · have e : ((((pre ++ [40]) ++ txt).length : Nat) : Int) + 1 = ((pre ++ 40 :: (txt ++ [41])).length : Nat) := by simp; omega
    rw [e]; exact hc

/-- A part, in brackets or not, read as an atom. -/
theorem XA.held2 {s : List UInt8} {a : Tm} (h2 : a.binds = 2 → XA s .atm .atmL a.text a.marks [45]) (h0 : XA s .thn .thnL a.text a.marks [45, 60, 38]) : XA s .atm .atmL (Pp.brk (decide (a.binds < 2)) a.text) a.marks [45] := by
  by_cases hb : a.binds < 2
  · rw [decide_eq_true hb]; exact h0.brk
  · rw [decide_eq_false hb]; exact h2 (by cases a <;> simp_all [Tm.binds])
theorem XA.held1 {s : List UInt8} {a : Tm} (h1 : 1 ≤ a.binds → XA s .bth .bthL a.text a.marks [45, 60]) (h0 : XA s .thn .thnL a.text a.marks [45, 60, 38]) : XA s .bth .bthL (Pp.brk (decide (a.binds < 1)) a.text) a.marks [45, 60] := by
  by_cases hb : a.binds < 1
  · rw [decide_eq_true hb]; exact h0.brk.up1
  · rw [decide_eq_false hb]; exact h1 (by omega)
theorem hd_dig {post bar : List UInt8} (h : Hd post bar) : ∀ c, post.head? = some c → isDig c = false := fun c hc => (h c hc).1
theorem read_text (s : List UInt8) : ∀ a : Tm, a.fine →
    (a.binds = 2 → XA s .atm .atmL a.text a.marks [45]) ∧ (1 ≤ a.binds → XA s .bth .bthL a.text a.marks [45, 60]) ∧ XA s .thn .thnL a.text a.marks [45, 60, 38] := by
  intro a
  induction a with
  | step l h =>
    intro hf
    obtain ⟨f0, f1, f2⟩ := hf
    have hA : XA s .atm .atmL (Tm.step l h).text (Tm.step l h).marks [45] := fun pre post t' n' hp hs hc => by
      by_cases e : l = h
      · subst e
        have ht : (Tm.step l l).text = num l := by simp [Tm.text]
        rw [ht] at hs hc
        have hn : numA s (pre.length : Nat) = (l, (((pre ++ num l).length : Nat) : Int)) := by rw [hs]; exact num_at pre post l (by omega) (hd_dig hp)
        have hh : hiA s (numA s (pre.length : Nat)) = (l, (((pre ++ num l).length : Nat) : Int)) := by
          rw [hn]; unfold hiA
          rw [if_neg]
          rintro ⟨-, h1⟩
          rw [show ((l, (((pre ++ num l).length : Nat) : Int)) : Int × Int).2 = (((pre ++ num l).length : Nat) : Int) from rfl, ch_end hs hp 45 (by simp)] at h1
          cases h1
        obtain ⟨k1, c, k2⟩ := num_head l (by omega) post
        refine .atmN ⟨by omega, ?_⟩ (by rw [hs]; exact ch_not _ _ _ k1) ?_
        · rw [hs, List.length_append]
          have : 0 < (num l ++ post).length := by
            cases hx : num l ++ post with
            | nil => rw [hx] at k2; cases k2
            | cons c l => simp
          omega
        · rw [hh, hn]; exact hc
      · have ht : (Tm.step l h).text = num l ++ 45 :: num h := by simp [Tm.text, e]
        rw [ht] at hs hc
        have hs1 : s = pre ++ (num l ++ (45 :: (num h ++ post))) := by rw [hs]; simp
        have hs2 : s = (pre ++ num l ++ [45]) ++ (num h ++ post) := by rw [hs]; simp
        have hn : numA s (pre.length : Nat) = (l, (((pre ++ num l).length : Nat) : Int)) := by rw [hs1]; exact num_at pre _ l (by omega) (fun c hc => by simp at hc; subst hc; decide)
        have hn2 : numA s ((((pre ++ num l).length : Nat) : Int) + 1) = (h, (((pre ++ (num l ++ 45 :: num h)).length : Nat) : Int)) := by
          rw [pos1 (pre ++ num l) 45, hs2, num_at _ post h (by omega) (hd_dig hp)]
          simp
        have hh : hiA s (numA s (pre.length : Nat)) = (h, (((pre ++ (num l ++ 45 :: num h)).length : Nat) : Int)) := by
          rw [hn]; unfold hiA
          obtain ⟨-, -, -, f4⟩ : True ∧ True ∧ True ∧ 1 ≤ (num l).length := by
            obtain ⟨k, rfl⟩ := Int.eq_ofNat_of_zero_le f0
            exact ⟨trivial, trivial, trivial, (num_facts ⟨k, by omega⟩).2.2.2⟩
          rw [if_pos ⟨by simp only [List.length_append]; omega, ch_at hs1⟩]
          exact hn2
        obtain ⟨k1, c, k2⟩ := num_head l (by omega) (45 :: (num h ++ post))
        refine .atmN ⟨by omega, ?_⟩ (by rw [hs1]; exact ch_not _ _ _ k1) ?_
        · rw [hs1]; simp only [List.length_append, List.length_cons]; omega
        · rw [hh, hn]; exact hc
    exact ⟨fun _ => hA, fun _ => hA.up1, hA.up1.up2⟩
  | wth a h ih =>
    intro hf
    obtain ⟨f0, f1, f2⟩ := hf
    obtain ⟨i2, i1, i0⟩ := ih f0
    have hH := XA.held2 i2 i0
    have hA : XA s .atm .atmL (Tm.wth a h).text (Tm.wth a h).marks [45] := fun pre post t' n' hp hs hc => by
      obtain ⟨x, hx⟩ : ∃ x, Pp.brk (decide (a.binds < 2)) a.text = x := ⟨_, rfl⟩
      have ht : (Tm.wth a h).text = x ++ 60 :: num h := by rw [← hx]; rfl
      rw [hx] at hH
      rw [ht] at hs hc
      have hs1 : s = pre ++ (x ++ (60 :: (num h ++ post))) := by rw [hs]; simp
      have hs2 : s = (pre ++ x ++ [60]) ++ (num h ++ post) := by rw [hs]; simp
      have hn2 : numA s ((((pre ++ x).length : Nat) : Int) + 1) = (h, (((pre ++ (x ++ 60 :: num h)).length : Nat) : Int)) := by
        rw [pos1 (pre ++ x) 60, hs2, num_at _ post h (by omega) (hd_dig hp)]
        simp
      refine hH pre (60 :: (num h ++ post)) t' n' (.cons (by decide) (by decide)) hs1 (.atmM (ch_at hs1) ?_)
      rw [hn2]; exact hc
    exact ⟨fun _ => hA, fun _ => hA.up1, hA.up1.up2⟩
  | thn a b iha ihb =>
    intro hf
    obtain ⟨f0, f1⟩ := hf
    obtain ⟨i2, i1, i0⟩ := iha f0
    obtain ⟨j2, j1, j0⟩ := ihb f1
    have hH := XA.held1 j1 j0
    refine ⟨fun e => by simp [Tm.binds] at e, fun e => by simp [Tm.binds] at e, fun pre post t' n' hp hs hc => ?_⟩
    obtain ⟨x, hx⟩ : ∃ x, Pp.brk (decide (b.binds < 1)) b.text = x := ⟨_, rfl⟩
    have ht : (Tm.thn a b).text = a.text ++ 59 :: x := by rw [← hx]; rfl
    rw [hx] at hH
    rw [ht] at hs hc
    have hs1 : s = pre ++ (a.text ++ (59 :: (x ++ post))) := by rw [hs]; simp
    have hs2 : s = (pre ++ a.text ++ [59]) ++ (x ++ post) := by rw [hs]; simp
    have e : (((pre ++ a.text ++ [59]) ++ x).length : Nat) = (pre ++ (a.text ++ 59 :: x)).length := by simp
    refine i0 pre (59 :: (x ++ post)) t' n' (.cons (by decide) (by decide)) hs1 (.thnM (t1 := b.marks) (n1 := (((pre ++ a.text ++ [59]) ++ x).length : Nat)) (ch_at hs1) ?_ ?_)
    · rw [pos1 (pre ++ a.text) 59]
      exact hH _ post _ _ (hp.less (by simp)) hs2 (.bthD (ch_end hs2 hp 38 (by simp)))
    · rw [e]; exact hc
  | bth a b iha ihb =>
    intro hf
    obtain ⟨f0, f1⟩ := hf
    obtain ⟨i2, i1, i0⟩ := iha f0
    obtain ⟨j2, j1, j0⟩ := ihb f1
    have hG := XA.held1 i1 i0
    have hH := XA.held2 j2 j0
    have hB : XA s .bth .bthL (Tm.bth a b).text (Tm.bth a b).marks [45, 60] := fun pre post t' n' hp hs hc => by
      obtain ⟨x, hx⟩ : ∃ x, Pp.brk (decide (b.binds < 2)) b.text = x := ⟨_, rfl⟩
      obtain ⟨y, hy⟩ : ∃ y, Pp.brk (decide (a.binds < 1)) a.text = y := ⟨_, rfl⟩
      have ht : (Tm.bth a b).text = y ++ 38 :: x := by rw [← hx, ← hy]; rfl
      rw [hx] at hH
      rw [hy] at hG
      rw [ht] at hs hc
      have hs1 : s = pre ++ (y ++ (38 :: (x ++ post))) := by rw [hs]; simp
      have hs2 : s = (pre ++ y ++ [38]) ++ (x ++ post) := by rw [hs]; simp
      have e : (((pre ++ y ++ [38]) ++ x).length : Nat) = (pre ++ (y ++ 38 :: x)).length := by simp
      refine hG pre (38 :: (x ++ post)) t' n' (.cons (by decide) (by decide)) hs1 (.bthM (t1 := b.marks) (n1 := (((pre ++ y ++ [38]) ++ x).length : Nat)) (ch_at hs1) ?_ ?_)
      · rw [pos1 (pre ++ y) 38]
        exact hH _ post _ _ (hp.less (by simp)) hs2 (.atmD (ch_end hs2 hp 60 (by simp)))
      · rw [e]; exact hc
    exact ⟨fun e => by simp [Tm.binds] at e, fun _ => hB, hB.up2⟩
end Pp

namespace Pp

/-- The part of a text of a plan that tells a bound. -/
def bTxt (b : Bd) : List UInt8 := 32 :: (num b.f ++ 58 :: (num b.t ++ 58 :: num b.m))
def bsTxt : List Bd → List UInt8
  | [] => []
  | b :: bs => bTxt b ++ bsTxt bs
def planText (p : Pl) : List UInt8 := num p.n ++ bsTxt p.bs

def unnum : List UInt8 → Int
  | 45 :: l => - valD 0 l
  | l => valD 0 l
set_option maxRecDepth 100000 in
set_option maxHeartbeats 2000000 in
theorem num_back : ∀ i : Fin 199, unnum (num ((i.1 : Int) - 99)) = (i.1 : Int) - 99 ∧ ¬ (32 ∈ num ((i.1 : Int) - 99)) ∧ ¬ (58 ∈ num ((i.1 : Int) - 99)) := by decide
theorem num_f {v : Int} (h : -99 ≤ v ∧ v ≤ 99) : unnum (num v) = v ∧ 32 ∉ num v ∧ 58 ∉ num v := by
  have := num_back ⟨(v + 99).toNat, by omega⟩
  dsimp only at this
  rw [show (((v + 99).toNat : Nat) : Int) - 99 = v by omega] at this
  exact this
theorem num_inj {v u : Int} (hv : -99 ≤ v ∧ v ≤ 99) (hu : -99 ≤ u ∧ u ≤ 99) (h : num v = num u) : v = u := by
  rw [← (num_f hv).1, ← (num_f hu).1, h]
theorem sep_inj {c : UInt8} : ∀ {l1 l2 x y : List UInt8}, c ∉ l1 → c ∉ l2 → l1 ++ c :: x = l2 ++ c :: y → l1 = l2 ∧ x = y
  | [], [], x, y, _, _, h => by simpa using h
  | [], b :: l2, x, y, _, h2, h => by
    simp at h
    exact absurd (by rw [h.1]; simp) h2
  | a :: l1, [], x, y, h1, _, h => by
    simp at h
    exact absurd (by rw [← h.1]; simp) h1
  | a :: l1, b :: l2, x, y, h1, h2, h => by
    simp only [List.cons_append, List.cons.injEq] at h
    obtain ⟨rfl, h⟩ := h
    obtain ⟨e1, e2⟩ := sep_inj (fun e => h1 (by simp [e])) (fun e => h2 (by simp [e])) h
    exact ⟨by rw [e1], e2⟩
theorem bsTxt_head : ∀ bs : List Bd, ∃ x, bsTxt bs ++ [32] = 32 :: x
  | [] => ⟨[], rfl⟩
  | b :: bs => ⟨(num b.f ++ 58 :: (num b.t ++ 58 :: num b.m)) ++ bsTxt bs ++ [32], rfl⟩
theorem end_inj {l1 l2 : List UInt8} {bs bs' : List Bd} (h1 : 32 ∉ l1) (h2 : 32 ∉ l2) (h : l1 ++ bsTxt bs = l2 ++ bsTxt bs') : l1 = l2 ∧ bsTxt bs = bsTxt bs' := by
  obtain ⟨x, hx⟩ := bsTxt_head bs
  obtain ⟨y, hy⟩ := bsTxt_head bs'
  have e : l1 ++ 32 :: x = l2 ++ 32 :: y := by rw [← hx, ← hy, ← List.append_assoc, h, List.append_assoc]
  obtain ⟨rfl, rfl⟩ := sep_inj h1 h2 e
  exact ⟨rfl, List.append_cancel_left h⟩
def bdSm (b : Bd) : Prop := (-99 ≤ b.f ∧ b.f ≤ 99) ∧ (-99 ≤ b.t ∧ b.t ≤ 99) ∧ (-99 ≤ b.m ∧ b.m ≤ 99)
theorem bsTxt_inj : ∀ {bs bs' : List Bd}, (∀ b ∈ bs, bdSm b) → (∀ b ∈ bs', bdSm b) → bsTxt bs = bsTxt bs' → bs = bs'
  | [], [], _, _, _ => rfl
  | [], b :: bs, _, _, h => by simp [bsTxt, bTxt] at h
  | b :: bs, [], _, _, h => by simp [bsTxt, bTxt] at h
  | a :: bs, b :: bs', h1, h2, h => by
    obtain ⟨a1, a2, a3⟩ := h1 a (by simp)
    obtain ⟨b1, b2, b3⟩ := h2 b (by simp)
    simp only [bsTxt, bTxt, List.cons_append, List.append_assoc, List.cons.injEq, true_and] at h
    obtain ⟨e1, h⟩ := sep_inj (num_f a1).2.2 (num_f b1).2.2 h
    obtain ⟨e2, h⟩ := sep_inj (num_f a2).2.2 (num_f b2).2.2 h
    obtain ⟨e3, h⟩ := end_inj (num_f a3).2.1 (num_f b3).2.1 h
    rw [bsTxt_inj (fun x hx => h1 x (by simp [hx])) (fun x hx => h2 x (by simp [hx])) h, Bd.ext' (num_inj a1 b1 e1) (num_inj a2 b2 e2) (num_inj a3 b3 e3)]
theorem planOk_sm {p : Pl} (h : planOk p = true) : (-99 ≤ p.n ∧ p.n ≤ 99) ∧ ∀ b ∈ p.bs, bdSm b := by
  unfold planOk at h
  simp only [Bool.and_eq_true, decide_eq_true_eq, inB_iff, List.all_eq_true] at h
  obtain ⟨⟨h1, h2⟩, h3⟩ := h
  refine ⟨by omega, fun b hb => ?_⟩
  have := bdOk_iff.1 (h3 b hb)
  unfold bdSm
  omega
theorem planText_inj {p q : Pl} (hp : planOk p = true) (hq : planOk q = true) (h : planText p = planText q) : p = q := by
  obtain ⟨p1, p2⟩ := planOk_sm hp
  obtain ⟨q1, q2⟩ := planOk_sm hq
  obtain ⟨e1, h⟩ := end_inj (num_f p1).2.1 (num_f q1).2.1 h
  have e1 := num_inj p1 q1 e1
  have e2 := bsTxt_inj p2 q2 h
  cases p; cases q
  simp_all

/-! ### Who reads a term. -/
/-- The term whose text a text is. -/
def IsRead (rt : List UInt8 → Option (List Mk)) : Prop := ∀ s t, rt s = some t ↔ s.length ≤ 120 ∧ ∃ a, termOf t = some a ∧ a.text = s
theorem sp_text {t : List Mk} {a : Tm} (h : termOf t = some a) : Sp a.text .thn [] 0 t a.text.length := by
  obtain ⟨hf, hm, -⟩ := term_back h
  have h1 := (read_text a.text a hf).2.2
  have h2 := h1 [] [] a.marks a.text.length (fun c hc => by simp at hc) (by simp) (.thnD (by
    have := ch_not a.text [] 59 (by simp)
    simpa using this))
  rw [hm] at h2
  exact h2
theorem text_inj {t t' : List Mk} {a a' : Tm} (h : termOf t = some a) (h' : termOf t' = some a') (he : a.text = a'.text) : t = t' := by
  have h1 := sp_text h
  have h2 := sp_text h'
  rw [he] at h1
  exact (h1.det h2).1
theorem isRead_ex : ∃ rt, IsRead rt := by
  have h : ∀ s, ∃ o : Option (List Mk), ∀ t, o = some t ↔ s.length ≤ 120 ∧ ∃ a, termOf t = some a ∧ a.text = s := fun s => by
    by_cases hs : s.length ≤ 120 ∧ ∃ t a, termOf t = some a ∧ a.text = s
    · obtain ⟨hs1, t, a, ht, ha⟩ := hs
      refine ⟨some t, fun t' => ⟨fun e => ?_, fun ⟨_, a', h1, h2⟩ => ?_⟩⟩
      · injection e with e
        subst e
        exact ⟨hs1, a, ht, ha⟩
      · rw [text_inj ht h1 (ha.trans h2.symm)]
    · refine ⟨none, fun t' => ⟨fun e => (by cases e), fun ⟨h1, a, h2, h3⟩ => absurd ⟨h1, t', a, h2, h3⟩ hs⟩⟩
  exact ⟨fun s => (h s).choose, fun s t => (h s).choose_spec t⟩
end Pp
end Go.Proofs.Ytmnajkhoacogjaa
