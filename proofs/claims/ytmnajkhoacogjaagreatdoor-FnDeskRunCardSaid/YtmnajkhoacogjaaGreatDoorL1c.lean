/-
 slices.Contains of numbers.
 Chapter 1 of the program: further bounds; and chapter 4's SetTo.
 impl: how long a part lasts; LastOf.
-/
import Derived.Test.YtmnajkhoacogjaaGreatDoorI1
import Derived.Test.YtmnajkhoacogjaaGreatDoorL1
import Derived.Test.YtmnajkhoacogjaaGreatDoorL82
namespace Go.Proofs.YtmnajkhoacogjaaGreatDoor
set_option linter.unusedVariables false
set_option linter.unusedSimpArgs false
open Go Go.RowKit Pp
open Go.RowKit Pp

set_option maxHeartbeats 1000000 in
theorem index_c (xs : List Int) (v : Int) (A : Option Addr) (b o c B : Nat) (w : World) (hn : xs.length ≤ 2000000) (hB : B ≤ w.heap.size) (hR : IntsR w B b o A xs) :
  Calls Tryz.prog 141 #[.slice A xs.length c, .int .i64 v] w fun e w' => ∃ k : Int, e = .returned (.int .i64 k) ∧ (0 ≤ k ↔ v ∈ xs) ∧ w' = w := by
 go_enter Tryz.func141, Tryz.ntmps141
 go_wp2
 go_loopg [8] xs.length (fun gh s wr => ∃ k : Nat, k ≤ xs.length ∧ gh = xs.length - k ∧ s = .int .i64 k ∧ wr = w ∧ Hid (v ∉ xs.take k))
 case atStart => exact ⟨0, Nat.zero_le _, rfl, rfl, rfl, by simp [Hid]⟩
 case round =>
  obtain ⟨k, hk, rfl, rfl, rfl, hA⟩ := hrel
  by_cases hlt : k < xs.length
  ·obtain rfl := hR.addr (by omega)
   have hx := List.getElem?_eq_getElem hlt
   have d0 := hR.cell k hlt
   rw [List.getD_eq_getElem?_getD, hx] at d0
   dsimp only [Option.getD_some] at d0
   have hz : (k : Int) < (xs.length : Int) := by omega
   have hT : Hid (xs.take (k + 1) = xs.take k ++ [xs[k]]) := by rw [List.take_succ_eq_append_getElem hlt]; rfl
   generalize xs[k] = x at *
   have Hx := hide hx
   clear hx
   by_cases e : v = x
   ·subst e
    go_wp2
    go_ret
    exact ⟨k, rfl, ⟨fun _ => List.mem_of_getElem? Hx.out, fun _ => by omega⟩, rfl⟩
   ·have e2 : (v == x) = false := by simpa using e
    have E := hide e
    clear e
    go_wp2
    go_roundg (xs.length - (k + 1))
    case measure => go_light; omega
    case rel => go_light; exact ⟨k + 1, by omega, rfl, by go_num, rfl, by unfold Hid; rw [hT.out]; simp only [List.mem_append, List.mem_singleton, not_or]; exact ⟨hA.out, E.out⟩⟩
  ·go_wp2
   go_ret
   refine ⟨-1, rfl, ⟨fun h => by omega, fun h => ?_⟩, rfl⟩
   have := hA.out
   rw [List.take_of_length_le (by omega)] at this
   exact absurd h this
set_option maxHeartbeats 1000000 in
theorem contains_c (xs : List Int) (v : Int) (A : Option Addr) (b o c B : Nat) (w : World) (hn : xs.length ≤ 2000000) (hB : B ≤ w.heap.size) (hR : IntsR w B b o A xs) :
  Calls Tryz.prog 136 #[.slice A xs.length c, .int .i64 v] w fun e w' => e = .returned (.bool (decide (v ∈ xs))) ∧ w' = w := by
 by_cases h : v ∈ xs
 ·have H := hide h
  rw [decide_eq_true h]
  clear h
  go_enter Tryz.func136, Tryz.ntmps136
  go_wp2_with (go_at_call 141; go_fit (index_c xs v A b o c B w hn hB hR); rintro e w' ⟨k, rfl, hk, rfl⟩; have hk' := hk.2 H.out)
  go_ret
  exact ⟨by simp [hk', H.out], rfl⟩
 ·have H := hide h
  rw [decide_eq_false h]
  clear h
  go_enter Tryz.func136, Tryz.ntmps136
  go_wp2_with (go_at_call 141; go_fit (index_c xs v A b o c B w hn hB hR); rintro e w' ⟨k, rfl, hk, rfl⟩; have hk' : ¬ 0 ≤ k := (fun h => H.out (hk.1 h)))
  go_ret
  exact ⟨by simp [hk', H.out], rfl⟩

set_option maxHeartbeats 1000000 in
set_option maxRecDepth 100000 in
theorem withBound_q (p : Pl) (x : Bd) (q : Pl) (r : Bool) (hq : toldP ⟨p.n, p.bs ++ [x]⟩ = q) (hr : planOk ⟨p.n, p.bs ++ [x]⟩ = r) (A : Option Addr) (b o c B : Nat) (w : World) (hn : p.bs.length ≤ 10000) (hB : B ≤ w.heap.size) (hR : BdsR w B b o A p.bs) :
  Calls Tryz.prog 76 #[.agg #[.int .i64 p.n, .slice A p.bs.length c], .agg #[.int .i64 x.f, .int .i64 x.t, .int .i64 x.m]] w fun e w' =>
   ∃ A1 c1 g1, e = .returned (.tuple #[.agg #[.int .i64 q.n, .slice A1 q.bs.length c1], .bool r]) ∧ BdsR w' w'.heap.size g1 0 A1 q.bs ∧ OwnB w.heap.size w' (.slice A1 q.bs.length c1) q.bs ∧ Below w.heap.size w w' := by
 obtain ⟨n, bs⟩ := p
 dsimp only at *
 obtain ⟨qs, hqs⟩ : ∃ qs, bs ++ [x] = qs := ⟨_, rfl⟩
 have hql : qs.length ≤ 2000000 := by rw [← hqs]; simp; omega
 have Hqs := hide hqs
 rw [hqs] at hq hr
 have Hq := hide hq
 have Hr := hide hr
 clear hq hr hqs
 go_enter Tryz.func76, Tryz.ntmps76
 go_wp2_with (first
  | (go_at_call 102; go_fit (with_q ⟨n, bs⟩ [x] qs Hqs.out A _ b o c _ 0 _ (w.heap.size + 4) _ (by dsimp only; omega) (by simp) (by simp only [World.size_alloc, World.size_drew]; omega) (BdsR.more (hR.below ((show Below w.heap.size w _ by go_grown).mono hB)) (by omega)) (blk_bd _ _ x _ _ (by simp) (Below.refl _ _) (by omega))); rintro e w1 ⟨A1, c1, g1, rfl, hr1, hown, hb⟩; obtain ⟨hc, hf⟩ := bcell hb; have hW1 : Below w.heap.size w w1 := bthen (by go_grown) hb; clear hown)
  | (go_at_call 75; go_fit (told_q ⟨n, qs⟩ q r Hq.out Hr.out A1 g1 0 c1 w1.heap.size w1 hql (Nat.le_refl _) hr1); rintro e w2 ⟨A2, c2, g2, rfl, hr2, hown2, hb2⟩; have hb3 := bthen hb hb2; obtain ⟨hc2, hf2⟩ := bcell hb3))
 have hs0 : w2.cell? ⟨w.heap.size + 1 + 1, 0, none⟩ = some (.int .i64 0) := by rw [hc2 _ _ (by simp only [World.size_alloc, World.size_drew]; omega)]; simp [go_sem]
 have hs1 : w2.cell? ⟨w.heap.size + 1 + 1, 1, none⟩ = some (.slice none 0 0) := by rw [hc2 _ _ (by simp only [World.size_alloc, World.size_drew]; omega)]; simp [go_sem]
 obtain ⟨r0, r1⟩ := two_cells (a := .int .i64 q.n) (b := .slice A2 q.bs.length c2) hs0 hs1
 refine bodyPost_ret (v := .tuple #[.agg #[.int .i64 q.n, .slice A2 q.bs.length c2], .bool r]) (by simp [results, Tryz.results76, go_sem, r0, r1]) rfl ?_
 have hz : w.heap.size + 1 + 1 < w1.heap.size := by have := hb.size; simp only [World.size_alloc] at this; omega
 have ho : OwnB w.heap.size _ (.slice A2 q.bs.length c2) q.bs := own_less (own_set_low (p := ⟨w.heap.size + 1 + 1, 1, none⟩) (own_set_low (p := ⟨w.heap.size + 1 + 1, 0, none⟩) hown2 hz (.int .i64 q.n)) hz (.slice A2 q.bs.length c2)) hW1.size
 obtain ⟨g, hr⟩ := OwnB.readsA ho
 exact ⟨_, _, g, rfl, hr, ho, ((bthen hW1 hb2).setCell (by simp; omega) _).setCell (by simp; omega) _⟩

theorem in_t {n lo hi : Int} {q : Bool} (h : inB n lo hi = q) (w : World) : Calls Tryz.prog 89 #[.int .i64 n, .int .i64 lo, .int .i64 hi] w fun e w' => e = .returned (.bool q) ∧ w' = w := by
 subst h
 exact (in_c n lo hi w).mono (fun e w' h => ⟨h.1, h.2.symm⟩)
/-- What is told of it. -/
def LastR (w : World) (b2 o2 : Nat) (xs : List Int) (a : Tm) (i : Nat) (v : Value) : Prop := ∃ A3 c3 ys, v = .tuple #[.int .i64 (lastV a xs i).1, .slice A3 (List.length ys) c3, .bool (lastV a xs i).2.1] ∧ ys = xs.drop (i + a.steps) ∧ ys.length ≤ c3 ∧ IntsR w w.heap.size b2 (o2 + a.steps) A3 ys
theorem lastV_small {xs : List Int} (hx : ∀ j : Nat, -100000 ≤ xs.getD j 0 ∧ xs.getD j 0 ≤ 100000) : ∀ (a : Tm) (i : Nat), -100000 * (a.size : Int) ≤ (lastV a xs i).1 ∧ (lastV a xs i).1 ≤ 100000 * (a.size : Int)
 | .step l h, i => by have := hx i; simp only [lastV, Tm.size]; omega
 | .wth a h, i => by have := lastV_small hx a i; simp only [lastV, Tm.size]; omega
 | .thn a b, i => by have := lastV_small hx a i; have := lastV_small hx b (lastV a xs i).2.2; simp only [lastV, Tm.size]; omega
 | .bth a b, i => by have := lastV_small hx a i; simp only [lastV, Tm.size]; omega
theorem IntsR.drop1 {w : World} {B b o : Nat} {A A' : Option Addr} {y : Int} {ys : List Int} (h : IntsR w B b o A (y :: ys)) (hA : 0 < ys.length → A' = some ⟨b, o + 1, none⟩) : IntsR w B b (o + 1) A' ys :=
 ⟨hA, fun hx => h.lt (by simp), fun j hj => by
  have := h.cell (j + 1) (by simp; omega)
  rw [show o + (j + 1) = o + 1 + j by omega] at this
  simpa using this⟩
theorem IntsR.next {w w' : World} {b o : Nat} {A : Option Addr} {xs : List Int} (h : IntsR w w.heap.size b o A xs) (hb : Below w.heap.size w w') : IntsR w' w'.heap.size b o A xs := (h.below hb).more hb.size

theorem LastR.next {w w' : World} {b2 o2 : Nat} {xs : List Int} {a : Tm} {i : Nat} {v : Value} (h : LastR w b2 o2 xs a i v) (hb : Below w.heap.size w w') : LastR w' b2 o2 xs a i v := by
 obtain ⟨A3, c3, ys, h1, h2, h3, h4⟩ := h
 exact ⟨A3, c3, ys, h1, h2, h3, h4.next hb⟩
def lastOf (t : List Mk) (xs : List Int) : Int × Bool := match termOf t with
 | some a => if a.steps = xs.length ∧ (lastV a xs 0).2.1 = true then ((lastV a xs 0).1, true) else (-1, false)
 | none => (-1, false)
theorem stepsOf_tm {t : List Mk} {a : Tm} (h : termOf t = some a) : stepsOf t = a.steps := by
 obtain ⟨hf, hm, h11⟩ := term_back h
 unfold stepsOf termOk
 rw [h, if_pos (by simp), ← hm, (cntK_marks a).1]
end Go.Proofs.YtmnajkhoacogjaaGreatDoor
