/-
 Chapter 1 of the program: which plans are plans.
 Chapter 1 of the program: plans that are handed on.
-/
import Derived.Test.YtmnajkhoacogjaaGreatDoorBase
namespace Go.Proofs.YtmnajkhoacogjaaGreatDoor
set_option linter.unusedVariables false
set_option linter.unusedSimpArgs false
open Go.RowKit Pp

theorem in_c (n lo hi : Int) (w : World) : Calls Tryz.prog 89 #[.int .i64 n, .int .i64 lo, .int .i64 hi] w fun e w' => e = .returned (.bool (inB n lo hi)) ∧ w = w' := by
 by_cases h1 : lo ≤ n
 all_goals by_cases h2 : n ≤ hi
 all_goals
  go_enter Tryz.func89, Tryz.ntmps89
  go_wp2
  all_goals go_ret
  all_goals exact ⟨by simp [inB, h1, h2], rfl⟩

theorem has_c (n k : Int) (A : Option Addr) (m c : Nat) (w : World) (h1 : -1000000000 ≤ n) (h2 : n ≤ 1000000000) :
  Calls Tryz.prog 112 #[.agg #[.int .i64 n, .slice A m c], .int .i64 k] w fun e w' => e = .returned (.bool (inB k 0 (n - 1))) ∧ Below w.heap.size w w' := by
 go_enter Tryz.func112, Tryz.ntmps112
 go_wp2_with (go_at_call 89; refine (in_c _ _ _ _).mono ?_; rintro e w' ⟨rfl, rfl⟩)
 go_ret
 exact ⟨rfl, (Below.refl _ _).alloc (Nat.le_refl _) _⟩

theorem boundOk_c (n : Int) (b : Bd) (A : Option Addr) (l c : Nat) (w : World) (h1 : -1000000000 ≤ n) (h2 : n ≤ 1000000000) :
  Calls Tryz.prog 92 #[.agg #[.int .i64 n, .slice A l c], .agg #[.int .i64 b.f, .int .i64 b.t, .int .i64 b.m]] w fun e w' => e = .returned (.bool (bdOk n b)) ∧ Below w.heap.size w w' := by
 have e : bdOk n b = (inB b.f 0 (n - 1) && inB b.t 0 (n - 1) && inB b.m (-99) 99) := rfl
 rw [e]
 generalize ha : inB b.f 0 (n - 1) = a
 generalize hb : inB b.t 0 (n - 1) = b'
 generalize hc : inB b.m (-99) 99 = c'
 have Ha := hide ha; have Hb := hide hb; have Hc := hide hc
 clear ha hb hc e
 cases a
 ·go_enter Tryz.func92, Tryz.ntmps92
  go_wp2_with (go_at_call 112; refine (has_c n _ A l c _ h1 h2).mono ?_; rintro e w' ⟨rfl, hb⟩; rw [Ha.out]; obtain ⟨hc, hf⟩ := bcell hb; have hz := hb.size; (try simp only [World.size_alloc] at hz); have hz0 : w.heap.size < w'.heap.size := (by omega); have hz1 : w.heap.size + 1 < w'.heap.size := (by omega); have hW : Below w.heap.size w w' := bthen (by go_grown) hb)
  go_ret
  exact ⟨by simp, hW⟩
 ·cases b'
  ·go_enter Tryz.func92, Tryz.ntmps92
   go_wp2_with (go_at_call 112; refine (has_c n _ A l c _ h1 h2).mono ?_; rintro e w' ⟨rfl, hb⟩; (first | rw [Ha.out] | rw [Hb.out]); obtain ⟨hc, hf⟩ := bcell hb; have hz := hb.size; (try simp only [World.size_alloc] at hz); have hz0 : w.heap.size < w'.heap.size := (by omega); have hz1 : w.heap.size + 1 < w'.heap.size := (by omega); have hW : Below w.heap.size w w' := bthen (by go_grown) hb)
   go_ret
   exact ⟨by simp, hW⟩
  ·cases c'
   all_goals
    go_enter Tryz.func92, Tryz.ntmps92
    go_wp2_with (first | (go_at_call 112; refine (has_c n _ A l c _ h1 h2).mono ?_; rintro e w' ⟨rfl, hb⟩; (first | rw [Ha.out] | rw [Hb.out]); obtain ⟨hc, hf⟩ := bcell hb; have hz := hb.size; (try simp only [World.size_alloc] at hz); have hz0 : w.heap.size < w'.heap.size := (by omega); have hz1 : w.heap.size + 1 < w'.heap.size := (by omega); have hW : Below w.heap.size w w' := bthen (by go_grown) hb) | (go_at_call 89; refine (in_c _ _ _ _).mono ?_; rintro e w' ⟨rfl, rfl⟩; rw [Hc.out]))
    go_ret
    exact ⟨by simp, hW⟩

/-- The test of PlanOk's look for a bound that is none. -/
theorem planOk1_c (n : Int) (b : Bd) (A : Option Addr) (l c pb : Nat) (w : World) (h1 : -1000000000 ≤ n) (h2 : n ≤ 1000000000) (hp0 : w.cell? ⟨pb, 0, none⟩ = some (.int .i64 n)) (hp1 : w.cell? ⟨pb, 1, none⟩ = some (.slice A l c)) :
  Calls Tryz.prog 91 #[.agg #[.int .i64 b.f, .int .i64 b.t, .int .i64 b.m], .pointer (some ⟨pb, 0, none⟩)] w fun e w' => e = .returned (.bool (!bdOk n b)) ∧ Below w.heap.size w w' := by
 have hlt := World.block_lt_of_cell? _ _ hp0
 go_enter Tryz.func91, Tryz.ntmps91
 go_wp2_with (go_at_call 92; refine (boundOk_c n b A l c _ h1 h2).mono ?_; rintro e w' ⟨rfl, hb⟩; obtain ⟨hc, hf⟩ := bcell hb; have hz := hb.size; (try simp only [World.size_alloc] at hz); have hz0 : w.heap.size < w'.heap.size := (by omega); have hW : Below w.heap.size w w' := bthen (by go_grown) hb)
 go_ret
 exact ⟨rfl, hW⟩

/-- slices.IndexFunc and slices.ContainsFunc over bounds, with the test 'impl.PlanOk$1'. -/
theorem planOk1_idx (a : Addr) (A : Option Addr) (b o c B : Nat) (bs : List Bd) (f : Bd → Bool) (w : World) (hn : bs.length ≤ 2000000) (hB : B ≤ w.heap.size) (hR : BdsR w B b o A bs)
  (H : ∀ (x : Bd) (w1 : World), Below w.heap.size w w1 → Calls Tryz.prog 91 (#[.agg #[.int .i64 x.f, .int .i64 x.t, .int .i64 x.m]] ++ #[.pointer (some a)]) w1 fun e w' => e = .returned (.bool (f x)) ∧ Below w1.heap.size w1 w') :
  Calls Tryz.prog 111 #[.slice A bs.length c, .func (.func 91) #[] #[.pointer (some a)]] w fun e w' => ∃ k : Int, e = .returned (.int .i64 k) ∧ (0 ≤ k ↔ bs.any f = true) ∧ Below w.heap.size w w' := by
 have HH := hide H
 clear H
 go_enter Tryz.func111, Tryz.ntmps111
 go_wp2
 go_loopg [8] bs.length (fun g i wr => ∃ k : Nat, k ≤ bs.length ∧ g = bs.length - k ∧ i = .int .i64 k ∧ Below w.heap.size w wr ∧ Hid ((bs.take k).any f = false))
 case atStart => exact ⟨0, Nat.zero_le _, rfl, rfl, Below.refl _ _, by simp [Hid]⟩
 case round =>
  obtain ⟨k, hk, rfl, rfl, hW0, hA⟩ := hrel
  by_cases hlt : k < bs.length
  ·obtain rfl := hR.addr (by omega)
   have hx := List.getElem?_eq_getElem hlt
   have hR' := hR.below (hW0.mono hB)
   have d0 := hR'.c0 k _ hx
   have d1 := hR'.c1 k _ hx
   have d2 := hR'.c2 k _ hx
   have hz : (k : Int) < (bs.length : Int) := by omega
   have hT : Hid (bs.take (k + 1) = bs.take k ++ [bs[k]]) := by rw [List.take_succ_eq_append_getElem hlt]; rfl
   generalize bs[k] = x at *
   clear hR' 
   have Hx := hide hx
   clear hx
   cases hfx : f x
   ·have Hf := hide hfx
    clear hfx
    go_wp2_with (go_at_call 91; refine (HH.out x wr hW0).mono ?_; rintro e w' ⟨rfl, hb⟩; rw [Hf.out]; have hW : Below w.heap.size w w' := bthen hW0 hb; clear hb)
    go_roundg (bs.length - (k + 1))
    case measure => go_light; omega
    case rel => go_light; exact ⟨k + 1, by omega, rfl, by go_num, hW, by unfold Hid; rw [hT.out, List.any_append, hA.out]; simp [Hf.out]⟩
   ·have Hf := hide hfx
    clear hfx
    go_wp2_with (go_at_call 91; refine (HH.out x wr hW0).mono ?_; rintro e w' ⟨rfl, hb⟩; rw [Hf.out]; have hW : Below w.heap.size w w' := bthen hW0 hb; clear hb)
    go_ret
    exact ⟨k, rfl, ⟨fun _ => List.any_eq_true.2 ⟨x, List.mem_of_getElem? Hx.out, Hf.out⟩, fun _ => by omega⟩, hW⟩
  ·go_wp2
   go_ret
   refine ⟨-1, rfl, ⟨fun h => by omega, fun h => ?_⟩, hW0⟩
   have := hA.out
   rw [List.take_of_length_le (by omega), h] at this
   cases this
theorem planOk1_has (a : Addr) (A : Option Addr) (b o c B : Nat) (bs : List Bd) (f : Bd → Bool) (w : World) (hn : bs.length ≤ 2000000) (hB : B ≤ w.heap.size) (hR : BdsR w B b o A bs)
  (H : ∀ (x : Bd) (w1 : World), Below w.heap.size w w1 → Calls Tryz.prog 91 (#[.agg #[.int .i64 x.f, .int .i64 x.t, .int .i64 x.m]] ++ #[.pointer (some a)]) w1 fun e w' => e = .returned (.bool (f x)) ∧ Below w1.heap.size w1 w') :
  Calls Tryz.prog 90 #[.slice A bs.length c, .func (.func 91) #[] #[.pointer (some a)]] w fun e w' => e = .returned (.bool (bs.any f)) ∧ Below w.heap.size w w' := by
 have HH := hide H
 clear H
 cases hf : bs.any f
 ·have Hf := hide hf
  clear hf
  go_enter Tryz.func90, Tryz.ntmps90
  go_wp2_with (go_at_call 111; refine (planOk1_idx _ A b o c B bs f w hn hB hR HH.out).mono ?_; rintro e w' ⟨k, rfl, hk, hW⟩; rw [Hf.out] at hk; have hk' : decide (0 ≤ k) = false := (by simp at hk ⊢; omega); clear hk)
  go_ret
  exact ⟨rfl, hW⟩
 ·have Hf := hide hf
  clear hf
  go_enter Tryz.func90, Tryz.ntmps90
  go_wp2_with (go_at_call 111; refine (planOk1_idx _ A b o c B bs f w hn hB hR HH.out).mono ?_; rintro e w' ⟨k, rfl, hk, hW⟩; rw [Hf.out] at hk; have hk' : decide (0 ≤ k) = true := (by simp at hk ⊢; omega); clear hk)
  go_ret
  exact ⟨rfl, hW⟩

theorem all_any {α : Type} (f : α → Bool) (l : List α) : l.all f = !(l.any fun x => !f x) := by
 induction l with
 | nil => rfl
 | cons a l ih => simp [ih]

theorem planOk_c (p : Pl) (A : Option Addr) (b o c B : Nat) (w : World) (hn : p.bs.length ≤ 2000000) (hB : B ≤ w.heap.size) (hR : BdsR w B b o A p.bs) :
  Calls Tryz.prog 58 #[.agg #[.int .i64 p.n, .slice A p.bs.length c]] w fun e w' => e = .returned (.bool (planOk p)) ∧ Below w.heap.size w w' := by
 obtain ⟨n, bs⟩ := p
 dsimp only at *
 have e : planOk ⟨n, bs⟩ = (inB n 1 6 && decide (bs.length ≤ 16) && !(bs.any fun x => !bdOk n x)) := by
  rw [← all_any]; rfl
 rw [e]
 cases h1 : inB n 1 6
 ·have H1 := hide h1
  clear h1 e
  go_enter Tryz.func58, Tryz.ntmps58
  go_wp2_with (go_at_call 89; refine (in_c _ _ _ _).mono ?_; rintro e w' ⟨rfl, rfl⟩; rw [H1.out])
  go_ret
  exact ⟨by simp, by go_grown⟩
 ·have hn' := inB_iff.1 h1
  obtain ⟨hn1, hn2⟩ := hn'
  have H1 := hide h1
  clear h1 e
  by_cases h2 : bs.length ≤ 16
  ·have hR' : BdsR (w.alloc (Obj.cells #[Value.int IntKind.i64 n, Value.slice A bs.length c] 34)) B b o A bs := hR.below ((show Below w.heap.size w _ by go_grown).mono hB)
   have hB' : B ≤ (w.alloc (Obj.cells #[Value.int IntKind.i64 n, Value.slice A bs.length c] 34)).heap.size := by simp; omega
   have HH : Hid (∀ (x : Bd) (w1 : World), Below (w.alloc (Obj.cells #[Value.int IntKind.i64 n, Value.slice A bs.length c] 34)).heap.size (w.alloc (Obj.cells #[Value.int IntKind.i64 n, Value.slice A bs.length c] 34)) w1 →
     Calls Tryz.prog 91 (#[.agg #[.int .i64 x.f, .int .i64 x.t, .int .i64 x.m]] ++ #[.pointer (some ⟨w.heap.size, 0, none⟩)]) w1 fun e w' => e = .returned (.bool (!bdOk n x)) ∧ Below w1.heap.size w1 w') := by
    intro x w1 hb1
    obtain ⟨hc, hf⟩ := bcell hb1
    exact planOk1_c n x A bs.length c w.heap.size w1 (by omega) (by omega) (by rw [hc _ _ (by simp), World.cell?_alloc_at _ _ _ _ rfl]; rfl) (by rw [hc _ _ (by simp), World.cell?_alloc_at _ _ _ _ rfl]; rfl)
   have hz : (bs.length : Int) ≤ 16 := by omega
   go_enter Tryz.func58, Tryz.ntmps58
   go_wp2_with (first | (go_at_call 89; refine (in_c _ _ _ _).mono ?_; rintro e w' ⟨rfl, rfl⟩; rw [H1.out]) | (go_at_call 90; refine (planOk1_has _ A b o c B bs (fun x => !bdOk n x) _ hn hB' hR' HH.out).mono ?_; rintro e w' ⟨rfl, hb⟩; have hW : Below w.heap.size w w' := bthen (by go_grown) hb))
   go_ret
   exact ⟨by simp [h2], hW⟩
  ·have hz : decide ((bs.length : Int) ≤ 16) = false := by simp; omega
   go_enter Tryz.func58, Tryz.ntmps58
   go_wp2_with (go_at_call 89; refine (in_c _ _ _ _).mono ?_; rintro e w' ⟨rfl, rfl⟩; rw [H1.out])
   go_ret
   exact ⟨by simp [h2], by go_grown⟩

set_option maxHeartbeats 1000000 in
theorem clone_c (p : Pl) (A : Option Addr) (b o c B : Nat) (w : World) (hn : p.bs.length ≤ 2000000) (hB : B ≤ w.heap.size) (hR : BdsR w B b o A p.bs) :
  Calls Tryz.prog 74 #[.agg #[.int .i64 p.n, .slice A p.bs.length c]] w fun e w' => ∃ v, e = .returned (.agg #[.int .i64 p.n, v]) ∧ OwnB w.heap.size w' v p.bs ∧ Below w.heap.size w w' := by
 obtain ⟨n, bs⟩ := p
 dsimp only at *
 obtain ⟨i0, hi0, hz0, hz1, hz2⟩ := info_parts infoB
 go_enter Tryz.func74, Tryz.ntmps74
 go_wp2_with fail
 go_region_held3 (fun w' => w'.cell? ⟨w.heap.size, 0, none⟩ = some (.int .i64 n) ∧ w'.cell? ⟨w.heap.size, 1, none⟩ = some (.slice A bs.length c))
  (first | go_keep | (go_split_ands; refine ⟨?_, ?_⟩ <;> (rw [hgrow.cell_far _ (by simp only [World.size_alloc, World.size_drew]; omega) (by simp [Value.ownBlock])]; assumption)))
  ((refine app_step _ rfl _ _ _ rfl w.heap.size 97 i0 _ 3 24 Tryz.underlying32 hi0 hz0 hz1 hz2 rfl (by omega) (.slice none 0 0) 0 [] rfl (World.ownsRow_nil _ _ _ _)
     A bs.length c (bdCs bs) rfl (bdCs_length bs) ((hR.below ((show Below w.heap.size w _ by go_grown).mono hB)).news) (bdCs_one bs) (by omega) (by omega) (by simp only [World.size_alloc, World.size_drew]; omega) ?_
    intro A1 c1 w1 hown1 hgrow hat
    have hs0 : w1.cell? ⟨w.heap.size + 1, 0, none⟩ = some (.int .i64 0) := (by rw [hgrow.cell_far _ (by simp only [World.size_alloc, World.size_drew]; omega) (by simp [Value.ownBlock])]; simp [go_sem])
    have hs1 : w1.cell? ⟨w.heap.size + 1, 1, none⟩ = some (.slice none 0 0) := (by rw [hgrow.cell_far _ (by simp only [World.size_alloc, World.size_drew]; omega) (by simp [Value.ownBlock])]; simp [go_sem])
    have hf0 : w1.frozen? ⟨w.heap.size + 1, 0, none⟩ = false := (by rw [hgrow.frozen_far _ (by simp only [World.size_alloc, World.size_drew]; omega) (by simp [Value.ownBlock])]; simp [go_sem])
    have hf1 : w1.frozen? ⟨w.heap.size + 1, 1, none⟩ = false := (by rw [hgrow.frozen_far _ (by simp only [World.size_alloc, World.size_drew]; omega) (by simp [Value.ownBlock])]; simp [go_sem])))
 obtain ⟨r0, r1⟩ := two_cells (a := .int .i64 n) (b := .slice A1 bs.length c1) hs0 hs1
 go_wp2
 refine bodyPost_ret (v := .agg #[.int .i64 n, .slice A1 bs.length c1]) (by simp [results, Tryz.results74, go_sem, r0, r1]) rfl ?_
 rw [Nat.zero_add] at hown1
 rw [Nat.zero_add] at hat
 have hne : (Value.slice A1 bs.length c1).ownBlock ≠ some (w.heap.size + 1) := by
  rcases hat with e | e
  ·rw [e]; simp [Value.ownBlock]
  ·rw [e]; simp
 refine ⟨_, rfl, own_set (p := ⟨w.heap.size + 1, 1, none⟩) (own_set (p := ⟨w.heap.size + 1, 0, none⟩) hown1 hne _) hne _, ?_⟩
 exact ((Below.grown (row := none) (by go_grown) hgrow (by simp only [World.size_alloc, World.size_drew]; omega) (by simp)).setCell (by simp) _).setCell (by simp) _

set_option maxRecDepth 100000 in
/-- slices.Grow of nil. -/
theorem grow_c (n : Nat) (w : World) (hn : n ≤ 2000000) :
  Calls Tryz.prog 127 #[.slice none 0 0, .int .i64 n] w fun e w' => ∃ A c, e = .returned (.slice A 0 c) ∧ w'.ownsRow w.heap.size 97 3 (.slice A 0 c) 0 [] ∧ Below w.heap.size w w' := by
 obtain ⟨i0, hi0, hz0, hz1, hz2⟩ := info_parts infoB
 by_cases h0 : n = 0
 ·subst h0
  go_enter Tryz.func127, Tryz.ntmps127
  go_wp2
  go_ret
  exact ⟨none, 0, rfl, World.ownsRow_nil _ _ _ _, Below.refl _ _⟩
 ·have hz : (0 : Int) < (n : Int) := by omega
  have hnb : (n : Int) * (Tryz.t97.bytes : Int) ≤ 281474976710656 := by show (n : Int) * 24 ≤ _; omega
  have hnc : Builtin.nextslicecap n 0 * Tryz.t97.bytes ≤ 281474976710656 := by
   rw [nextslicecap_zero (by omega)]; show n * 24 ≤ _; omega
  have hge := grownCap_ge w n 0 97
  have hle := grownCap_le_maxLen w n 0 97 (by unfold maxLen; omega)
  unfold grownCap at hge hle
  go_enter Tryz.func127, Tryz.ntmps127
  go_wp2
  go_ret
  refine ⟨_, _, rfl, ⟨rfl, .inr ⟨w.heap.size, _, _, rfl, Nat.le_refl _, heap_alloc_new w _, Nat.zero_le _, hle, ?_, by simp⟩⟩, by go_grown⟩
  simp only [Array.size_append, size_zeroCells, List.size_toArray, List.length_cons, List.length_nil]
  omega

def tot (X : Nat → List Bd) : Nat → Nat
 | 0 => 0
 | k + 1 => tot X k + (X k).length
def cat (X : Nat → List Bd) : Nat → List Bd
 | 0 => []
 | k + 1 => cat X k ++ X k
theorem cat_length (X : Nat → List Bd) : ∀ k, (cat X k).length = tot X k
 | 0 => rfl
 | k + 1 => by simp [cat, tot, cat_length X k]
theorem tot_le (X : Nat → List Bd) (h : ∀ k, (X k).length ≤ 100000) : ∀ k, tot X k ≤ k * 100000
 | 0 => by simp [tot]
 | k + 1 => by have := tot_le X h k; have := h k; simp only [tot]; omega

set_option maxHeartbeats 1000000 in
set_option maxRecDepth 100000 in
/-- slices.Concat of a few rows of bounds. -/
theorem concat_c (m c sb B : Nat) (A : Nat → Option Addr) (b o cp : Nat → Nat) (X : Nat → List Bd) (w : World) (hm : m ≤ 4) (hX : ∀ k, (X k).length ≤ 100000) (hB : B ≤ w.heap.size)
  (hs : sb < w.heap.size) (hS : ∀ k, k < m → w.cell? ⟨sb, k, none⟩ = some (.slice (A k) (X k).length (cp k))) (hR : ∀ k, k < m → BdsR w B (b k) (o k) (A k) (X k)) :
  Calls Tryz.prog 118 #[.slice (some ⟨sb, 0, none⟩) m c] w fun e w' => ∃ A1 c1, e = .returned (.slice A1 (cat X m).length c1) ∧ OwnB w.heap.size w' (.slice A1 (cat X m).length c1) (cat X m) ∧ Below w.heap.size w w' := by
 obtain ⟨i0, hi0, hz0, hz1, hz2⟩ := info_parts infoB
 go_enter Tryz.func118, Tryz.ntmps118
 go_wp2
 go_loopg [3, 11] m (fun g s i wr => w = wr ∧ ∃ k : Nat, k ≤ m ∧ g = m - k ∧ i = .int .i64 k ∧ s = .int .i64 (tot X k))
 case atStart => exact ⟨rfl, 0, Nat.zero_le _, rfl, rfl, rfl⟩
 case round =>
  obtain ⟨rfl, k, hk, rfl, rfl, rfl⟩ := hrel
  have ht := tot_le X hX k
  by_cases hlt : k < m
  ·have hz : (k : Int) < (m : Int) := by omega
   have h1 := hS k hlt
   have h2 := hX k
   have h3 : decide (((tot X k : Nat) : Int) + ((X k).length : Int) < 0) = false := by simp; omega
   go_wp2
   go_roundg (m - (k + 1))
   case measure => go_light; omega
   case rel => go_light; exact ⟨rfl, k + 1, by omega, rfl, by go_num, by simp only [tot]; go_num⟩
  ·obtain rfl : m = k := by omega
   have Ht := hide ht
   go_wp2_with (go_at_call 127; refine (grow_c _ _ (by omega)).mono ?_; rintro e w1 ⟨A1, c1, rfl, hown, hW⟩)
   go_loopg [6, 27] m (fun g s i wr => ∃ j : Nat, j ≤ m ∧ g = m - j ∧ i = .int .i64 j ∧ ∃ A2 c2, s = .slice A2 (tot X j) c2 ∧ wr.ownsRow w.heap.size 97 3 (.slice A2 (tot X j) c2) (tot X j) (bdCs (cat X j)) ∧ Below w.heap.size w wr)
   case atStart => exact ⟨0, Nat.zero_le _, rfl, rfl, A1, c1, rfl, hown, hW⟩
   case round =>
    clear hown hW
    obtain ⟨j, hj, rfl, rfl, A2, c2, rfl, hown, hW⟩ := hrel
    by_cases hlt : j < m
    ·have hz : (j : Int) < (m : Int) := by omega
     have h1 : wr.cell? ⟨sb, j, none⟩ = some (.slice (A j) (X j).length (cp j)) := (hW.cell (p := ⟨sb, j, none⟩) hs).trans (hS j hlt)
     have hr := (hR j hlt).below (hW.mono hB)
     have h2 := hX j
     have h3 := tot_le X hX j
     go_wp2_with (at_builtin; refine app_list _ rfl (.tmp 31) (.tmp 32) _ rfl w.heap.size 97 i0 _ 3 24 Tryz.underlying32 hi0 hz0 hz1 hz2 rfl (by omega) _ _ _ rfl hown (A j) (X j).length (cp j) (bdCs (X j)) rfl (bdCs_length _) hr.news (bdCs_one _) (by omega) (by omega) hW.size ?_; intro A3 c3 w2 hown2 hg2 hat2)
     go_roundg (m - (j + 1))
     case measure => go_light; omega
     case rel =>
      go_light
      refine ⟨j + 1, by omega, rfl, by go_num, A3, c3, rfl, ?_, below_app hW hown hg2 (Nat.le_refl _) hW.size⟩
      rw [cat, bdCs_append]
      exact hown2
    ·obtain rfl : m = j := by omega
     go_wp2
     go_ret
     refine ⟨A2, c2, ?_, ?_, hW⟩
     ·rw [cat_length]; rfl
     ·unfold OwnB; rw [cat_length]; exact hown

set_option maxHeartbeats 2000000 in
set_option maxRecDepth 100000 in
theorem with_c (p : Pl) (ms : List Bd) (A A' : Option Addr) (b o c b' o' c' B : Nat) (w : World) (hn : p.bs.length ≤ 100000) (hn' : ms.length ≤ 100000) (hB : B ≤ w.heap.size) (hR : BdsR w B b o A p.bs) (hR' : BdsR w B b' o' A' ms) :
  Calls Tryz.prog 102 #[.agg #[.int .i64 p.n, .slice A p.bs.length c], .slice A' ms.length c'] w fun e w' =>
   ∃ A1 c1, e = .returned (.agg #[.int .i64 p.n, .slice A1 (p.bs ++ ms).length c1]) ∧ OwnB w.heap.size w' (.slice A1 (p.bs ++ ms).length c1) (p.bs ++ ms) ∧ Below w.heap.size w w' := by
 obtain ⟨n, bs⟩ := p
 dsimp only at *
 let X : Nat → List Bd := fun k => if k = 0 then bs else if k = 1 then ms else []
 have eX : cat X 2 = bs ++ ms := by simp [cat, X]
 have HX : Hid (cat X 2 = bs ++ ms) := eX
 have hXl : ∀ k, (X k).length ≤ 100000 := by
  intro k; simp only [X]; split
  ·exact hn
  ·split
   ·exact hn'
   ·simp
 have HXl := hide hXl
 have hX0 : X 0 = bs := rfl
 have hX1 : X 1 = ms := rfl
 have HX0 := hide hX0
 have HX1 := hide hX1
 clear hXl hX0 hX1 eX
 clear_value X
 go_enter Tryz.func102, Tryz.ntmps102
 go_wp2_with fail
 go_region_held3 (fun w' => w'.cell? ⟨w.heap.size, 0, none⟩ = some (.int .i64 n) ∧ w'.cell? ⟨w.heap.size, 1, none⟩ = some (.slice A bs.length c))
  (first | go_keep | (go_split_ands; refine ⟨?_, ?_⟩ <;> (rw [hc _ _ (by simp only [World.size_alloc, World.size_drew]; omega)]; assumption)))
  ((go_at_call 118
    refine (concat_c 2 _ (w.heap.size + 2) B (fun k => if k = 0 then A else A') (fun k => if k = 0 then b else b') (fun k => if k = 0 then o else o') (fun k => if k = 0 then c else c') X _ (by omega) HXl.out (by simp only [World.size_alloc, World.size_drew]; omega) (by simp only [World.size_alloc, World.size_drew]; omega) ?_ ?_).mono ?_
    ·intro k hk
     have hk' : k = 0 ∨ k = 1 := (by omega)
     rcases hk' with rfl | rfl
     ·simp [go_sem, HX0.out]
     ·simp [go_sem, HX1.out]
    ·intro k hk
     have hk' : k = 0 ∨ k = 1 := (by omega)
     rcases hk' with rfl | rfl
     ·rw [HX0.out]; exact hR.below ((show Below w.heap.size w _ by go_grown).mono hB)
     ·rw [HX1.out]; exact hR'.below ((show Below w.heap.size w _ by go_grown).mono hB)
    rintro e w1 ⟨A1, c1, rfl, hown, hb⟩
    obtain ⟨hc, hf⟩ := bcell hb
    have hs0 : w1.cell? ⟨w.heap.size + 1, 0, none⟩ = some (.int .i64 0) := (by rw [hc _ _ (by simp only [World.size_alloc, World.size_drew]; omega)]; simp [go_sem])
    have hs1 : w1.cell? ⟨w.heap.size + 1, 1, none⟩ = some (.slice none 0 0) := (by rw [hc _ _ (by simp only [World.size_alloc, World.size_drew]; omega)]; simp [go_sem])
    have hf0 : w1.frozen? ⟨w.heap.size + 1, 0, none⟩ = false := (by rw [hf _ _ (by simp only [World.size_alloc, World.size_drew]; omega)]; simp [go_sem])
    have hf1 : w1.frozen? ⟨w.heap.size + 1, 1, none⟩ = false := (by rw [hf _ _ (by simp only [World.size_alloc, World.size_drew]; omega)]; simp [go_sem])))
 obtain ⟨r0, r1⟩ := two_cells (a := .int .i64 n) (b := .slice A1 (cat X 2).length c1) hs0 hs1
 go_wp2
 refine bodyPost_ret (v := .agg #[.int .i64 n, .slice A1 (cat X 2).length c1]) (by simp [results, Tryz.results102, go_sem, r0, r1]) rfl ?_
 rw [HX.out] at hown ⊢
 refine ⟨_, _, rfl, own_less (base := w.heap.size + 3) (own_set_low (p := ⟨w.heap.size + 1, 1, none⟩) (own_set_low (p := ⟨w.heap.size + 1, 0, none⟩) ?_ (by simp) _) (by simp) _) (by omega), ?_⟩
 ·exact own_less hown (by simp only [World.size_alloc, World.size_drew]; omega)
 ·exact (((Below.trans (b := (((w.alloc (Obj.cells #[Value.int IntKind.i64 n, Value.slice A bs.length c] 34)).alloc (Obj.cells #[Value.int IntKind.i64 0, Value.slice none 0 0] 34)).alloc
   (Obj.cells #[Value.slice A bs.length c, Value.slice A' ms.length c'] 32)).drew) (by go_grown) (hb.mono (by simp only [World.size_alloc, World.size_drew]; omega))).setCell (by simp) _).setCell (by simp) _)

def toldP (p : Pl) : Pl := if planOk p then p else ⟨0, []⟩

set_option maxHeartbeats 1000000 in
theorem told_c (p : Pl) (A : Option Addr) (b o c B : Nat) (w : World) (hn : p.bs.length ≤ 2000000) (hB : B ≤ w.heap.size) (hR : BdsR w B b o A p.bs) :
  Calls Tryz.prog 75 #[.agg #[.int .i64 p.n, .slice A p.bs.length c]] w fun e w' =>
   ∃ A1 c1, e = .returned (.tuple #[.agg #[.int .i64 (toldP p).n, .slice A1 (toldP p).bs.length c1], .bool (planOk p)]) ∧ OwnB w.heap.size w' (.slice A1 (toldP p).bs.length c1) (toldP p).bs ∧ Below w.heap.size w w' := by
 unfold toldP
 cases hp : planOk p
 ·have Hp := hide hp
  clear hp
  obtain ⟨n, bs⟩ := p
  dsimp only at *
  go_enter Tryz.func75, Tryz.ntmps75
  go_wp2_with (go_at_call 58; refine (planOk_c ⟨n, bs⟩ A b o c B _ hn (by simp only [World.size_alloc, World.size_drew]; omega) (hR.below ((show Below w.heap.size w _ by go_grown).mono hB))).mono ?_; rintro e w' ⟨rfl, hb⟩; rw [Hp.out]; obtain ⟨hc, hf⟩ := bcell hb; have hz := hb.size; (try simp only [World.size_alloc] at hz); have hz0 : w.heap.size < w'.heap.size := (by omega); have hz1 : w.heap.size + 1 < w'.heap.size := (by omega); have hW : Below w.heap.size w w' := bthen (by go_grown) hb)
  have hs0 : w'.cell? ⟨w.heap.size + 1, 0, none⟩ = some (.int .i64 0) := by rw [hc _ _ (by simp only [World.size_alloc, World.size_drew]; omega)]; simp [go_sem]
  have hs1 : w'.cell? ⟨w.heap.size + 1, 1, none⟩ = some (.slice none 0 0) := by rw [hc _ _ (by simp only [World.size_alloc, World.size_drew]; omega)]; simp [go_sem]
  obtain ⟨r0, r1⟩ := two_cells (a := .int .i64 0) (b := .slice none 0 0) hs0 hs1
  refine bodyPost_ret (v := .tuple #[.agg #[.int .i64 0, .slice none 0 0], .bool false]) (by simp [results, Tryz.results75, go_sem, r0, r1]) rfl ?_
  exact ⟨none, 0, rfl, World.ownsRow_nil _ _ _ _, (hW.setCell (by simp) _).setCell (by simp) _⟩
 ·have Hp := hide hp
  clear hp
  obtain ⟨n, bs⟩ := p
  dsimp only at *
  go_enter Tryz.func75, Tryz.ntmps75
  go_wp2_with (first | (go_at_call 58; refine (planOk_c ⟨n, bs⟩ A b o c B _ hn (by simp only [World.size_alloc, World.size_drew]; omega) (hR.below ((show Below w.heap.size w _ by go_grown).mono hB))).mono ?_; rintro e w' ⟨rfl, hb⟩; rw [Hp.out]; obtain ⟨hc, hf⟩ := bcell hb; have hz := hb.size; (try simp only [World.size_alloc] at hz); have hz0 : w.heap.size < w'.heap.size := (by omega); have hz1 : w.heap.size + 1 < w'.heap.size := (by omega); have hW : Below w.heap.size w w' := bthen (by go_grown) hb) | (go_at_call 74; refine (clone_c ⟨n, bs⟩ A b o c B _ hn (Nat.le_trans hB hW.size) (hR.below (hW.mono hB))).mono ?_; rintro e w2 ⟨v, rfl, hown, hb2⟩; obtain ⟨A1, g1, c1, rfl, _⟩ := own_form hown; obtain ⟨hc2, hf2⟩ := bcell hb2; have hs0 : w2.cell? ⟨w.heap.size + 1, 0, none⟩ = some (.int .i64 0) := (by rw [hc2 _ _ hz1, hc _ _ (by simp only [World.size_alloc, World.size_drew]; omega)]; simp [go_sem]); have hs1 : w2.cell? ⟨w.heap.size + 1, 1, none⟩ = some (.slice none 0 0) := (by rw [hc2 _ _ hz1, hc _ _ (by simp only [World.size_alloc, World.size_drew]; omega)]; simp [go_sem])))
  obtain ⟨r0, r1⟩ := two_cells (a := .int .i64 n) (b := .slice A1 bs.length c1) hs0 hs1
  refine bodyPost_ret (v := .tuple #[.agg #[.int .i64 n, .slice A1 bs.length c1], .bool true]) (by simp [results, Tryz.results75, go_sem, r0, r1]) rfl ?_
  exact ⟨_, _, rfl, own_less (own_set_low (p := ⟨w.heap.size + 1, 1, none⟩) (own_set_low (p := ⟨w.heap.size + 1, 0, none⟩) hown hz1 _) hz1 _) hW.size, ((bthen hW hb2).setCell (by simp) _).setCell (by simp) _⟩

/-- The same, the result behind a name. -/
theorem with_q (p : Pl) (ms qs : List Bd) (hq : p.bs ++ ms = qs) (A A' : Option Addr) (b o c b' o' c' B : Nat) (w : World) (hn : p.bs.length ≤ 100000) (hn' : ms.length ≤ 100000) (hB : B ≤ w.heap.size) (hR : BdsR w B b o A p.bs) (hR' : BdsR w B b' o' A' ms) :
  Calls Tryz.prog 102 #[.agg #[.int .i64 p.n, .slice A p.bs.length c], .slice A' ms.length c'] w fun e w' =>
   ∃ A1 c1 g1, e = .returned (.agg #[.int .i64 p.n, .slice A1 qs.length c1]) ∧ BdsR w' w'.heap.size g1 0 A1 qs ∧ OwnB w.heap.size w' (.slice A1 qs.length c1) qs ∧ Below w.heap.size w w' := by
 subst hq
 refine (with_c p ms A A' b o c b' o' c' B w hn hn' hB hR hR').mono ?_
 rintro e w' ⟨A1, c1, rfl, hown, hb⟩
 obtain ⟨A2, g1, c2, hv, hr⟩ := hown.reads
 injection hv with h1 h2 h3
 subst h1
 exact ⟨A1, c1, g1, rfl, hr, hown, hb⟩
theorem told_q (p : Pl) (q : Pl) (r : Bool) (hq : toldP p = q) (hr : planOk p = r) (A : Option Addr) (b o c B : Nat) (w : World) (hn : p.bs.length ≤ 2000000) (hB : B ≤ w.heap.size) (hR : BdsR w B b o A p.bs) :
  Calls Tryz.prog 75 #[.agg #[.int .i64 p.n, .slice A p.bs.length c]] w fun e w' =>
   ∃ A1 c1 g1, e = .returned (.tuple #[.agg #[.int .i64 q.n, .slice A1 q.bs.length c1], .bool r]) ∧ BdsR w' w'.heap.size g1 0 A1 q.bs ∧ OwnB w.heap.size w' (.slice A1 q.bs.length c1) q.bs ∧ Below w.heap.size w w' := by
 subst hq; subst hr
 refine (told_c p A b o c B w hn hB hR).mono ?_
 rintro e w' ⟨A1, c1, rfl, hown, hb⟩
 obtain ⟨A2, g1, c2, hv, hr⟩ := hown.reads
 injection hv with h1 h2 h3
 subst h1
 exact ⟨A1, c1, g1, rfl, hr, hown, hb⟩
theorem clone_q (p : Pl) (A : Option Addr) (b o c B : Nat) (w : World) (hn : p.bs.length ≤ 2000000) (hB : B ≤ w.heap.size) (hR : BdsR w B b o A p.bs) :
  Calls Tryz.prog 74 #[.agg #[.int .i64 p.n, .slice A p.bs.length c]] w fun e w' =>
   ∃ A1 c1 g1, e = .returned (.agg #[.int .i64 p.n, .slice A1 p.bs.length c1]) ∧ BdsR w' w'.heap.size g1 0 A1 p.bs ∧ OwnB w.heap.size w' (.slice A1 p.bs.length c1) p.bs ∧ Below w.heap.size w w' := by
 refine (clone_c p A b o c B w hn hB hR).mono ?_
 rintro e w' ⟨v, rfl, hown, hb⟩
 obtain ⟨A2, g1, c2, rfl, hr⟩ := hown.reads
 exact ⟨A2, c2, g1, rfl, hr, hown, hb⟩
end Go.Proofs.YtmnajkhoacogjaaGreatDoor
