/-
 Chapter 1 of the reference: which plans are plans.
-/
import Derived.Test.YtmnajkhoacogjaaGreatDoorL2
namespace Go.Proofs.YtmnajkhoacogjaaGreatDoor
set_option linter.unusedVariables false
set_option linter.unusedSimpArgs false
open Go.RowKit Pp

theorem l1In_c (n lo hi : Int) (w : World) : Calls Tryz.prog 71 #[.int .i64 n, .int .i64 lo, .int .i64 hi] w fun e w' => e = .returned (.bool (inB n lo hi)) ∧ w = w' := by
 by_cases h1 : lo ≤ n
 all_goals by_cases h2 : n ≤ hi
 all_goals
  go_enter Tryz.func71, Tryz.ntmps71
  go_wp2
  all_goals go_ret
  all_goals exact ⟨by simp [inB, h1, h2], rfl⟩

/-- A plan lies in a box. -/
structure BoxP (W : World) (g : Nat) (n : Int) (A : Option Addr) (l c : Nat) : Prop where
 c0 : W.cell? ⟨g, 0, none⟩ = some (.int .i64 n)
 c1 : W.cell? ⟨g, 1, none⟩ = some (.slice A l c)
theorem BoxP.lt {W : World} {g : Nat} {n : Int} {A : Option Addr} {l c : Nat} (h : BoxP W g n A l c) : g < W.heap.size := World.block_lt_of_cell? _ _ h.c0
theorem BoxP.below {W W' : World} {B g : Nat} {n : Int} {A : Option Addr} {l c : Nat} (h : BoxP W g n A l c) (hb : Below B W W') (hB : g < B) : BoxP W' g n A l c :=
 ⟨(hb.cell (p := ⟨g, 0, none⟩) hB).trans h.c0, (hb.cell (p := ⟨g, 1, none⟩) hB).trans h.c1⟩
theorem BoxP.new (w : World) (n : Int) (A : Option Addr) (l c : Nat) (t : TypeId) : BoxP (w.alloc (.cells #[.int .i64 n, .slice A l c] t)) w.heap.size n A l c :=
 ⟨by simp [go_sem], by simp [go_sem]⟩

set_option maxHeartbeats 2000000 in
set_option maxRecDepth 100000 in
theorem sPlanOk_c (p : Pl) (A : Option Addr) (b o c B : Nat) (w : World) (hn : p.bs.length ≤ 2000000) (hB : B ≤ w.heap.size) (hR : BdsR w B b o A p.bs) :
  Calls Tryz.prog 36 #[.agg #[.int .i64 p.n, .slice A p.bs.length c]] w fun e w' => e = .returned (.bool (planOk p)) ∧ Below w.heap.size w w' := by
 obtain ⟨n, bs⟩ := p
 dsimp only at *
 have e : planOk ⟨n, bs⟩ = (inB n 1 6 && decide (bs.length ≤ 16) && bs.all (bdOk n)) := rfl
 rw [e]
 cases h1 : inB n 1 6
 ·have H1 := hide h1
  clear h1 e
  go_enter Tryz.func36, Tryz.ntmps36
  go_wp2_with fail
  have hbox := BoxP.new w n A bs.length c 34
  have hW0 : Below w.heap.size w (w.alloc (.cells #[.int .i64 n, .slice A bs.length c] 34)) := by go_grown
  have hsz : (w.alloc (.cells #[.int .i64 n, .slice A bs.length c] 34)).heap.size = w.heap.size + 1 := by simp
  generalize w.alloc (.cells #[.int .i64 n, .slice A bs.length c] 34) = W at *
  go_loopg [3] bs.length (fun g i wr => ∃ k : Nat, k ≤ bs.length ∧ g = bs.length - k ∧ i = .int .i64 k ∧ Below W.heap.size W wr)
  case atStart => exact ⟨0, Nat.zero_le _, rfl, rfl, Below.refl _ _⟩
  case round =>
   obtain ⟨k, hk, rfl, rfl, hb⟩ := hrel
   have hbx := hbox.below hb (by omega)
   obtain ⟨x0, x1⟩ := hbx
   have hwr := hb.size
   by_cases hlt : k < bs.length
   ·obtain rfl := hR.addr (by omega)
    have hx := List.getElem?_eq_getElem hlt
    have hR' := hR.below ((hW0.trans (hb.mono (by omega))).mono hB)
    have d0 := hR'.c0 k _ hx
    have d1 := hR'.c1 k _ hx
    have d2 := hR'.c2 k _ hx
    have hz : (k : Int) < (bs.length : Int) := by omega
    have hbl := World.block_lt_of_cell? _ _ d0
    have hgl : w.heap.size < wr.heap.size := by omega
    generalize bs[k] = x at *
    clear hR' hx
    go_wp2_with (go_at_call 71; refine (l1In_c _ _ _ _).mono ?_; rintro e w' ⟨rfl, rfl⟩)
    all_goals first
     | (go_ret; exact ⟨by simp, hW0.trans ((hb.alloc hwr _).mono (by omega))⟩)
     | (go_roundg (bs.length - (k + 1))
        case measure => go_light; omega
        case rel => go_light; exact ⟨k + 1, by omega, rfl, by go_num, hb.alloc hwr _⟩)
   ·have hz : ¬ ((k : Int) < (bs.length : Int)) := by omega
    go_wp2_with (go_at_call 71; refine (l1In_c _ _ _ _).mono ?_; rintro e w' ⟨rfl, rfl⟩; rw [H1.out])
    go_ret
    exact ⟨by simp, hW0.trans (hb.mono (by omega))⟩
 ·obtain ⟨hn1, hn2⟩ := inB_iff.1 h1
  have H1 := hide h1
  clear h1 e
  have hm : IntKind.i64.wrap (n - 1) = n - 1 := IntWalk.i64_in _ (by omega)
  go_enter Tryz.func36, Tryz.ntmps36
  go_wp2_with fail
  have hbox := BoxP.new w n A bs.length c 34
  have hW0 : Below w.heap.size w (w.alloc (.cells #[.int .i64 n, .slice A bs.length c] 34)) := by go_grown
  have hsz : (w.alloc (.cells #[.int .i64 n, .slice A bs.length c] 34)).heap.size = w.heap.size + 1 := by simp
  generalize w.alloc (.cells #[.int .i64 n, .slice A bs.length c] 34) = W at *
  go_loopg [3] bs.length (fun g i wr => ∃ k : Nat, k ≤ bs.length ∧ g = bs.length - k ∧ i = .int .i64 k ∧ Below W.heap.size W wr ∧ Hid ((bs.take k).all (bdOk n) = true))
  case atStart => exact ⟨0, Nat.zero_le _, rfl, rfl, Below.refl _ _, by simp [Hid]⟩
  case round =>
   obtain ⟨k, hk, rfl, rfl, hb, hall⟩ := hrel
   have hbx := hbox.below hb (by omega)
   obtain ⟨x0, x1⟩ := hbx
   have hwr := hb.size
   by_cases hlt : k < bs.length
   ·obtain rfl := hR.addr (by omega)
    have hx := List.getElem?_eq_getElem hlt
    have hR' := hR.below ((hW0.trans (hb.mono (by omega))).mono hB)
    have d0 := hR'.c0 k _ hx
    have d1 := hR'.c1 k _ hx
    have d2 := hR'.c2 k _ hx
    have hz : (k : Int) < (bs.length : Int) := by omega
    have hbl := World.block_lt_of_cell? _ _ d0
    have hgl : w.heap.size < wr.heap.size := by omega
    have hT : Hid (bs.take (k + 1) = bs.take k ++ [bs[k]]) := List.take_succ_eq_append_getElem hlt
    have hM := List.mem_of_getElem? hx
    generalize bs[k] = x at *
    have HM := hide hM
    clear hR' hx hM
    have e : bdOk n x = (inB x.f 0 (n - 1) && inB x.t 0 (n - 1) && inB x.m (-99) 99) := rfl
    generalize ha : inB x.f 0 (n - 1) = r1 at *
    generalize hb' : inB x.t 0 (n - 1) = r2 at *
    generalize hc : inB x.m (-99) 99 = r3 at *
    have Ha := hide ha; have Hb := hide hb'; have Hc := hide hc
    have He := hide e
    clear ha hb' hc e
    cases r1 <;> cases r2 <;> cases r3
    all_goals
     go_wp2_with (go_at_call 71; refine (l1In_c _ _ _ _).mono ?_; rintro e w' ⟨rfl, rfl⟩; (first | rw [Ha.out] | rw [Hb.out] | rw [Hc.out]))
     first
      | (go_ret
         refine ⟨?_, hW0.trans ((hb.alloc hwr _).mono (by omega))⟩
         have : bs.all (bdOk n) = false := by rw [List.all_eq_false]; exact ⟨x, HM.out, by rw [He.out]; simp⟩
         rw [this]; simp)
      | (go_roundg (bs.length - (k + 1))
         case measure => go_light; omega
         case rel => go_light; exact ⟨k + 1, by omega, rfl, by go_num, hb.alloc hwr _, by unfold Hid; rw [hT.out, List.all_append, hall.out]; simp [He.out]⟩)
   ·have hall' := hall.out
    rw [List.take_of_length_le (by omega)] at hall'
    have HA := hide hall'
    clear hall' 
    by_cases h16 : bs.length ≤ 16
    all_goals
     have hz : ¬ ((k : Int) < (bs.length : Int)) := by omega
     first | (have h16z : decide ((bs.length : Int) ≤ 16) = true := by simp; omega) | (have h16z : decide ((bs.length : Int) ≤ 16) = false := by simp; omega)
     go_wp2_with (go_at_call 71; refine (l1In_c _ _ _ _).mono ?_; rintro e w' ⟨rfl, rfl⟩; rw [H1.out])
     go_ret
     exact ⟨by rw [HA.out]; simp [h16], hW0.trans (hb.mono (by omega))⟩
end Go.Proofs.YtmnajkhoacogjaaGreatDoor
