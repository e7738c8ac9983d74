/-
 impl: which deeds are named rightly.
 impl: what a deed makes of a plan.
 impl: two rows of bounds compared; a desk copied.
 impl: a desk copied.
 impl: DeskDo.
-/
import Derived.Test.YtmnajkhoacogjaaGreatDoorR80
import Derived.Test.YtmnajkhoacogjaaGreatDoorS9e
import Derived.Test.YtmnajkhoacogjaaGreatDoorL95
import Derived.Test.YtmnajkhoacogjaaGreatDoorL4
import Derived.Test.YtmnajkhoacogjaaGreatDoorL11
import Derived.Test.YtmnajkhoacogjaaGreatDoorL1c
import Derived.Test.YtmnajkhoacogjaaGreatDoorL88
import Derived.Test.YtmnajkhoacogjaaGreatDoorS9d
import Derived.Test.YtmnajkhoacogjaaGreatDoorL90
import Derived.Test.YtmnajkhoacogjaaGreatDoorR75
namespace Go.Proofs.YtmnajkhoacogjaaGreatDoor
set_option linter.unusedVariables false
set_option linter.unusedSimpArgs false
open Go Go.RowKit Pp

open Go Go.RowKit Pp

namespace Pp
/-- A deed has nothing that is not named for its kind. -/
def namedD (d : Dd) : Bool :=
 if d.k = 1 then decide (d.ws = [])
 else if d.k = 2 then decide (d.b = 0 ∧ d.c = 0 ∧ d.ws = [])
 else if d.k = 5 then decide (d.a = 0 ∧ d.b = 0 ∧ d.c = 0)
 else if d.k = 0 ∨ d.k = 3 ∨ d.k = 4 ∨ d.k = 6 then decide (d.a = 0 ∧ d.b = 0 ∧ d.c = 0 ∧ d.ws = [])
 else false
end Pp
set_option maxHeartbeats 2000000 in
set_option maxRecDepth 100000 in
theorem named_0 (a1 a2 a3 : Int) (s : ByteArray) (w : World) :
  Calls Tryz.prog 42 #[.agg #[.int .i64 0, .int .i64 a1, .int .i64 a2, .int .i64 a3, .string s]] w fun e w' => e = .returned (.bool ((a1 == 0) && ((a2 == 0) && ((a3 == 0) && s.toList.isEmpty)))) ∧ Below w.heap.size w w' := by
 go_enter Tryz.func42, Tryz.ntmps42
 go_wp2_with fail
 all_goals
  go_ret
  refine ⟨?_, by go_grown⟩
  try simp_all
set_option maxHeartbeats 2000000 in
set_option maxRecDepth 100000 in
theorem named_1 (a1 a2 a3 : Int) (s : ByteArray) (w : World) :
  Calls Tryz.prog 42 #[.agg #[.int .i64 1, .int .i64 a1, .int .i64 a2, .int .i64 a3, .string s]] w fun e w' => e = .returned (.bool (s.toList.isEmpty)) ∧ Below w.heap.size w w' := by
 go_enter Tryz.func42, Tryz.ntmps42
 go_wp2_with fail
 all_goals
  go_ret
  refine ⟨?_, by go_grown⟩
  try simp_all
set_option maxHeartbeats 2000000 in
set_option maxRecDepth 100000 in
theorem named_2 (a1 a2 a3 : Int) (s : ByteArray) (w : World) :
  Calls Tryz.prog 42 #[.agg #[.int .i64 2, .int .i64 a1, .int .i64 a2, .int .i64 a3, .string s]] w fun e w' => e = .returned (.bool ((a2 == 0) && ((a3 == 0) && s.toList.isEmpty))) ∧ Below w.heap.size w w' := by
 go_enter Tryz.func42, Tryz.ntmps42
 go_wp2_with fail
 all_goals
  go_ret
  refine ⟨?_, by go_grown⟩
  try simp_all
set_option maxHeartbeats 2000000 in
set_option maxRecDepth 100000 in
theorem named_3 (a1 a2 a3 : Int) (s : ByteArray) (w : World) :
  Calls Tryz.prog 42 #[.agg #[.int .i64 3, .int .i64 a1, .int .i64 a2, .int .i64 a3, .string s]] w fun e w' => e = .returned (.bool ((a1 == 0) && ((a2 == 0) && ((a3 == 0) && s.toList.isEmpty)))) ∧ Below w.heap.size w w' := by
 go_enter Tryz.func42, Tryz.ntmps42
 go_wp2_with fail
 all_goals
  go_ret
  refine ⟨?_, by go_grown⟩
  try simp_all
set_option maxHeartbeats 2000000 in
set_option maxRecDepth 100000 in
theorem named_4 (a1 a2 a3 : Int) (s : ByteArray) (w : World) :
  Calls Tryz.prog 42 #[.agg #[.int .i64 4, .int .i64 a1, .int .i64 a2, .int .i64 a3, .string s]] w fun e w' => e = .returned (.bool ((a1 == 0) && ((a2 == 0) && ((a3 == 0) && s.toList.isEmpty)))) ∧ Below w.heap.size w w' := by
 go_enter Tryz.func42, Tryz.ntmps42
 go_wp2_with fail
 all_goals
  go_ret
  refine ⟨?_, by go_grown⟩
  try simp_all
set_option maxHeartbeats 2000000 in
set_option maxRecDepth 100000 in
theorem named_5 (a1 a2 a3 : Int) (s : ByteArray) (w : World) :
  Calls Tryz.prog 42 #[.agg #[.int .i64 5, .int .i64 a1, .int .i64 a2, .int .i64 a3, .string s]] w fun e w' => e = .returned (.bool ((a1 == 0) && ((a2 == 0) && (a3 == 0)))) ∧ Below w.heap.size w w' := by
 go_enter Tryz.func42, Tryz.ntmps42
 go_wp2_with fail
 all_goals
  go_ret
  refine ⟨?_, by go_grown⟩
  try simp_all
set_option maxHeartbeats 2000000 in
set_option maxRecDepth 100000 in
theorem named_6 (a1 a2 a3 : Int) (s : ByteArray) (w : World) :
  Calls Tryz.prog 42 #[.agg #[.int .i64 6, .int .i64 a1, .int .i64 a2, .int .i64 a3, .string s]] w fun e w' => e = .returned (.bool ((a1 == 0) && ((a2 == 0) && ((a3 == 0) && s.toList.isEmpty)))) ∧ Below w.heap.size w w' := by
 go_enter Tryz.func42, Tryz.ntmps42
 go_wp2_with fail
 all_goals
  go_ret
  refine ⟨?_, by go_grown⟩
  try simp_all
set_option maxHeartbeats 2000000 in
set_option maxRecDepth 100000 in
theorem named_k (k a1 a2 a3 : Int) (s : ByteArray) (h0 : (k == 0) = false) (h1 : (k == 1) = false) (h2 : (k == 2) = false) (h3 : (k == 3) = false) (h4 : (k == 4) = false) (h5 : (k == 5) = false) (h6 : (k == 6) = false) (w : World) :
  Calls Tryz.prog 42 #[.agg #[.int .i64 k, .int .i64 a1, .int .i64 a2, .int .i64 a3, .string s]] w fun e w' => e = .returned (.bool false) ∧ Below w.heap.size w w' := by
 go_enter Tryz.func42, Tryz.ntmps42
 go_wp2_with fail
 go_ret
 exact ⟨rfl, by go_grown⟩
theorem nil_isEmpty (L : List UInt8) : L.isEmpty = decide (L = []) := by cases L <;> rfl
theorem named_q (k a1 a2 a3 : Int) (s : ByteArray) (L : List UInt8) (hL : s.data.toList = L) (w : World) :
  Calls Tryz.prog 42 #[.agg #[.int .i64 k, .int .i64 a1, .int .i64 a2, .int .i64 a3, .string s]] w fun e w' => e = .returned (.bool (namedD ⟨k, a1, a2, a3, L⟩)) ∧ Below w.heap.size w w' := by
 have hs := str_list hL
 by_cases h0 : k = 0
 ·subst h0
  refine (named_0 a1 a2 a3 s w).mono fun e w' h => ⟨?_, h.2⟩
  rw [h.1, hs, nil_isEmpty]
  simp [namedD, Bool.decide_and]
  rfl
 by_cases h1 : k = 1
 ·subst h1
  refine (named_1 a1 a2 a3 s w).mono fun e w' h => ⟨?_, h.2⟩
  rw [h.1, hs, nil_isEmpty]
  simp [namedD]
 by_cases h2 : k = 2
 ·subst h2
  refine (named_2 a1 a2 a3 s w).mono fun e w' h => ⟨?_, h.2⟩
  rw [h.1, hs, nil_isEmpty]
  simp [namedD, Bool.decide_and]
  rfl
 by_cases h3 : k = 3
 ·subst h3
  refine (named_3 a1 a2 a3 s w).mono fun e w' h => ⟨?_, h.2⟩
  rw [h.1, hs, nil_isEmpty]
  simp [namedD, Bool.decide_and]
  rfl
 by_cases h4 : k = 4
 ·subst h4
  refine (named_4 a1 a2 a3 s w).mono fun e w' h => ⟨?_, h.2⟩
  rw [h.1, hs, nil_isEmpty]
  simp [namedD, Bool.decide_and]
  rfl
 by_cases h5 : k = 5
 ·subst h5
  refine (named_5 a1 a2 a3 s w).mono fun e w' h => ⟨?_, h.2⟩
  rw [h.1]
  simp [namedD, Bool.decide_and]
  rfl
 by_cases h6 : k = 6
 ·subst h6
  refine (named_6 a1 a2 a3 s w).mono fun e w' h => ⟨?_, h.2⟩
  rw [h.1, hs, nil_isEmpty]
  simp [namedD, Bool.decide_and]
  rfl
 refine (named_k k a1 a2 a3 s (by simpa using h0) (by simpa using h1) (by simpa using h2) (by simpa using h3) (by simpa using h4) (by simpa using h5) (by simpa using h6) w).mono fun e w' h => ⟨?_, h.2⟩
 rw [h.1]
 simp [namedD, h0, h1, h2, h3, h4, h5, h6]

open Go Go.RowKit Pp

namespace Pp
/-- A plan and a word that are made: where the word is no, nothing is told of the plan. -/
def MadeI (w w' : World) (q : Pl) (v : Value) : Prop := ∃ m : Pl, ∃ A1 c1 g1, v = .tuple #[.agg #[.int .i64 m.n, .slice A1 m.bs.length c1], .bool (planOk q)] ∧ BdsR w' w'.heap.size g1 0 A1 m.bs ∧ (0 < m.bs.length → w.heap.size ≤ g1) ∧ m.bs.length ≤ 17 ∧ (planOk q = true → m = q)
end Pp
namespace Pp
theorem told_ok2 (p : Pl) : planOk (toldP p) = planOk p := by
 cases h : planOk p
 ·unfold toldP
  rw [h, if_neg (by decide)]
  rfl
 ·unfold toldP
  rw [h, if_pos rfl, h]
theorem told_yes {p : Pl} (h : planOk p = true) : toldP p = p := by unfold toldP; rw [if_pos h]
theorem told_len (p : Pl) : (toldP p).bs.length ≤ 16 := by
 unfold toldP
 split
 ·rename_i h; exact (planOk_iff.1 h).2.1
 ·simp
theorem planOf_is (t : List Mk) : planOk (planOf t) = planIs t := by
 unfold planOf planIs
 split
 ·rename_i a _
  cases h : planOk (tmP a)
  ·rw [if_neg (by decide)]; rfl
  ·rw [if_pos rfl, h]
 ·rfl
theorem planOf_len (t : List Mk) : (planOf t).bs.length ≤ 16 := by
 unfold planOf
 split
 ·split
  ·rename_i h; exact (planOk_iff.1 h).2.1
  ·simp
 ·simp
theorem planOf_nil : planOf [] = ⟨0, []⟩ := rfl
end Pp
theorem deb_bel (w : World) (k a1 a2 a3 : Int) (s : ByteArray) : Below w.heap.size w (w.alloc (.cells #[.int .i64 k, .int .i64 a1, .int .i64 a2, .int .i64 a3, .string s] 41)) := by go_grown
theorem bds_next {W W' : World} {b o : Nat} {A : Option Addr} {bs : List Bd} (h : BdsR W W.heap.size b o A bs) (hb : Below W.heap.size W W') : BdsR W' W'.heap.size b o A bs := (h.below hb).more hb.size
set_option maxHeartbeats 2000000 in
set_option maxRecDepth 100000 in
theorem made_trim (n : Int) (bs : List Bd) (hp : planOk ⟨n, bs⟩ = true) (A : Option Addr) (b o c B : Nat) (w : World)  (hB : B ≤ w.heap.size) (hR : BdsR w B b o A bs) :
  Calls Tryz.prog 43 #[.agg #[.int .i64 3, .int .i64 0, .int .i64 0, .int .i64 0, .string ⟨#[]⟩], .agg #[.int .i64 n, .slice A bs.length c]] w fun e w' => ∃ v, e = .returned v ∧ MadeI w w' (trim ⟨n, bs⟩) v ∧ Below w.heap.size w w' := by
 obtain ⟨q, hq⟩ : ∃ q, trim ⟨n, bs⟩ = q := ⟨_, rfl⟩
 obtain ⟨t1, -, -, -, -, t6⟩ := trim_ok hp
 have h16 := (planOk_iff.1 hp).2.1
 dsimp only at h16
 rw [hq] at t1 t6
 have T1 := hide t1
 have Hq := hide hq
 rw [hq]
 clear hp t1 hq
 have hD := ((po_new (t := 34) (n := n) (c := c) (deb_bel w 3 0 0 0 ⟨#[]⟩) (bds_next (hR.more hB) (deb_bel w 3 0 0 0 ⟨#[]⟩))).alloc (.cells #[.int .i64 0, .slice none 0 0] 34))
 have hE : DeB w (((w.alloc (.cells #[.int .i64 3, .int .i64 0, .int .i64 0, .int .i64 0, .string ⟨#[]⟩] 41)).alloc (.cells #[.int .i64 n, .slice A bs.length c] 34)).alloc (.cells #[.int .i64 0, .slice none 0 0] 34)) w.heap.size 3 0 0 0 ⟨#[]⟩ := ((deb_new rfl (Nat.le_refl _)).alloc _).alloc _
 have hY : ZB w (((w.alloc (.cells #[.int .i64 3, .int .i64 0, .int .i64 0, .int .i64 0, .string ⟨#[]⟩] 41)).alloc (.cells #[.int .i64 n, .slice A bs.length c] 34)).alloc (.cells #[.int .i64 0, .slice none 0 0] 34)) (w.heap.size + 1 + 1) := zb_at (by simp) (by simp; omega)
 have hse : (w.alloc (.cells #[.int .i64 3, .int .i64 0, .int .i64 0, .int .i64 0, .string ⟨#[]⟩] 41)).heap.size = w.heap.size + 1 := by simp
 rw [hse] at hD
 clear hR hse
 go_enter Tryz.func43, Tryz.ntmps43
 go_upto_region 1 with fail
 generalize ((w.alloc (.cells #[.int .i64 3, .int .i64 0, .int .i64 0, .int .i64 0, .string ⟨#[]⟩] 41)).alloc (.cells #[.int .i64 n, .slice A bs.length c] 34)).alloc (.cells #[.int .i64 0, .slice none 0 0] 34) = W at hD hE hY ⊢
 have p0 := hD.c0
 have p1 := hD.c1
 have d0 := hE.c0
 have d1 := hE.c1
 have d2 := hE.c2
 have d3 := hE.c3
 have d4 := hE.c4
 have hYl := hY.ex
 have hlo := hD.bel.size
 go_wp2_with (go_at_call 78; go_fit (trimmed_c ⟨n, bs⟩ q Hq.out A b o c _ _ (show bs.length ≤ 2000000 by omega) (Nat.le_refl _) hD.rd); rintro e w2 ⟨A1, c1, g1, rfl, hr1, own1, hb1⟩; have hY2 := hY.below hb1; have z0 := hY2.z0; have z1 := hY2.z1; have zf0 := hY2.zf 0; have zf1 := hY2.zf 1)
 obtain ⟨r0, r1, ho2, hb7⟩ := hY2.fin (n := q.n) (bthen hD.bel hb1) (own_less own1 hlo) (mfin_ne own1 hYl)
 refine bodyPost_ret (v := .tuple #[.agg #[.int .i64 q.n, .slice A1 q.bs.length c1], .bool true]) (by simp [results, Tryz.results43, go_sem, r0, r1]) rfl ?_
 obtain ⟨g, hr⟩ := OwnB.readsA ho2
 exact ⟨_, rfl, ⟨q, A1, c1, g, by rw [T1.out], hr, fun h => own_ge ho2 hr h, by omega, fun _ => rfl⟩, hb7⟩
set_option maxHeartbeats 2000000 in
set_option maxRecDepth 100000 in
theorem made_turn (n : Int) (bs : List Bd) (hp : planOk ⟨n, bs⟩ = true) (A : Option Addr) (b o c B : Nat) (w : World)  (hB : B ≤ w.heap.size) (hR : BdsR w B b o A bs) :
  Calls Tryz.prog 43 #[.agg #[.int .i64 4, .int .i64 0, .int .i64 0, .int .i64 0, .string ⟨#[]⟩], .agg #[.int .i64 n, .slice A bs.length c]] w fun e w' => ∃ v, e = .returned v ∧ MadeI w w' (swapP ⟨n, bs⟩) v ∧ Below w.heap.size w w' := by
 have t1 : planOk (swapP ⟨n, bs⟩) = true := by rw [swap_turn hp]; exact (turn_ok hp).1
 have h16 := (planOk_iff.1 hp).2.1
 dsimp only at h16
 have T1 := hide t1
 have Hp := hide hp
 clear hp t1
 have hD := ((po_new (t := 34) (n := n) (c := c) (deb_bel w 4 0 0 0 ⟨#[]⟩) (bds_next (hR.more hB) (deb_bel w 4 0 0 0 ⟨#[]⟩))).alloc (.cells #[.int .i64 0, .slice none 0 0] 34))
 have hE : DeB w (((w.alloc (.cells #[.int .i64 4, .int .i64 0, .int .i64 0, .int .i64 0, .string ⟨#[]⟩] 41)).alloc (.cells #[.int .i64 n, .slice A bs.length c] 34)).alloc (.cells #[.int .i64 0, .slice none 0 0] 34)) w.heap.size 4 0 0 0 ⟨#[]⟩ := ((deb_new rfl (Nat.le_refl _)).alloc _).alloc _
 have hY : ZB w (((w.alloc (.cells #[.int .i64 4, .int .i64 0, .int .i64 0, .int .i64 0, .string ⟨#[]⟩] 41)).alloc (.cells #[.int .i64 n, .slice A bs.length c] 34)).alloc (.cells #[.int .i64 0, .slice none 0 0] 34)) (w.heap.size + 1 + 1) := zb_at (by simp) (by simp; omega)
 have hse : (w.alloc (.cells #[.int .i64 4, .int .i64 0, .int .i64 0, .int .i64 0, .string ⟨#[]⟩] 41)).heap.size = w.heap.size + 1 := by simp
 rw [hse] at hD
 clear hR hse
 go_enter Tryz.func43, Tryz.ntmps43
 go_upto_region 1 with fail
 generalize ((w.alloc (.cells #[.int .i64 4, .int .i64 0, .int .i64 0, .int .i64 0, .string ⟨#[]⟩] 41)).alloc (.cells #[.int .i64 n, .slice A bs.length c] 34)).alloc (.cells #[.int .i64 0, .slice none 0 0] 34) = W at hD hE hY ⊢
 have p0 := hD.c0
 have p1 := hD.c1
 have d0 := hE.c0
 have d1 := hE.c1
 have d2 := hE.c2
 have d3 := hE.c3
 have d4 := hE.c4
 have hYl := hY.ex
 have hlo := hD.bel.size
 go_wp2_with (go_at_call 79; go_fit (turnedPlan_q n bs Hp.out A b o c _ _ (show bs.length ≤ 2000000 by omega) (Nat.le_refl _) hD.rd); rintro e w2 ⟨A1, c1, g1, rfl, hr1, hg1, hb1⟩; have hY2 := hY.below hb1; have z0 := hY2.z0; have z1 := hY2.z1; have zf0 := hY2.zf 0; have zf1 := hY2.zf 1)
 obtain ⟨r0, r1⟩ := two_cells (a := .int .i64 n) (b := .slice A1 bs.length c1) z0 z1
 have hb7 := ((bthen hD.bel hb1).setCell (p := ⟨w.heap.size + 1 + 1, 0, none⟩) hY.lo (.int .i64 n)).setCell (p := ⟨w.heap.size + 1 + 1, 1, none⟩) hY.lo (.slice A1 bs.length c1)
 refine bodyPost_ret (v := .tuple #[.agg #[.int .i64 n, .slice A1 bs.length c1], .bool true]) (by simp [results, Tryz.results43, go_sem, r0, r1]) rfl ?_
 have hne : ∀ i, 0 < (bs.map swapB).length → g1 ≠ (⟨w.heap.size + 1 + 1, i, none⟩ : Addr).block := fun i hl e => by
  have := hg1 (by rw [List.length_map] at hl; exact hl)
  dsimp only at e
  omega
 exact ⟨_, rfl, ⟨⟨n, bs.map swapB⟩, A1, c1, g1, by rw [T1.out]; simp, ((hr1.setO _ (hne 0) _).setO _ (hne 1) _).more (by simp), fun h => by have := hg1 (by simpa using h); omega, by simp; omega, fun _ => rfl⟩, hb7⟩
set_option maxHeartbeats 2000000 in
set_option maxRecDepth 100000 in
theorem made_point (n : Int) (bs : List Bd) (hn : 1 ≤ n ∧ n ≤ 6) (h16 : bs.length ≤ 16) (A : Option Addr) (b o c B : Nat) (w : World)  (hB : B ≤ w.heap.size) (hR : BdsR w B b o A bs) :
  Calls Tryz.prog 43 #[.agg #[.int .i64 0, .int .i64 0, .int .i64 0, .int .i64 0, .string ⟨#[]⟩], .agg #[.int .i64 n, .slice A bs.length c]] w fun e w' => ∃ v, e = .returned v ∧ MadeI w w' ⟨n + 1, bs⟩ v ∧ Below w.heap.size w w' := by
 have hwr : IntKind.i64.wrap (n + 1) = n + 1 := by rw [IntWalk.i64_in _ (by omega)]
 obtain ⟨q, hq⟩ : ∃ q, toldP ⟨n + 1, bs⟩ = q := ⟨_, rfl⟩
 obtain ⟨r, hrr⟩ : ∃ r, planOk ⟨n + 1, bs⟩ = r := ⟨_, rfl⟩
 have hl := told_len ⟨n + 1, bs⟩
 rw [hq] at hl
 have Hq := hide hq
 have Hr := hide hrr
 clear hq hrr
 have hD := ((po_new (t := 34) (n := n) (c := c) (deb_bel w 0 0 0 0 ⟨#[]⟩) (bds_next (hR.more hB) (deb_bel w 0 0 0 0 ⟨#[]⟩))).alloc (.cells #[.int .i64 0, .slice none 0 0] 34))
 have hE : DeB w (((w.alloc (.cells #[.int .i64 0, .int .i64 0, .int .i64 0, .int .i64 0, .string ⟨#[]⟩] 41)).alloc (.cells #[.int .i64 n, .slice A bs.length c] 34)).alloc (.cells #[.int .i64 0, .slice none 0 0] 34)) w.heap.size 0 0 0 0 ⟨#[]⟩ := ((deb_new rfl (Nat.le_refl _)).alloc _).alloc _
 have hY : ZB w (((w.alloc (.cells #[.int .i64 0, .int .i64 0, .int .i64 0, .int .i64 0, .string ⟨#[]⟩] 41)).alloc (.cells #[.int .i64 n, .slice A bs.length c] 34)).alloc (.cells #[.int .i64 0, .slice none 0 0] 34)) (w.heap.size + 1 + 1) := zb_at (by simp) (by simp; omega)
 have hse : (w.alloc (.cells #[.int .i64 0, .int .i64 0, .int .i64 0, .int .i64 0, .string ⟨#[]⟩] 41)).heap.size = w.heap.size + 1 := by simp
 rw [hse] at hD
 clear hR hse
 go_enter Tryz.func43, Tryz.ntmps43
 go_upto_region 1 with fail
 generalize ((w.alloc (.cells #[.int .i64 0, .int .i64 0, .int .i64 0, .int .i64 0, .string ⟨#[]⟩] 41)).alloc (.cells #[.int .i64 n, .slice A bs.length c] 34)).alloc (.cells #[.int .i64 0, .slice none 0 0] 34) = W at hD hE hY ⊢
 have p0 := hD.c0
 have p1 := hD.c1
 have d0 := hE.c0
 have d1 := hE.c1
 have d2 := hE.c2
 have d3 := hE.c3
 have d4 := hE.c4
 have hYl := hY.ex
 have hlo := hD.bel.size
 go_wp2_with (go_at_call 75; go_fit (told_q ⟨n + 1, bs⟩ q r Hq.out Hr.out A b o c _ _ (show bs.length ≤ 2000000 by omega) (Nat.le_refl _) hD.rd); rintro e w2 ⟨A1, c1, g1, rfl, hr1, own1, hb1⟩; have hY2 := hY.below hb1; have z0 := hY2.z0; have z1 := hY2.z1; have zf0 := hY2.zf 0; have zf1 := hY2.zf 1)
 obtain ⟨r0, r1, ho2, hb7⟩ := hY2.fin (n := q.n) (bthen hD.bel hb1) (own_less own1 hlo) (mfin_ne own1 hYl)
 refine bodyPost_ret (v := .tuple #[.agg #[.int .i64 q.n, .slice A1 q.bs.length c1], .bool r]) (by simp [results, Tryz.results43, go_sem, r0, r1]) rfl ?_
 obtain ⟨g, hr⟩ := OwnB.readsA ho2
 exact ⟨_, rfl, ⟨q, A1, c1, g, by rw [Hr.out], hr, fun h => own_ge ho2 hr h, by omega, fun h => by rw [← Hq.out]; exact told_yes h⟩, hb7⟩
set_option maxHeartbeats 2000000 in
set_option maxRecDepth 100000 in
theorem made_bound (n : Int) (bs : List Bd) (a1 a2 a3 : Int) (h16 : bs.length ≤ 16) (A : Option Addr) (b o c B : Nat) (w : World)  (hB : B ≤ w.heap.size) (hR : BdsR w B b o A bs) :
  Calls Tryz.prog 43 #[.agg #[.int .i64 1, .int .i64 a1, .int .i64 a2, .int .i64 a3, .string ⟨#[]⟩], .agg #[.int .i64 n, .slice A bs.length c]] w fun e w' => ∃ v, e = .returned v ∧ MadeI w w' (toldP ⟨n, bs ++ [⟨a1, a2, a3⟩]⟩) v ∧ Below w.heap.size w w' := by
 obtain ⟨q, hq⟩ : ∃ q, toldP ⟨n, bs ++ [⟨a1, a2, a3⟩]⟩ = q := ⟨_, rfl⟩
 obtain ⟨r, hrr⟩ : ∃ r, planOk ⟨n, bs ++ [⟨a1, a2, a3⟩]⟩ = r := ⟨_, rfl⟩
 have hl := told_len ⟨n, bs ++ [⟨a1, a2, a3⟩]⟩
 have hok : planOk q = r := by rw [← hq, told_ok2, hrr]
 rw [hq] at hl
 rw [hq]
 have hcall := fun (wq : World) (hq' : BdsR wq wq.heap.size b o A bs) => withBound_q ⟨n, bs⟩ ⟨a1, a2, a3⟩ q r hq hrr A b o c _ wq (show bs.length ≤ 10000 by omega) (Nat.le_refl _) hq'
 (try dsimp only at hcall)
 have Hcall := hide hcall
 have Hok := hide hok
 clear hq hrr hcall hok
 have hD := ((po_new (t := 34) (n := n) (c := c) (deb_bel w 1 a1 a2 a3 ⟨#[]⟩) (bds_next (hR.more hB) (deb_bel w 1 a1 a2 a3 ⟨#[]⟩))).alloc (.cells #[.int .i64 0, .slice none 0 0] 34))
 have hE : DeB w (((w.alloc (.cells #[.int .i64 1, .int .i64 a1, .int .i64 a2, .int .i64 a3, .string ⟨#[]⟩] 41)).alloc (.cells #[.int .i64 n, .slice A bs.length c] 34)).alloc (.cells #[.int .i64 0, .slice none 0 0] 34)) w.heap.size 1 a1 a2 a3 ⟨#[]⟩ := ((deb_new rfl (Nat.le_refl _)).alloc _).alloc _
 have hY : ZB w (((w.alloc (.cells #[.int .i64 1, .int .i64 a1, .int .i64 a2, .int .i64 a3, .string ⟨#[]⟩] 41)).alloc (.cells #[.int .i64 n, .slice A bs.length c] 34)).alloc (.cells #[.int .i64 0, .slice none 0 0] 34)) (w.heap.size + 1 + 1) := zb_at (by simp) (by simp; omega)
 have hse : (w.alloc (.cells #[.int .i64 1, .int .i64 a1, .int .i64 a2, .int .i64 a3, .string ⟨#[]⟩] 41)).heap.size = w.heap.size + 1 := by simp
 rw [hse] at hD
 clear hR hse
 go_enter Tryz.func43, Tryz.ntmps43
 go_upto_region 1 with fail
 generalize ((w.alloc (.cells #[.int .i64 1, .int .i64 a1, .int .i64 a2, .int .i64 a3, .string ⟨#[]⟩] 41)).alloc (.cells #[.int .i64 n, .slice A bs.length c] 34)).alloc (.cells #[.int .i64 0, .slice none 0 0] 34) = W at hD hE hY ⊢
 have p0 := hD.c0
 have p1 := hD.c1
 have d0 := hE.c0
 have d1 := hE.c1
 have d2 := hE.c2
 have d3 := hE.c3
 have d4 := hE.c4
 have hYl := hY.ex
 have hlo := hD.bel.size
 go_wp2_with (go_at_call 76; refine (Hcall.out _ hD.rd).mono ?_; rintro e w2 ⟨A1, c1, g1, rfl, hr1, own1, hb1⟩; have hY2 := hY.below hb1; have z0 := hY2.z0; have z1 := hY2.z1; have zf0 := hY2.zf 0; have zf1 := hY2.zf 1)
 obtain ⟨r0, r1, ho2, hb7⟩ := hY2.fin (n := q.n) (bthen hD.bel hb1) (own_less own1 hlo) (mfin_ne own1 hYl)
 refine bodyPost_ret (v := .tuple #[.agg #[.int .i64 q.n, .slice A1 q.bs.length c1], .bool r]) (by simp [results, Tryz.results43, go_sem, r0, r1]) rfl ?_
 obtain ⟨g, hr⟩ := OwnB.readsA ho2
 exact ⟨_, rfl, ⟨q, A1, c1, g, by rw [Hok.out], hr, fun h => own_ge ho2 hr h, by omega, fun h => rfl⟩, hb7⟩
set_option maxHeartbeats 2000000 in
set_option maxRecDepth 100000 in
theorem made_loose (n : Int) (bs : List Bd) (k : Nat) (hp : planOk ⟨n, bs⟩ = true) (hk : k < bs.length) (A : Option Addr) (b o c B : Nat) (w : World)  (hB : B ≤ w.heap.size) (hR : BdsR w B b o A bs) :
  Calls Tryz.prog 43 #[.agg #[.int .i64 2, .int .i64 (k : Int), .int .i64 0, .int .i64 0, .string ⟨#[]⟩], .agg #[.int .i64 n, .slice A bs.length c]] w fun e w' => ∃ v, e = .returned v ∧ MadeI w w' ⟨n, del bs k⟩ v ∧ Below w.heap.size w w' := by
 obtain ⟨ds, hds⟩ : ∃ ds, del bs k = ds := ⟨_, rfl⟩
 have t1 : planOk ⟨n, ds⟩ = true := by rw [← hds]; exact del_ok hp k
 have h16 := (planOk_iff.1 t1).2.1
 dsimp only at h16
 have hcall := fun (wq : World) (hq' : BdsR wq wq.heap.size b o A bs) => without_yes ⟨n, bs⟩ k ds hds A b o c _ wq hp hk (Nat.le_refl _) hq'
 (try dsimp only at hcall)
 rw [hds]
 have Hcall := hide hcall
 have T1 := hide t1
 clear hcall hds hp hk t1
 have hD := ((po_new (t := 34) (n := n) (c := c) (deb_bel w 2 (k : Int) 0 0 ⟨#[]⟩) (bds_next (hR.more hB) (deb_bel w 2 (k : Int) 0 0 ⟨#[]⟩))).alloc (.cells #[.int .i64 0, .slice none 0 0] 34))
 have hE : DeB w (((w.alloc (.cells #[.int .i64 2, .int .i64 (k : Int), .int .i64 0, .int .i64 0, .string ⟨#[]⟩] 41)).alloc (.cells #[.int .i64 n, .slice A bs.length c] 34)).alloc (.cells #[.int .i64 0, .slice none 0 0] 34)) w.heap.size 2 (k : Int) 0 0 ⟨#[]⟩ := ((deb_new rfl (Nat.le_refl _)).alloc _).alloc _
 have hY : ZB w (((w.alloc (.cells #[.int .i64 2, .int .i64 (k : Int), .int .i64 0, .int .i64 0, .string ⟨#[]⟩] 41)).alloc (.cells #[.int .i64 n, .slice A bs.length c] 34)).alloc (.cells #[.int .i64 0, .slice none 0 0] 34)) (w.heap.size + 1 + 1) := zb_at (by simp) (by simp; omega)
 have hse : (w.alloc (.cells #[.int .i64 2, .int .i64 (k : Int), .int .i64 0, .int .i64 0, .string ⟨#[]⟩] 41)).heap.size = w.heap.size + 1 := by simp
 rw [hse] at hD
 clear hR hse
 go_enter Tryz.func43, Tryz.ntmps43
 go_upto_region 1 with fail
 generalize ((w.alloc (.cells #[.int .i64 2, .int .i64 (k : Int), .int .i64 0, .int .i64 0, .string ⟨#[]⟩] 41)).alloc (.cells #[.int .i64 n, .slice A bs.length c] 34)).alloc (.cells #[.int .i64 0, .slice none 0 0] 34) = W at hD hE hY ⊢
 have p0 := hD.c0
 have p1 := hD.c1
 have d0 := hE.c0
 have d1 := hE.c1
 have d2 := hE.c2
 have d3 := hE.c3
 have d4 := hE.c4
 have hYl := hY.ex
 have hlo := hD.bel.size
 go_wp2_with (go_at_call 77; refine (Hcall.out _ hD.rd).mono ?_; rintro e w2 ⟨A1, c1, g1, rfl, hr1, own1, hb1⟩; have hY2 := hY.below hb1; have z0 := hY2.z0; have z1 := hY2.z1; have zf0 := hY2.zf 0; have zf1 := hY2.zf 1)
 obtain ⟨r0, r1, ho2, hb7⟩ := hY2.fin (n := n) (bthen hD.bel hb1) (own_less own1 hlo) (mfin_ne own1 hYl)
 refine bodyPost_ret (v := .tuple #[.agg #[.int .i64 n, .slice A1 ds.length c1], .bool true]) (by simp [results, Tryz.results43, go_sem, r0, r1]) rfl ?_
 obtain ⟨g, hr⟩ := OwnB.readsA ho2
 exact ⟨_, rfl, ⟨⟨n, ds⟩, A1, c1, g, by rw [T1.out], hr, fun h => own_ge ho2 hr h, by show ds.length ≤ 17; omega, fun _ => rfl⟩, hb7⟩
set_option maxHeartbeats 2000000 in
set_option maxRecDepth 100000 in
theorem made_loose_no (n : Int) (bs : List Bd) (a1 : Int) (hno : (planOk ⟨n, bs⟩ && inB a1 0 ((bs.length : Int) - 1)) = false) (hn : bs.length ≤ 2000000) (A : Option Addr) (b o c B : Nat) (w : World)  (hB : B ≤ w.heap.size) (hR : BdsR w B b o A bs) :
  Calls Tryz.prog 43 #[.agg #[.int .i64 2, .int .i64 a1, .int .i64 0, .int .i64 0, .string ⟨#[]⟩], .agg #[.int .i64 n, .slice A bs.length c]] w fun e w' => ∃ v, e = .returned v ∧ MadeI w w' ⟨0, []⟩ v ∧ Below w.heap.size w w' := by
 have hcall := fun (wq : World) (hq' : BdsR wq wq.heap.size b o A bs) => without_no ⟨n, bs⟩ a1 A b o c _ wq hn hno (Nat.le_refl _) hq'
 (try dsimp only at hcall)
 have Hcall := hide hcall
 clear hcall hno hn
 have hD := ((po_new (t := 34) (n := n) (c := c) (deb_bel w 2 a1 0 0 ⟨#[]⟩) (bds_next (hR.more hB) (deb_bel w 2 a1 0 0 ⟨#[]⟩))).alloc (.cells #[.int .i64 0, .slice none 0 0] 34))
 have hE : DeB w (((w.alloc (.cells #[.int .i64 2, .int .i64 a1, .int .i64 0, .int .i64 0, .string ⟨#[]⟩] 41)).alloc (.cells #[.int .i64 n, .slice A bs.length c] 34)).alloc (.cells #[.int .i64 0, .slice none 0 0] 34)) w.heap.size 2 a1 0 0 ⟨#[]⟩ := ((deb_new rfl (Nat.le_refl _)).alloc _).alloc _
 have hY : ZB w (((w.alloc (.cells #[.int .i64 2, .int .i64 a1, .int .i64 0, .int .i64 0, .string ⟨#[]⟩] 41)).alloc (.cells #[.int .i64 n, .slice A bs.length c] 34)).alloc (.cells #[.int .i64 0, .slice none 0 0] 34)) (w.heap.size + 1 + 1) := zb_at (by simp) (by simp; omega)
 have hse : (w.alloc (.cells #[.int .i64 2, .int .i64 a1, .int .i64 0, .int .i64 0, .string ⟨#[]⟩] 41)).heap.size = w.heap.size + 1 := by simp
 rw [hse] at hD
 clear hR hse
 go_enter Tryz.func43, Tryz.ntmps43
 go_upto_region 1 with fail
 generalize ((w.alloc (.cells #[.int .i64 2, .int .i64 a1, .int .i64 0, .int .i64 0, .string ⟨#[]⟩] 41)).alloc (.cells #[.int .i64 n, .slice A bs.length c] 34)).alloc (.cells #[.int .i64 0, .slice none 0 0] 34) = W at hD hE hY ⊢
 have p0 := hD.c0
 have p1 := hD.c1
 have d0 := hE.c0
 have d1 := hE.c1
 have d2 := hE.c2
 have d3 := hE.c3
 have d4 := hE.c4
 have hYl := hY.ex
 have hlo := hD.bel.size
 go_wp2_with (go_at_call 77; refine (Hcall.out _ hD.rd).mono ?_; rintro e w2 ⟨rfl, hb1⟩; have hY2 := hY.below hb1; have z0 := hY2.z0; have z1 := hY2.z1; have zf0 := hY2.zf 0; have zf1 := hY2.zf 1)
 obtain ⟨r0, r1⟩ := two_cells (a := .int .i64 0) (b := .slice none 0 0) z0 z1
 have hb7 := ((bthen hD.bel hb1).setCell (p := ⟨w.heap.size + 1 + 1, 0, none⟩) hY.lo (.int .i64 0)).setCell (p := ⟨w.heap.size + 1 + 1, 1, none⟩) hY.lo (.slice none 0 0)
 refine bodyPost_ret (v := .tuple #[.agg #[.int .i64 0, .slice none 0 0], .bool false]) (by simp [results, Tryz.results43, go_sem, r0, r1]) rfl ?_
 exact ⟨_, rfl, ⟨⟨0, []⟩, none, 0, 0, rfl, BdsR.nil _ _ _, fun h => by simp at h, by simp, fun h => rfl⟩, hb7⟩
set_option maxHeartbeats 2000000 in
set_option maxRecDepth 100000 in
theorem made_term (n : Int) (bs : List Bd) (s : ByteArray) (L : List UInt8) (hL : s.data.toList = L) (rt : List UInt8 → Option (List Mk)) (hrt : IsRead rt) (A : Option Addr) (b o c B : Nat) (w : World) (hv : VR w) (hB : B ≤ w.heap.size) (hR : BdsR w B b o A bs) :
  Calls Tryz.prog 43 #[.agg #[.int .i64 5, .int .i64 0, .int .i64 0, .int .i64 0, .string s], .agg #[.int .i64 n, .slice A bs.length c]] w fun e w' => ∃ v, e = .returned v ∧ MadeI w w' (planOf ((rt L).getD [])) v ∧ Below w.heap.size w w' := by
 cases hro : rt L with
 | none =>
   have e1 : planOf ((none : Option (List Mk)).getD []) = ⟨0, []⟩ := rfl
   rw [e1]
   have Hro := hide hro
   clear hro e1
   have hD := ((po_new (t := 34) (n := n) (c := c) (deb_bel w 5 0 0 0 s) (bds_next (hR.more hB) (deb_bel w 5 0 0 0 s))).alloc (.cells #[.int .i64 0, .slice none 0 0] 34))
   have hE : DeB w (((w.alloc (.cells #[.int .i64 5, .int .i64 0, .int .i64 0, .int .i64 0, .string s] 41)).alloc (.cells #[.int .i64 n, .slice A bs.length c] 34)).alloc (.cells #[.int .i64 0, .slice none 0 0] 34)) w.heap.size 5 0 0 0 s := ((deb_new rfl (Nat.le_refl _)).alloc _).alloc _
   have hY : ZB w (((w.alloc (.cells #[.int .i64 5, .int .i64 0, .int .i64 0, .int .i64 0, .string s] 41)).alloc (.cells #[.int .i64 n, .slice A bs.length c] 34)).alloc (.cells #[.int .i64 0, .slice none 0 0] 34)) (w.heap.size + 1 + 1) := zb_at (by simp) (by simp; omega)
   have hse : (w.alloc (.cells #[.int .i64 5, .int .i64 0, .int .i64 0, .int .i64 0, .string s] 41)).heap.size = w.heap.size + 1 := by simp
   rw [hse] at hD
   clear hR hse
   go_enter Tryz.func43, Tryz.ntmps43
   go_upto_region 1 with fail
   generalize ((w.alloc (.cells #[.int .i64 5, .int .i64 0, .int .i64 0, .int .i64 0, .string s] 41)).alloc (.cells #[.int .i64 n, .slice A bs.length c] 34)).alloc (.cells #[.int .i64 0, .slice none 0 0] 34) = W at hD hE hY ⊢
   have p0 := hD.c0
   have p1 := hD.c1
   have d0 := hE.c0
   have d1 := hE.c1
   have d2 := hE.c2
   have d3 := hE.c3
   have d4 := hE.c4
   have hYl := hY.ex
   have hlo := hD.bel.size
   have hv1 := hv.below hD.bel
   go_wp2_with (go_at_call 80; refine (readTerm_q rt hrt s L hL _ hv1).mono ?_; rintro e w2 ⟨v, rfl, ⟨A3, c3, t, rfl, own3, ht, htl⟩, hb1⟩; rw [Hro.out]; clear ht; have hY2 := hY.below hb1; have z0 := hY2.z0; have z1 := hY2.z1; have zf0 := hY2.zf 0; have zf1 := hY2.zf 1)
   obtain ⟨r0, r1⟩ := two_cells (a := .int .i64 0) (b := .slice none 0 0) z0 z1
   have hb7 := ((bthen hD.bel hb1).setCell (p := ⟨w.heap.size + 1 + 1, 0, none⟩) hY.lo (.int .i64 0)).setCell (p := ⟨w.heap.size + 1 + 1, 1, none⟩) hY.lo (.slice none 0 0)
   refine bodyPost_ret (v := .tuple #[.agg #[.int .i64 0, .slice none 0 0], .bool false]) (by simp [results, Tryz.results43, go_sem, r0, r1]) rfl ?_
   exact ⟨_, rfl, ⟨⟨0, []⟩, none, 0, 0, rfl, BdsR.nil _ _ _, fun h => by simp at h, by simp, fun h => rfl⟩, hb7⟩
 | some t0 =>
   have e1 : planOf ((some t0).getD []) = planOf t0 := rfl
   rw [e1]
   obtain ⟨q, hq⟩ : ∃ q, planOf t0 = q := ⟨_, rfl⟩
   obtain ⟨r, hrr⟩ : ∃ r, planIs t0 = r := ⟨_, rfl⟩
   have hok : planOk q = r := by rw [← hq, planOf_is, hrr]
   have hl := planOf_len t0
   rw [hq] at hl
   rw [hq]
   have hcall := fun (A' : Option Addr) (g' c' : Nat) (wq : World) (hq' : MkR wq wq.heap.size g' 0 A' t0) (hn : t0.length ≤ 2000000) => planOf_q t0 q r hq hrr A' g' 0 c' _ wq (Nat.le_refl _) hq' hn
   have Hcall := hide hcall
   have Hok := hide hok
   have Hro := hide hro
   clear hcall hok hq hrr hro e1
   have hD := ((po_new (t := 34) (n := n) (c := c) (deb_bel w 5 0 0 0 s) (bds_next (hR.more hB) (deb_bel w 5 0 0 0 s))).alloc (.cells #[.int .i64 0, .slice none 0 0] 34))
   have hE : DeB w (((w.alloc (.cells #[.int .i64 5, .int .i64 0, .int .i64 0, .int .i64 0, .string s] 41)).alloc (.cells #[.int .i64 n, .slice A bs.length c] 34)).alloc (.cells #[.int .i64 0, .slice none 0 0] 34)) w.heap.size 5 0 0 0 s := ((deb_new rfl (Nat.le_refl _)).alloc _).alloc _
   have hY : ZB w (((w.alloc (.cells #[.int .i64 5, .int .i64 0, .int .i64 0, .int .i64 0, .string s] 41)).alloc (.cells #[.int .i64 n, .slice A bs.length c] 34)).alloc (.cells #[.int .i64 0, .slice none 0 0] 34)) (w.heap.size + 1 + 1) := zb_at (by simp) (by simp; omega)
   have hse : (w.alloc (.cells #[.int .i64 5, .int .i64 0, .int .i64 0, .int .i64 0, .string s] 41)).heap.size = w.heap.size + 1 := by simp
   rw [hse] at hD
   clear hR hse
   go_enter Tryz.func43, Tryz.ntmps43
   go_upto_region 1 with fail
   generalize ((w.alloc (.cells #[.int .i64 5, .int .i64 0, .int .i64 0, .int .i64 0, .string s] 41)).alloc (.cells #[.int .i64 n, .slice A bs.length c] 34)).alloc (.cells #[.int .i64 0, .slice none 0 0] 34) = W at hD hE hY ⊢
   have p0 := hD.c0
   have p1 := hD.c1
   have d0 := hE.c0
   have d1 := hE.c1
   have d2 := hE.c2
   have d3 := hE.c3
   have d4 := hE.c4
   have hYl := hY.ex
   have hlo := hD.bel.size
   have hv1 := hv.below hD.bel
   go_upto_region 15 with (go_at_call 80; refine (readTerm_q rt hrt s L hL _ hv1).mono ?_; rintro e w3 ⟨v, rfl, ⟨A3, c3, t, rfl, own3, ht, htl⟩, hb3⟩; rw [Hro.out] at ht ⊢; (obtain rfl : t = t0 := ht))
   obtain ⟨g3, hr3⟩ := OwnM.reads own3
   replace hD := hD.below hb3
   replace hY := hY.below hb3
   replace hYl := hY.ex
   replace hlo := hD.bel.size
   clear hE p0 p1 d0 d1 d2 d3 d4 own3
   go_wp2_with (go_at_call 81; refine (Hcall.out A3 g3 c3 _ hr3 (by omega)).mono ?_; rintro e w2 ⟨A1, c1, g1, rfl, hr1, own1, hb1⟩; have hY2 := hY.below hb1; have z0 := hY2.z0; have z1 := hY2.z1; have zf0 := hY2.zf 0; have zf1 := hY2.zf 1)
   obtain ⟨r0, r1, ho2, hb7⟩ := hY2.fin (n := q.n) (bthen hD.bel hb1) (own_less own1 hlo) (mfin_ne own1 hYl)
   refine bodyPost_ret (v := .tuple #[.agg #[.int .i64 q.n, .slice A1 q.bs.length c1], .bool r]) (by simp [results, Tryz.results43, go_sem, r0, r1]) rfl ?_
   obtain ⟨g, hr⟩ := OwnB.readsA ho2
   exact ⟨_, rfl, ⟨q, A1, c1, g, by rw [Hok.out], hr, fun h => own_ge ho2 hr h, by omega, fun h => rfl⟩, hb7⟩

open Go Go.RowKit Pp

set_option maxHeartbeats 2000000 in
set_option maxRecDepth 100000 in
theorem eqBds_c (xs ys : List Bd) (A A' : Option Addr) (b o c b' o' c' B : Nat) (w : World) (hn : xs.length ≤ 2000000) (hn' : ys.length ≤ 2000000) (hB : B ≤ w.heap.size) (hR : BdsR w B b o A xs) (hR' : BdsR w B b' o' A' ys) :
  Calls Tryz.prog 82 #[.slice A xs.length c, .slice A' ys.length c'] w fun e w' => e = .returned (.bool (decide (xs = ys))) ∧ Below w.heap.size w w' := by
 by_cases hl : xs.length = ys.length
 ·obtain ⟨q, hq⟩ : ∃ q, decide (xs = ys) = q := ⟨_, rfl⟩
  have Hq := hide hq
  have Hl := hide hl
  rw [hq]
  have hlz : ((xs.length : Int) != (ys.length : Int)) = false := by simp [hl]
  clear hl hq
  go_enter Tryz.func82, Tryz.ntmps82
  go_wp2_with fail
  go_loopg [13] (xs.length + 1) (fun gh s wr => ∃ k : Nat, k ≤ xs.length ∧ gh = xs.length + 1 - k ∧ s = .int .i64 k ∧ Hid (xs.take k = ys.take k) ∧ Below w.heap.size w wr)
  case atStart => exact ⟨0, Nat.zero_le _, rfl, rfl, by simp [Hid], Below.refl _ _⟩
  case round =>
   obtain ⟨k, hk, rfl, rfl, HT, hW⟩ := hrel
   have hR1 := hR.below (hW.mono hB)
   have hR2 := hR'.below (hW.mono hB)
   by_cases hlt : k < xs.length
   ·have hlt' : k < ys.length := by rw [← Hl.out]; exact hlt
    obtain rfl := hR1.addr (by omega)
    obtain rfl := hR2.addr (by omega)
    have hx := List.getElem?_eq_getElem hlt
    have hy := List.getElem?_eq_getElem hlt'
    have d0 := hR1.c0 k _ hx
    have d1 := hR1.c1 k _ hx
    have d2 := hR1.c2 k _ hx
    have e0 := hR2.c0 k _ hy
    have e1 := hR2.c1 k _ hy
    have e2 := hR2.c2 k _ hy
    have hkz : (k : Int) < (xs.length : Int) := by omega
    have hkz' : (k : Int) < (ys.length : Int) := by omega
    have Hx := hide (And.intro hx hy)
    clear hx hy hR1 hR2
    generalize xs[k] = x at d0 d1 d2 Hx
    generalize ys[k] = y at e0 e1 e2 Hx
    by_cases hxy : x = y
    ·subst hxy
     have HT2 : Hid (xs.take (k + 1) = ys.take (k + 1)) := by unfold Hid; rw [List.take_add_one, List.take_add_one, HT.out, Hx.out.1, Hx.out.2]
     go_upto_region 6 with fail
     go_quiet (fail)
     have hW2 := bthen hW (bel_drewN wr nq)
     go_wp2_with fail
     go_roundg (xs.length + 1 - (k + 1))
     case measure => go_light; omega
     case rel => go_light; exact ⟨k + 1, by omega, rfl, by go_num, HT2, hW2⟩
    ·have hqf : q = false := by
      rw [← Hq.out, decide_eq_false_iff_not]
      intro h
      have h1 := Hx.out.1
      rw [h, Hx.out.2] at h1
      injection h1 with h1
      exact hxy h1.symm
     subst hqf
     have hd : (x.f == y.f) = false ∨ ((x.f == y.f) = true ∧ ((x.t == y.t) = false ∨ ((x.t == y.t) = true ∧ (x.m == y.m) = false))) := by
      by_cases h1 : x.f = y.f
      ·refine .inr ⟨by simpa using h1, ?_⟩
       by_cases h2 : x.t = y.t
       ·refine .inr ⟨by simpa using h2, ?_⟩
        simp only [beq_eq_false_iff_ne, ne_eq]
        exact fun h3 => hxy (Bd.ext' h1 h2 h3)
       ·exact .inl (by simpa using h2)
      ·exact .inl (by simpa using h1)
     clear hxy
     rcases hd with hd | ⟨ha, hd | ⟨hb', hd⟩⟩
     all_goals
      go_upto_region 6 with fail
      go_quiet (fail)
      have hW2 := bthen hW (bel_drewN wr nq)
      go_wp2_with fail
      go_ret
      exact ⟨rfl, hW2⟩
   ·obtain rfl : k = xs.length := by omega
    have ht := HT.out
    rw [List.take_length, Hl.out, List.take_length] at ht
    have hqt : q = true := by rw [← Hq.out, decide_eq_true_eq]; exact ht
    subst hqt
    clear ht
    go_wp2_with fail
    go_ret
    exact ⟨rfl, hW⟩
 ·have hne : decide (xs = ys) = false := by rw [decide_eq_false_iff_not]; exact fun h => hl (by rw [h])
  rw [hne]
  have hlz : ((xs.length : Int) != (ys.length : Int)) = true := by simp; omega
  clear hl hne
  go_enter Tryz.func82, Tryz.ntmps82
  go_wp2_with fail
  go_ret
  exact ⟨rfl, Below.refl _ _⟩
namespace Pp
def sameP (p q : Pl) : Bool := decide (p.n = q.n ∧ p.bs = q.bs)
theorem sameP_iff {p q : Pl} : sameP p q = true ↔ p = q := by
 unfold sameP
 rw [decide_eq_true_eq]
 constructor
 ·intro h; cases p; cases q; simp_all
 ·intro h; subst h; exact ⟨rfl, rfl⟩
end Pp
set_option maxHeartbeats 2000000 in
set_option maxRecDepth 100000 in
theorem same_c (p q : Pl) (A A' : Option Addr) (b o c b' o' c' B : Nat) (w : World) (hn : p.bs.length ≤ 2000000) (hn' : q.bs.length ≤ 2000000) (hB : B ≤ w.heap.size) (hR : BdsR w B b o A p.bs) (hR' : BdsR w B b' o' A' q.bs) :
  Calls Tryz.prog 44 #[.agg #[.int .i64 p.n, .slice A p.bs.length c], .agg #[.int .i64 q.n, .slice A' q.bs.length c']] w fun e w' => e = .returned (.bool (sameP p q)) ∧ Below w.heap.size w w' := by
 obtain ⟨n, xs⟩ := p
 obtain ⟨n', ys⟩ := q
 dsimp only at *
 unfold sameP
 dsimp only
 rw [Bool.decide_and]
 have hal : Below w.heap.size w ((w.alloc (.cells #[.int .i64 n, .slice A xs.length c] 34)).alloc (.cells #[.int .i64 n', .slice A' ys.length c'] 34)) := by go_grown
 have hR1 := (hR.more hB).below hal
 have hR2 := (hR'.more hB).below hal
 obtain ⟨r, hr⟩ : ∃ r, decide (xs = ys) = r := ⟨_, rfl⟩
 have hc := eqBds_c xs ys A A' b o c b' o' c' _ _ hn hn' hal.size hR1 hR2
 rw [hr] at hc ⊢
 have Hc := hide hc
 clear hr hc hR hR' hR1 hR2
 by_cases hnn : n = n'
 ·subst hnn
  rw [decide_eq_true rfl, Bool.true_and]
  go_enter Tryz.func44, Tryz.ntmps44
  go_wp2_with (go_at_call 82; refine Hc.out.mono ?_; rintro e w2 ⟨rfl, hb⟩)
  go_ret
  exact ⟨rfl, bthen hal hb⟩
 ·rw [decide_eq_false hnn, Bool.false_and]
  have hnf : (n == n') = false := by simpa using hnn
  go_enter Tryz.func44, Tryz.ntmps44
  go_wp2_with fail
  go_ret
  exact ⟨rfl, hal⟩

namespace Pp
/-- Desks that are handed back, of which no two rows are one block. -/
def DkW (w w' : World) (d : Dk) (v : Value) : Prop := ∃ A c A2 c2, v = .agg #[.int .i64 d.now.n, .slice A d.now.bs.length c, .slice A2 d.past.length c2] ∧ OwnB w.heap.size w' (.slice A d.now.bs.length c) d.now.bs ∧ OwnPs w.heap.size w' (.slice A2 d.past.length c2) d.past ∧ ∃ M, DifW w.heap.size M w' (.slice A d.now.bs.length c) (.slice A2 d.past.length c2) d.past.length
def DkW2 (w w' : World) (d : Dk) (r : Bool) (v : Value) : Prop := ∃ A c A2 c2, v = .tuple #[.agg #[.int .i64 d.now.n, .slice A d.now.bs.length c, .slice A2 d.past.length c2], .bool r] ∧ OwnB w.heap.size w' (.slice A d.now.bs.length c) d.now.bs ∧ OwnPs w.heap.size w' (.slice A2 d.past.length c2) d.past ∧ ∃ M, DifW w.heap.size M w' (.slice A d.now.bs.length c) (.slice A2 d.past.length c2) d.past.length
theorem DkW2.weak {w w' : World} {d : Dk} {r : Bool} {v : Value} (h : DkW2 w w' d r v) : DkV2 w w' d r v := by
 obtain ⟨A, c, A2, c2, h1, h2, h3, -⟩ := h
 exact ⟨A, c, A2, c2, h1, h2, h3⟩
end Pp
set_option maxHeartbeats 4000000 in
set_option maxRecDepth 100000 in
theorem cloneD_q (n : Int) (bs : List Bd) (ps : List Pl) (A A2 : Option Addr) (b o c b2 o2 c2 B : Nat) (w : World) (h16 : bs.length ≤ 2000) (hps : ps.length ≤ 2000000) (hpl : ∀ p ∈ ps, p.bs.length ≤ 2000000) (hB : B ≤ w.heap.size) (hR : BdsR w B b o A bs) (hP : PlsR w B b2 o2 A2 ps) :
  Calls Tryz.prog 41 #[.agg #[.int .i64 n, .slice A bs.length c, .slice A2 ps.length c2]] w fun e w' => ∃ v, e = .returned v ∧ DkW w w' ⟨⟨n, bs⟩, ps⟩ v ∧ Below w.heap.size w w' := by
 obtain ⟨j0, hj0, hy0, hy1, hy2⟩ := info_parts infoPl
 have hD := (dkb_new (t := 37) (n := n) (c := c) (c2 := c2) (Below.refl w.heap.size w) (hR.more hB) (hP.more hB)).alloc (.cells #[.int .i64 0, .slice none 0 0, .slice none 0 0] 37)
 have hY : ZD w ((w.alloc (.cells #[.int .i64 n, .slice A bs.length c, .slice A2 ps.length c2] 37)).alloc (.cells #[.int .i64 0, .slice none 0 0, .slice none 0 0] 37)) (w.heap.size + 1) := zd_at (by simp) (by simp)
 have Hpl := hide hpl
 clear hR hP hB hpl
 go_enter Tryz.func41, Tryz.ntmps41
 go_upto_region 1 with fail
 generalize (w.alloc (.cells #[.int .i64 n, .slice A bs.length c, .slice A2 ps.length c2] 37)).alloc (.cells #[.int .i64 0, .slice none 0 0, .slice none 0 0] 37) = W at hD hY ⊢
 have p0 := hD.c0
 have p1 := hD.c1
 go_upto_region 2 with (go_at_call 74; go_fit (clone_q ⟨n, bs⟩ A b o c _ _ (show bs.length ≤ 2000000 by omega) (Nat.le_refl _) hD.rd); rintro e w2 ⟨A3, c3, g3, rfl, hr3, own3, hb⟩)
 have hQ0 := md_new (n := n) hb own3
 have hF0 : DifW W.heap.size (w2.alloc (.cells #[.int .i64 n, .slice A3 bs.length c3, .slice none 0 0] 37)).heap.size (w2.alloc (.cells #[.int .i64 n, .slice A3 bs.length c3, .slice none 0 0] 37)) (.slice A3 bs.length c3) (.slice none 0 0) 0 := DifW.nil _ _ _ _ _ _
 have hD0 := hD.below (bthen hb (show Below w2.heap.size w2 (w2.alloc (.cells #[.int .i64 n, .slice A3 bs.length c3, .slice none 0 0] 37)) by go_grown))
 clear p0 p1 hr3 own3 hb
 try dsimp only at hQ0 hD0 hF0 ⊢
 generalize w2.alloc (.cells #[.int .i64 n, .slice A3 bs.length c3, .slice none 0 0] 37) = W1 at hQ0 hD0 hF0 ⊢
 generalize w2.heap.size = X at hQ0 ⊢
 have q2 := hD0.c2
 go_wp2_with fail
 clear q2 hD0
 go_loopg [13] ps.length (fun gh s wr => ∃ (k : Nat) (A4 : Option Addr) (c4 : Nat), k ≤ ps.length ∧ gh = ps.length - k ∧ s = .int .i64 k ∧ MD W wr X n A3 c3 bs A4 c4 (ps.take k) ∧ DifW W.heap.size wr.heap.size wr (.slice A3 bs.length c3) (.slice A4 k c4) k)
 case atStart => exact ⟨0, none, 0, Nat.zero_le _, rfl, rfl, hQ0, hF0⟩
 case round =>
  clear hQ0 hF0
  obtain ⟨k, A4, c4, hk, rfl, rfl, hQ, hF⟩ := hrel
  have hD1 := hD.below hQ.bel
  by_cases hlt : k < ps.length
  ·have hx := List.getElem?_eq_getElem hlt
   have htl : (ps.take k).length = k := by rw [List.length_take]; omega
   have htk : ps.take (k + 1) = ps.take k ++ [ps[k]] := by rw [List.take_add_one, hx]; rfl
   obtain rfl := hD1.rp.addr (by omega)
   have hlt2 := hD1.rp.lt (by omega)
   obtain ⟨Ap, bp, op, cp, d0, d1, hrp⟩ := hD1.rp.row k _ hx
   have hpl := Hpl.out _ (List.mem_of_getElem? hx)
   have Htk := hide htk
   have hkz : (k : Int) < (ps.length : Int) := by omega
   have hltW := hD.rp.lt (by omega)
   clear htk hx
   generalize ps[k] = q at d0 d1 hrp hpl Htk
   obtain ⟨ts, hts⟩ : ∃ ts, ps.take k = ts := ⟨_, rfl⟩
   rw [hts] at hQ htl Htk
   have Htl := hide htl
   clear hts htl
   have hVr : ∀ j, (Value.slice A4 k c4).ownBlock = some j → j < wr.heap.size := fun j hj => by
    obtain ⟨cs, hrow, -⟩ := hQ.ops
    rw [Htl.out] at hrow
    exact (hrow.lt j hj).2
   have hV := po_new (t := 34) (n := q.n) (c := cp) (Below.refl wr.heap.size wr) hrp
   have halv : Below wr.heap.size wr (wr.alloc (.cells #[.int .i64 q.n, .slice Ap q.bs.length cp] 34)) := by go_grown
   have hQv := hQ.below halv
   have hFv := (hF.below halv).moreM halv.size
   clear hF
   go_upto_region 5 with fail
   generalize wr.alloc (.cells #[.int .i64 q.n, .slice Ap q.bs.length cp] 34) = wv at hV hQv hFv ⊢
   generalize wr.heap.size = V at hV hVr ⊢
   clear hQ hD1 halv d0 d1 hrp
   have hdr : Below wv.heap.size wv wv.drew := by go_grown
   replace hQv := hQv.below hdr
   replace hV := hV.below hdr
   replace hFv := (hFv.below hdr).moreM hdr.size
   refine wp_regionE (fun w' => w'.cell? ⟨X, 2, none⟩ = some (.slice A4 k c4) ∧ w'.cell? ⟨V, 0, none⟩ = some (.int .i64 q.n) ∧ w'.cell? ⟨V, 1, none⟩ = some (.slice Ap q.bs.length cp)) 7 (by kernel_rfl) ?_
   change wpE _ _ _ _ _ _ 8 #[false, false, false, false, false, false, false, false] _ _
   generalize wv.drew = wd at hQv hV hFv ⊢
   have hnw : ∀ k, (Value.slice A3 bs.length c3).ownBlock = some k → k < wd.heap.size := fun k hk => (hQv.own.lt k hk).2
   have Hnw := hide hnw
   clear hnw
   have x2 := hQv.p2
   rw [Htl.out] at x2
   have hS0 : wd.cell? ⟨X, 2, none⟩ = some (.slice A4 k c4) ∧ wd.cell? ⟨V, 0, none⟩ = some (.int .i64 q.n) ∧ wd.cell? ⟨V, 1, none⟩ = some (.slice Ap q.bs.length cp) := ⟨x2, hV.c0, hV.c1⟩
   refine wpE_tk (v := ?_) 0 [1, 5, 7] (hy := ?_) (hS := hS0) (h := ?_)
   rotate_left
   ·intro w' hSw
    simp only [xg0, xg1, xg2]
    go_simp
    all_goals with_reducible rfl
   simp only [xg0, xg1, xg2, Act.put, xs0, xs1, xs2]
   refine wpE_tk (v := ?_) 1 [5, 7] (hy := ?_) (hS := hS0) (h := ?_)
   rotate_left
   ·intro w' hSw
    simp only [xg0, xg1, xg2]
    go_simp
    all_goals with_reducible rfl
   simp only [xg0, xg1, xg2, Act.put, xs0, xs1, xs2]
   refine wpE_tk (v := ?_) 2 [3, 5, 7] (hy := ?_) (hS := hS0) (h := ?_)
   rotate_left
   ·intro w' hSw
    simp only [xg0, xg1, xg2]
    go_simp
    all_goals with_reducible rfl
   simp only [xg0, xg1, xg2, Act.put, xs0, xs1, xs2]
   refine wpE_step' 3 (of_decide_eq_true (by kernel_rfl)) (by kernel_rfl) (by kernel_rfl) (fun K hK => ?_)
   simp only [xg0, xg1, xg2]
   go_simp
   go_at_call 74
   refine (clone_q q Ap bp op cp _ _ hpl (Nat.le_refl _) hV.rd).mono ?_
   rintro e w3 ⟨A5, c5, g5, rfl, hr5, own5, hb5⟩
   have hlo5 := hQv.bel.size
   replace hQv := hQv.below hb5
   replace hV := hV.below hb5
   have x2 := hQv.p2
   rw [Htl.out] at x2
   refine hK.out _ _ (.inr ⟨x2, hV.c0, hV.c1⟩) ?_
   clear hK K hS0 hr5
   simp only [Act.put, xs0, xs1, xs2]
   have hal6 : Below w3.heap.size w3 (w3.alloc (.cells #[.int .i64 q.n, .slice A5 q.bs.length c5] 34)) := by go_grown
   have hQ6 := hQv.below hal6
   have hF6 := (hFv.below hb5).below hal6
   have hr6 : Hid (∀ k, (Value.slice A5 q.bs.length c5).ownBlock = some k → wd.heap.size ≤ k ∧ k < w3.heap.size) := hide (fun k hk => own5.lt k hk)
   have hsz6 := hb5.size
   clear hb5 hFv
   have hV6 := hV.below hal6
   have own6 : OwnB W.heap.size (w3.alloc (.cells #[.int .i64 q.n, .slice A5 q.bs.length c5] 34)) (.slice A5 q.bs.length c5) q.bs := own_less (own_below own5 hal6) hlo5
   refine wpE_step' 4 (of_decide_eq_true (by kernel_rfl)) (by kernel_rfl) (by kernel_rfl) (fun K hK => ?_)
   simp only [xg0, xg1, xg2]
   go_simp
   have x6 := hQ6.p2
   rw [Htl.out] at x6
   refine hK.out _ _ (.inr ⟨x6, hV6.c0, hV6.c1⟩) ?_
   clear hK K
   simp only [Act.put, xs0, xs1, xs2]
   obtain ⟨cs, hrow, hplc⟩ := hQ6.ops
   have hrow' := hrow
   rw [Htl.out] at hrow'
   refine wpE_step' 5 (of_decide_eq_true (by kernel_rfl)) (by kernel_rfl) (by kernel_rfl) (fun K hK => ?_)
   simp only [xg0, xg1, xg2]
   refine app_wp _ (.tmp 18) (.tmp 21) _ rfl W.heap.size 34 j0 _ 2 32 Tryz.underlying35 hj0 hy0 hy1 hy2 rfl (by omega) (.slice A4 k c4) k cs rfl hrow' (some ⟨w3.heap.size, 0, none⟩) 1 _ [.int .i64 q.n, .slice A5 q.bs.length c5] rfl rfl (NewsAt.block (cs := #[.int .i64 q.n, .slice A5 q.bs.length c5]) (at_new (w := w3) rfl)) (by simp [Value.oneCell']) (by omega) (by omega) hQ6.bel.size ?_
   intro A7 c7 w7 hown7 hg7 hat7
   have happ := hQ6.app (p := q) (A2' := A7) (c2' := c7) hrow hplc own6 (by rw [Htl.out]; exact hg7) (by rw [Htl.out]; exact hown7)
   rw [Htl.out] at happ
   obtain ⟨z2, zf, hQ7, hb7⟩ := happ
   have hF7 : DifW W.heap.size (w7.setCell ⟨X, 2, none⟩ (.slice A7 (k + 1) c7)).heap.size (w7.setCell ⟨X, 2, none⟩ (.slice A7 (k + 1) c7)) (.slice A3 bs.length c3) (.slice A7 (k + 1) c7) (k + 1) := by
    have hg7s := hg7.size
    simp only [World.size_alloc] at hg7s
    have hd := (hF6.toC hrow').snoc (u := .int .i64 q.n) (row := .slice A5 q.bs.length c5) (M' := w7.heap.size) hrow'.1 (by omega) (fun k hk => ⟨(hr6.out k hk).1, by have := (hr6.out k hk).2; omega⟩) Hnw.out
    have h1 := DifW.of_own hown7 hd
    have hX7 : (Value.slice A7 (k + 1) c7).ownBlock ≠ some X := by
     rcases hat7 with e | e
     ·rw [e]; exact own_box hrow' hQ6.bx (by decide)
     ·rw [e]; intro e2; injection e2 with e2; have := hQ6.ex; omega
    rw [World.size_setCell]
    exact h1.set hX7 2 _
   clear hr6 hsz6 Hnw hF6
   have hneV : some V ≠ (Value.slice A4 k c4).ownBlock := fun e => by
    have := hVr V e.symm
    omega
   have v70 := (hg7.cell_far ⟨V, 0, none⟩ hV6.ex hneV).trans hV6.c0
   have v71 := (hg7.cell_far ⟨V, 1, none⟩ hV6.ex hneV).trans hV6.c1
   have hS0 : w7.cell? ⟨X, 2, none⟩ = some (.slice A4 k c4) ∧ w7.cell? ⟨V, 0, none⟩ = some (.int .i64 q.n) ∧ w7.cell? ⟨V, 1, none⟩ = some (.slice Ap q.bs.length cp) := ⟨z2, v70, v71⟩
   refine hK.out _ _ (.inr hS0) ?_
   clear hK K
   simp only [Act.put, xs0, xs1, xs2]
   refine wpE_tk (v := ?_) 6 [7] (hy := ?_) (hS := hS0) (h := ?_)
   rotate_left
   ·intro w' hSw
    simp only [xg0, xg1, xg2]
    go_simp
    all_goals with_reducible rfl
   simp only [xg0, xg1, xg2, Act.put, xs0, xs1, xs2]
   refine wpE_step' 7 (of_decide_eq_true (by kernel_rfl)) (by kernel_rfl) (by kernel_rfl) (fun K hK => ?_)
   simp only [xg0, xg1, xg2]
   go_simp
   refine hK.out _ _ (.inl rfl) ?_
   clear hK K
   simp only [Act.put, xs0, xs1, xs2]
   refine wpE_done (by kernel_rfl) ?_ _
   rw [← Htk.out] at hQ7
   clear hS0 z2 zf hb7 hg7 hown7 hat7 hrow hrow' hplc own6 hQ6 hV6 hal6 x6 x2 own5 hQv hV v70 v71 hneV hVr
   generalize w7.setCell ⟨X, 2, none⟩ (.slice A7 (k + 1) c7) = W8 at hQ7 hF7 ⊢
   go_wp2_with fail
   go_roundg (ps.length - (k + 1))
   case measure => go_light; omega
   case rel => go_light; exact ⟨k + 1, A7, c7, by omega, rfl, by go_num, hQ7, hF7⟩
  ·obtain rfl : k = ps.length := by omega
   rw [List.take_length] at hQ
   have hY1 := hY.below hQ.bel
   have hYl := hY.ex
   have q0 := hQ.p0
   have q1 := hQ.p1
   have q2 := hQ.p2
   have z0 := hY1.z0
   have z1 := hY1.z1
   have z2 := hY1.z2
   have zf0 := hY1.zf 0
   have zf1 := hY1.zf 1
   have zf2 := hY1.zf 2
   have hbel := hD1.bel
   have hlo := hD.bel.size
   have own9 := ((hQ.own.setLow hYl 0 (.int .i64 n)).setLow hYl 1 (.slice A3 bs.length c3)).setLow hYl 2 (.slice A4 ps.length c4)
   have ops9 := ((hQ.ops.setLow hYl 0 (.int .i64 n)).setLow hYl 1 (.slice A3 bs.length c3)).setLow hYl 2 (.slice A4 ps.length c4)
   have dif9 := ((hF.setLow hYl 0 (.int .i64 n)).setLow hYl 1 (.slice A3 bs.length c3)).setLow hYl 2 (.slice A4 ps.length c4)
   obtain ⟨r0, r1, r2⟩ := three_cellsD (a := .int .i64 n) (b := .slice A3 bs.length c3) (d := .slice A4 ps.length c4) z0 z1 z2
   have hb9 := ((hbel.setCell (p := ⟨w.heap.size + 1, 0, none⟩) hY.lo (.int .i64 n)).setCell (p := ⟨w.heap.size + 1, 1, none⟩) hY.lo (.slice A3 bs.length c3)).setCell (p := ⟨w.heap.size + 1, 2, none⟩) hY.lo (.slice A4 ps.length c4)
   clear hD1 hF
   go_wp2_with fail
   refine bodyPost_ret (v := .agg #[.int .i64 n, .slice A3 bs.length c3, .slice A4 ps.length c4]) (by simp [results, Tryz.results41, go_sem, r0, r1, r2]) rfl ?_
   exact ⟨_, rfl, ⟨A3, c3, A4, c4, rfl, own_less own9 hlo, ops9.less hlo, _, dif9.less hlo⟩, hb9⟩

open Go Go.RowKit Pp

namespace Pp
theorem made_bad {rt : List UInt8 → Option (List Mk)} {p : Pl} {a : Dd} (h : namedD a = false ∨ a.k = 6) : madeP rt p a = ⟨0, []⟩ := by
 unfold madeP
 rw [if_neg, if_neg, if_neg, if_neg, if_neg, if_neg]
 all_goals
  intro hx
  rcases h with h | h
  ·simp [namedD, hx] at h
  ·omega
theorem do_bad2 {rt : List UInt8 → Option (List Mk)} {d : Dk} {a : Dd} (hd : deskOk d = true) (hb : ¬ ((a.k = 6 ∧ a.a = 0 ∧ a.b = 0 ∧ a.c = 0 ∧ a.ws = []) ∧ 0 < d.past.length)) (h : namedD a = false ∨ a.k = 6) : deskDo rt d a = (d, false) := by
 unfold deskDo
 rw [if_pos hd, if_neg hb, made_bad h, if_neg]
 rintro ⟨h1, -⟩
 exact absurd h1 (by decide)
theorem do_named {rt : List UInt8 → Option (List Mk)} {d : Dk} {a : Dd} (hd : deskOk d = true) (h : namedD a = false) : deskDo rt d a = (d, false) :=
 do_bad2 hd (fun hx => by
  obtain ⟨⟨h1, h2, h3, h4, h5⟩, -⟩ := hx
  simp [namedD, h1, h2, h3, h4, h5] at h) (.inl h)
theorem do_made {rt : List UInt8 → Option (List Mk)} {d : Dk} {a : Dd} (hd : deskOk d = true) (hk : a.k ≠ 6) : deskDo rt d a = if planOk (madeP rt d.now a) = true ∧ sameP (madeP rt d.now a) d.now = false then (⟨madeP rt d.now a, pushP d.past d.now⟩, true) else (d, false) := by
 unfold deskDo
 rw [if_pos hd, if_neg (fun hx => hk hx.1.1)]
 by_cases h1 : planOk (madeP rt d.now a) = true
 ·by_cases h2 : madeP rt d.now a = d.now
  ·rw [if_neg (fun h => h.2 (by rw [h2])), if_neg (fun h => by rw [sameP_iff.2 h2] at h; cases h.2)]
  ·rw [if_pos ⟨h1, fun h => h2 (planText_inj h1 (deskOk_iff.1 hd).2.1 h)⟩, if_pos ⟨h1, by rw [Bool.eq_false_iff]; exact fun h => h2 (sameP_iff.1 h)⟩]
 ·rw [if_neg (fun h => h1 h.1), if_neg (fun h => h1 h.1)]
end Pp
/-- What a deed makes of a plan, by the program. -/
theorem made_q (rt : List UInt8 → Option (List Mk)) (hrt : IsRead rt) (n : Int) (bs : List Bd) (hp : planOk ⟨n, bs⟩ = true) (k a1 a2 a3 : Int) (s : ByteArray) (L : List UInt8) (hL : s.data.toList = L) (hnm : namedD ⟨k, a1, a2, a3, L⟩ = true) (hk6 : k ≠ 6) (A : Option Addr) (b o c B : Nat) (w : World) (hv : VR w) (hB : B ≤ w.heap.size) (hR : BdsR w B b o A bs) :
  Calls Tryz.prog 43 #[.agg #[.int .i64 k, .int .i64 a1, .int .i64 a2, .int .i64 a3, .string s], .agg #[.int .i64 n, .slice A bs.length c]] w fun e w' => ∃ v, e = .returned v ∧ MadeI w w' (madeP rt ⟨n, bs⟩ ⟨k, a1, a2, a3, L⟩) v ∧ Below w.heap.size w w' := by
 obtain ⟨hn, h16, -⟩ := planOk_iff.1 hp
 dsimp only at hn h16
 unfold namedD at hnm
 dsimp only at hnm
 unfold madeP
 dsimp only
 by_cases h1 : k = 1
 ·subst h1
  rw [if_pos rfl, decide_eq_true_eq] at hnm
  subst hnm
  obtain rfl := str_nil hL
  rw [if_neg (by omega), if_pos ⟨rfl, rfl⟩]
  exact made_bound n bs a1 a2 a3 h16 A b o c B w hB hR
 rw [if_neg h1] at hnm
 by_cases h2 : k = 2
 ·subst h2
  rw [if_pos rfl, decide_eq_true_eq] at hnm
  obtain ⟨rfl, rfl, rfl⟩ := hnm
  obtain rfl := str_nil hL
  rw [if_neg (by omega), if_neg (by omega), if_pos ⟨rfl, rfl, rfl, rfl⟩]
  unfold lessP
  dsimp only
  by_cases hy : (planOk ⟨n, bs⟩ && inB a1 0 ((bs.length : Int) - 1)) = true
  ·rw [if_pos hy]
   rw [hp, Bool.true_and, inB_iff] at hy
   obtain ⟨j, rfl⟩ := Int.eq_ofNat_of_zero_le hy.1
   rw [Int.toNat_natCast]
   exact made_loose n bs j hp (by omega) A b o c B w hB hR
  ·rw [if_neg hy]
   exact made_loose_no n bs a1 (by simpa using hy) (by omega) A b o c B w hB hR
 rw [if_neg h2] at hnm
 by_cases h5 : k = 5
 ·subst h5
  rw [if_pos rfl, decide_eq_true_eq] at hnm
  obtain ⟨rfl, rfl, rfl⟩ := hnm
  rw [if_neg (by omega), if_neg (by omega), if_neg (by omega), if_neg (by omega), if_neg (by omega), if_pos ⟨rfl, rfl, rfl, rfl⟩]
  exact made_term n bs s L hL rt hrt A b o c B w hv hB hR
 rw [if_neg h5] at hnm
 split at hnm
 ·rename_i hk
  rw [decide_eq_true_eq] at hnm
  obtain ⟨rfl, rfl, rfl, rfl⟩ := hnm
  obtain rfl := str_nil hL
  rcases hk with rfl | rfl | rfl | rfl
  ·rw [if_pos ⟨rfl, rfl, rfl, rfl, rfl⟩]
   exact made_point n bs hn h16 A b o c B w hB hR
  ·rw [if_neg (by omega), if_neg (by omega), if_neg (by omega), if_pos ⟨rfl, rfl, rfl, rfl, rfl⟩]
   exact made_trim n bs hp A b o c B w hB hR
  ·rw [if_neg (by omega), if_neg (by omega), if_neg (by omega), if_neg (by omega), if_pos ⟨rfl, rfl, rfl, rfl, rfl⟩]
   exact made_turn n bs hp A b o c B w hB hR
  ·exact absurd rfl hk6
 ·cases hnm
end Go.Proofs.YtmnajkhoacogjaaGreatDoor
