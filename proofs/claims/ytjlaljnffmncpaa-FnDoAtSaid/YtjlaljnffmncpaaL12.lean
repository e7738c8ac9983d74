/-
  impl.WithoutBound, impl.NeedlessOk.
-/
import Derived.Test.YtjlaljnffmncpaaL11
import Derived.Test.YtjlaljnffmncpaaL11a
import Derived.Test.YtjlaljnffmncpaaI1
namespace Go.Proofs.Ytjlaljnffmncpaa
set_option linter.unusedVariables false
set_option linter.unusedSimpArgs false
open Go.RowKit Pp

theorem delete_q (base k : Nat) (A : Option Addr) (c : Nat) (bs ds : List Bd) (w : World) (hds : del bs k = ds) (hown : OwnB base w (.slice A bs.length c) bs) (hk : k < bs.length) (hl : bs.length ≤ 2000000) :
    Calls Try.prog 149 #[.slice A bs.length c, .int .i64 k, .int .i64 ((k : Int) + 1)] w fun e w' => e = .returned (.slice A ds.length c) ∧ OwnB base w' (.slice A ds.length c) ds ∧ w.grownBy w' (Value.slice A bs.length c).ownBlock := by
  subst hds
  refine (delete_c base k A c bs w hown hk hl).mono ?_
  rintro e w' ⟨rfl, h2, h3⟩
  exact ⟨by rw [del_length hk], h2, h3⟩

set_option maxHeartbeats 4000000 in
set_option maxRecDepth 100000 in
theorem without_yes (p : Pl) (k : Nat) (ds : List Bd) (hds : del p.bs k = ds) (A : Option Addr) (b o c B : Nat) (w : World) (hp : planOk p = true) (hk : k < p.bs.length) (hB : B ≤ w.heap.size) (hR : BdsR w B b o A p.bs) :
    Calls Try.prog 109 #[.agg #[.int .i64 p.n, .slice A p.bs.length c], .int .i64 k] w fun e w' =>
      ∃ A1 c1 g1, e = .returned (.tuple #[.agg #[.int .i64 p.n, .slice A1 ds.length c1], .bool true]) ∧ BdsR w' w'.heap.size g1 0 A1 ds ∧ OwnB w.heap.size w' (.slice A1 ds.length c1) ds ∧ Below w.heap.size w w' := by
  obtain ⟨n, bs⟩ := p
  dsimp only at *
  have hl16 : bs.length ≤ 16 := (planOk_iff.1 hp).2.1
  have hP := (po_new (t := 25) (n := n) (c := c) (Below.refl w.heap.size w) (hR.more hB)).alloc (.cells #[.int .i64 0, .slice none 0 0] 25)
  have hZ : ZB w ((w.alloc (.cells #[.int .i64 n, .slice A bs.length c] 25)).alloc (.cells #[.int .i64 0, .slice none 0 0] 25)) (w.alloc (.cells #[.int .i64 n, .slice A bs.length c] 25)).heap.size := zb_new (by simp)
  simp only [World.size_alloc] at hZ
  have hin : inB (k : Int) 0 ((bs.length : Int) - 1) = true := inB_iff.2 (by omega)
  have Hin := hide hin
  have Hp := hide hp
  have Hds := hide hds
  clear hin hp hds
  have hkn : (k : Int) < (bs.length : Int) := by omega
  go_enter Try.func109, Try.ntmps109
  go_upto_region 1 with fail
  generalize (w.alloc (.cells #[.int .i64 n, .slice A bs.length c] 25)).alloc (.cells #[.int .i64 0, .slice none 0 0] 25) = W at hP hZ ⊢
  have hXY : w.heap.size < w.heap.size + 1 := by omega
  generalize w.heap.size + 1 = Y at hZ hXY ⊢
  have p0 := hP.c0
  have p1 := hP.c1
  go_upto_region 4 with (first
    | (go_at_call 86; go_fit (planOk_c ⟨n, bs⟩ A b o c _ _ (by dsimp only; omega) (Nat.le_refl _) hP.rd); rintro e w2 ⟨rfl, hb2⟩; rw [Hp.out]; have hP2 := hP.below hb2; have hZ2 := hZ.below hb2; have q0 := hP2.c0; have q1 := hP2.c1; have qx := hP2.ex)
    | (go_at_call 93; go_fit (in_c (k : Int) 0 ((bs.length : Int) - 1) _); rintro e w2' ⟨rfl, rfl⟩; rw [Hin.out])
    | (go_at_call 101; go_fit (clone_q ⟨n, bs⟩ A b o c _ _ (by dsimp only; omega) (Nat.le_refl _) hP2.rd); rintro e w3 ⟨A1, c1, g1, rfl, hr3, hown3, hb3⟩; have hP3 := hP2.below hb3; have hZ3 := hZ2.below hb3))
  try dsimp only at hown3 hr3
  have hb4 : Below w3.heap.size w3 (w3.alloc (.cells #[.int .i64 n, .slice A1 bs.length c1] 25)) := by go_grown
  have hP4 := hP3.below hb4
  have hZ4 := hZ3.below hb4
  have hown4 := own_below hown3 hb4
  have hlt4 : ∀ q, (Value.slice A1 bs.length c1).ownBlock = some q → Y < q ∧ q < w3.heap.size := fun q hq => by
    have := hown3.lt q hq
    have := hZ2.ex
    omega
  have o0 : (w3.alloc (.cells #[.int .i64 n, .slice A1 bs.length c1] 25)).cell? ⟨w3.heap.size, 0, none⟩ = some (.int .i64 n) := by simp [go_sem]
  have o1 : (w3.alloc (.cells #[.int .i64 n, .slice A1 bs.length c1] 25)).cell? ⟨w3.heap.size, 1, none⟩ = some (.slice A1 bs.length c1) := by simp [go_sem]
  have of1 : (w3.alloc (.cells #[.int .i64 n, .slice A1 bs.length c1] 25)).frozen? ⟨w3.heap.size, 1, none⟩ = false := by simp [go_sem]
  have hX4 : w3.heap.size < (w3.alloc (.cells #[.int .i64 n, .slice A1 bs.length c1] 25)).heap.size := by simp
  have hY3 : Y < w3.heap.size := hZ3.ex
  generalize w3.alloc (.cells #[.int .i64 n, .slice A1 bs.length c1] 25) = W4 at hP4 hZ4 hown4 o0 o1 of1 hX4 ⊢
  generalize w3.heap.size = X at hlt4 o0 o1 of1 hX4 hY3 ⊢
  have hlt2 : w.heap.size ≤ w2.heap.size := hP2.bel.size
  clear hP hP2 hP3 hZ hZ2 hZ3 hb2 hb3 hb4 hr3 hown3 p0 p1 q0 q1 qx
  go_upto_region 5 with (go_at_call 149; go_fit (delete_q _ k A1 c1 bs ds _ Hds.out hown4 hk (by omega)); rintro e w5 ⟨rfl, hown5, hG5⟩; have hneX : some X ≠ (Value.slice A1 bs.length c1).ownBlock := (fun e => by have := hlt4 _ e.symm; omega); have t0 := (hG5.cell_far ⟨X, 0, none⟩ hX4 hneX).trans o0; have t1 := (hG5.cell_far ⟨X, 1, none⟩ hX4 hneX).trans o1; have tf1 := (hG5.frozen_far ⟨X, 1, none⟩ hX4 hneX).trans of1)
  have hown4' : (Value.slice A1 bs.length c1).ownBlock = (Value.slice A1 ds.length c1).ownBlock := by cases A1 <;> rfl
  have hb5 : Below w.heap.size w w5 := hP4.bel.grown hG5 hP4.bel.size (fun q hq => by have := hlt4 q hq; have := hP4.lo; omega)
  have hZ5 := hZ4.grown hG5 (fun q hq => by have := hlt4 q hq; omega)
  rw [hown4'] at hlt4
  have hneX' : (Value.slice A1 ds.length c1).ownBlock ≠ some X := fun e => by have := hlt4 _ e; omega
  have u0 : (w5.setCell ⟨X, 1, none⟩ (.slice A1 ds.length c1)).cell? ⟨X, 0, none⟩ = some (.int .i64 n) := (World.cell?_setCell_other (h := by simp) ..).trans t0
  have u1 : (w5.setCell ⟨X, 1, none⟩ (.slice A1 ds.length c1)).cell? ⟨X, 1, none⟩ = some (.slice A1 ds.length c1) := World.cell?_setCell_same _ _ _ t1
  have hZ6 := hZ5.grown (grown_set w5 ⟨X, 1, none⟩ (.slice A1 ds.length c1)) (fun q hq => by cases hq; dsimp only; omega)
  have hb6 := hb5.setCell (p := ⟨X, 1, none⟩) (by dsimp only; omega) (.slice A1 ds.length c1)
  have hown6 := own_set (p := ⟨X, 1, none⟩) hown5 hneX' (.slice A1 ds.length c1)
  generalize w5.setCell ⟨X, 1, none⟩ (.slice A1 ds.length c1) = W6 at u0 u1 hZ6 hb6 hown6 ⊢
  clear t0 t1 tf1 hZ5 hb5 hown5 hG5 hP4 hZ4 o0 o1 of1 hown4
  have z0 := hZ6.z0
  have z1 := hZ6.z1
  have zf0 := hZ6.zf 0
  have zf1 := hZ6.zf 1
  obtain ⟨r0, r1, ho, hb7⟩ := hZ6.fin (n := n) hb6 (own_less hown6 (by have := hlt2; omega)) (fun e => by have := hlt4 _ e; omega)
  go_wp2_with fail
  refine bodyPost_ret (v := .tuple #[.agg #[.int .i64 n, .slice A1 ds.length c1], .bool true]) (by simp [results, Try.results109, go_sem, r0, r1]) rfl ?_
  obtain ⟨g, hr⟩ := OwnB.readsA ho
  exact ⟨_, _, g, rfl, hr, ho, hb7⟩

set_option maxHeartbeats 4000000 in
set_option maxRecDepth 100000 in
theorem without_no (p : Pl) (at_ : Int) (A : Option Addr) (b o c B : Nat) (w : World) (hn : p.bs.length ≤ 2000000) (hno : (planOk p && inB at_ 0 ((p.bs.length : Int) - 1)) = false) (hB : B ≤ w.heap.size) (hR : BdsR w B b o A p.bs) :
    Calls Try.prog 109 #[.agg #[.int .i64 p.n, .slice A p.bs.length c], .int .i64 at_] w fun e w' => e = .returned (.tuple #[.agg #[.int .i64 0, .slice none 0 0], .bool false]) ∧ Below w.heap.size w w' := by
  obtain ⟨n, bs⟩ := p
  dsimp only at *
  have hP := (po_new (t := 25) (n := n) (c := c) (Below.refl w.heap.size w) (hR.more hB)).alloc (.cells #[.int .i64 0, .slice none 0 0] 25)
  have hZ : ZB w ((w.alloc (.cells #[.int .i64 n, .slice A bs.length c] 25)).alloc (.cells #[.int .i64 0, .slice none 0 0] 25)) (w.alloc (.cells #[.int .i64 n, .slice A bs.length c] 25)).heap.size := zb_new (by simp)
  simp only [World.size_alloc] at hZ
  cases hp : planOk ⟨n, bs⟩
  · have Hp := hide hp
    clear hp hno
    go_enter Try.func109, Try.ntmps109
    go_upto_region 1 with fail
    generalize (w.alloc (.cells #[.int .i64 n, .slice A bs.length c] 25)).alloc (.cells #[.int .i64 0, .slice none 0 0] 25) = W at hP hZ ⊢
    generalize w.heap.size + 1 = Y at hZ ⊢
    have p0 := hP.c0
    have p1 := hP.c1
    go_wp2_with (go_at_call 86; go_fit (planOk_c ⟨n, bs⟩ A b o c _ _ hn (Nat.le_refl _) hP.rd); rintro e w2 ⟨rfl, hb2⟩; rw [Hp.out]; have hP2 := hP.below hb2; have hZ2 := hZ.below hb2; have z0 := hZ2.z0; have z1 := hZ2.z1; have zf0 := hZ2.zf 0; have zf1 := hZ2.zf 1)
    obtain ⟨r0, r1⟩ := two_cells (a := .int .i64 0) (b := .slice none 0 0) z0 z1
    refine bodyPost_ret (v := .tuple #[.agg #[.int .i64 0, .slice none 0 0], .bool false]) (by simp [results, Try.results109, go_sem, r0, r1]) rfl ?_
    exact ⟨rfl, (hP2.bel.setCell hZ2.lo _).setCell hZ2.lo _⟩
  · rw [hp, Bool.true_and] at hno
    have Hp := hide hp
    have Hin := hide hno
    clear hp hno
    go_enter Try.func109, Try.ntmps109
    go_upto_region 1 with fail
    generalize (w.alloc (.cells #[.int .i64 n, .slice A bs.length c] 25)).alloc (.cells #[.int .i64 0, .slice none 0 0] 25) = W at hP hZ ⊢
    generalize w.heap.size + 1 = Y at hZ ⊢
    have p0 := hP.c0
    have p1 := hP.c1
    go_wp2_with (first
      | (go_at_call 86; go_fit (planOk_c ⟨n, bs⟩ A b o c _ _ hn (Nat.le_refl _) hP.rd); rintro e w2 ⟨rfl, hb2⟩; rw [Hp.out]; have hP2 := hP.below hb2; have hZ2 := hZ.below hb2; have z0 := hZ2.z0; have z1 := hZ2.z1; have zf0 := hZ2.zf 0; have zf1 := hZ2.zf 1; have q0 := hP2.c0; have q1 := hP2.c1)
      | (go_at_call 93; go_fit (in_c at_ 0 ((bs.length : Int) - 1) _); rintro e w2' ⟨rfl, rfl⟩; rw [Hin.out]))
    obtain ⟨r0, r1⟩ := two_cells (a := .int .i64 0) (b := .slice none 0 0) z0 z1
    refine bodyPost_ret (v := .tuple #[.agg #[.int .i64 0, .slice none 0 0], .bool false]) (by simp [results, Try.results109, go_sem, r0, r1]) rfl ?_
    exact ⟨rfl, (hP2.bel.setCell hZ2.lo _).setCell hZ2.lo _⟩

theorem needlessI_no {p : Pl} {at_ : Int} (h : (planOk p && inB at_ 0 ((p.bs.length : Int) - 1)) = false) : needlessI p at_ = false := by
  cases hn : needlessI p at_
  · rfl
  · unfold needlessI needless alike at hn
    simp only [Bool.and_eq_true, decide_eq_true_eq] at hn
    rw [(implies_ok hn.2.2.1).1, Bool.true_and] at h
    have : inB at_ 0 ((p.bs.length : Int) - 1) = true := inB_iff.2 (by omega)
    rw [this] at h
    cases h

set_option maxHeartbeats 4000000 in
set_option maxRecDepth 100000 in
theorem needlessOk_c (p : Pl) (at_ : Int) (A : Option Addr) (b o c B : Nat) (w : World) (hn : p.bs.length ≤ 2000000) (hB : B ≤ w.heap.size) (hR : BdsR w B b o A p.bs) :
    Calls Try.prog 44 #[.agg #[.int .i64 p.n, .slice A p.bs.length c], .int .i64 at_] w fun e w' => e = .returned (.bool (needlessI p at_)) ∧ Below w.heap.size w w' := by
  obtain ⟨r, hr⟩ : ∃ r, needlessI p at_ = r := ⟨_, rfl⟩
  rw [hr]
  cases hno : (planOk p && inB at_ 0 ((p.bs.length : Int) - 1))
  · have : r = false := by rw [← hr]; exact needlessI_no hno
    subst this
    obtain ⟨n, bs⟩ := p
    dsimp only at *
    have Hno := hide hno
    have hP := po_new (t := 25) (n := n) (c := c) (Below.refl w.heap.size w) (hR.more hB)
    clear hno hr
    go_enter Try.func44, Try.ntmps44
    go_upto_region 1 with fail
    generalize w.alloc (.cells #[.int .i64 n, .slice A bs.length c] 25) = W at hP ⊢
    have p0 := hP.c0
    have p1 := hP.c1
    go_wp2_with (go_at_call 109; go_fit (without_no ⟨n, bs⟩ at_ A b o c _ _ hn Hno.out (Nat.le_refl _) hP.rd); rintro e w2 ⟨rfl, hb2⟩; have hP2 := (hP.below hb2).alloc (.cells #[.int .i64 0, .slice none 0 0] 25))
    go_ret
    exact ⟨rfl, hP2.bel⟩
  · simp only [Bool.and_eq_true] at hno
    obtain ⟨hp, hin⟩ := hno
    rw [inB_iff] at hin
    obtain ⟨hin0, hin1⟩ := hin
    obtain ⟨k, rfl⟩ := Int.eq_ofNat_of_zero_le hin0
    have hk : k < p.bs.length := by omega
    have hl16 : p.bs.length ≤ 16 := (planOk_iff.1 hp).2.1
    obtain ⟨n, bs⟩ := p
    dsimp only at *
    obtain ⟨ds, hds⟩ : ∃ ds, del bs k = ds := ⟨_, rfl⟩
    have hal : alike ⟨n, bs⟩ ⟨n, ds⟩ = r := by
      rw [← hr, ← hds]; unfold needlessI needless
      rw [decide_eq_true hin0, decide_eq_true (by dsimp only; omega)]
      rfl
    have hdl : ds.length ≤ 16 := by rw [← hds]; exact Nat.le_trans (del_le bs k) hl16
    have Hal := hide hal
    have Hds := hide hds
    have hP := po_new (t := 25) (n := n) (c := c) (Below.refl w.heap.size w) (hR.more hB)
    clear hr hal hds
    go_enter Try.func44, Try.ntmps44
    go_upto_region 1 with fail
    generalize w.alloc (.cells #[.int .i64 n, .slice A bs.length c] 25) = W at hP ⊢
    have p0 := hP.c0
    have p1 := hP.c1
    go_upto_region 2 with (go_at_call 109; go_fit (without_yes ⟨n, bs⟩ k ds Hds.out A b o c _ _ hp hk (Nat.le_refl _) hP.rd); rintro e w2 ⟨A1, c1, g1, rfl, hx1, hown1, hb2⟩; have hP2 := (hP.below hb2).alloc (.cells #[.int .i64 n, .slice A1 ds.length c1] 25))
    have hQ := po_new (t := 25) (n := n) (c := c1) (hP.below hb2).bel hx1
    generalize w2.alloc (.cells #[.int .i64 n, .slice A1 ds.length c1] 25) = W2 at hP2 hQ ⊢
    clear hP hx1 hown1 hb2 p0 p1
    have p0 := hP2.c0
    have p1 := hP2.c1
    have q0 := hQ.c0
    have q1 := hQ.c1
    go_wp2_with (go_at_call 21; go_fit (alikeOk_c ⟨n, bs⟩ ⟨n, ds⟩ A A1 b o c g1 0 c1 _ _ (by dsimp only; omega) (by dsimp only; omega) (Nat.le_refl _) hP2.rd hQ.rd); rintro e w3 ⟨rfl, hb3⟩; rw [Hal.out]; have hP3 := hP2.below hb3)
    go_ret
    exact ⟨by cases r <;> rfl, hP3.bel⟩
end Go.Proofs.Ytjlaljnffmncpaa
