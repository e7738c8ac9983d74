/-
 slices.Delete of one bound, out of a row of the call's own.
 impl.WithoutBound, impl.NeedlessOk.
 impl.TrimmedOf.
-/
import Derived.Test.YtmnajkhoacogjaaGreatDoorL11a
import Derived.Test.YtmnajkhoacogjaaGreatDoorP2
import Derived.Test.YtmnajkhoacogjaaGreatDoorI1
namespace Go.Proofs.YtmnajkhoacogjaaGreatDoor
set_option linter.unusedVariables false
set_option linter.unusedSimpArgs false
open Go.RowKit Pp

theorem zeroB (w : World) : (zeroValue 97).run Tryz.prog w = .ok (.agg #[.int .i64 0, .int .i64 0, .int .i64 0]) w := by kernel_rfl

theorem clear_one (w : World) (ty : TypeId) (g o c : Nat) (hc : ∀ j, j < 3 → (w.cell? ⟨g, o + j, none⟩).isSome = true) (hf : ∀ j, j < 3 → w.frozen? ⟨g, o + j, none⟩ = false) :
  (Builtin.clear_ #[32] ty #[.slice (some ⟨g, o, none⟩) 1 c]).run Tryz.prog w = .ok (.tuple #[]) (w.setCells g o [.int .i64 0, .int .i64 0, .int .i64 0]) := by
 have hst := run_storeCells_cells (P := Tryz.prog) g o [.int .i64 0, .int .i64 0, .int .i64 0] 0 w (by simpa using hc) (by simpa using hf) (by simp [Value.oneCell'])
 simp only [Nat.add_zero] at hst
 have hz : (Builtin.zeroCells (Value.agg #[.int .i64 0, .int .i64 0, .int .i64 0]).cells 1).toList = [.int .i64 0, .int .i64 0, .int .i64 0] := by simp [Builtin.zeroCells, Value.cells, Array.range, Array.ofFn]; rfl
 simp [Builtin.clear_, run_underlying Tryz.underlying32, zeroB, hz, hst]

set_option maxHeartbeats 2000000 in
set_option maxRecDepth 100000 in
theorem delete_c (base k : Nat) (A : Option Addr) (c : Nat) (bs : List Bd) (w : World) (hown : OwnB base w (.slice A bs.length c) bs) (hk : k < bs.length) (hl : bs.length ≤ 2000000) :
  Calls Tryz.prog 103 #[.slice A bs.length c, .int .i64 k, .int .i64 ((k : Int) + 1)] w fun e w' => e = .returned (.slice A (bs.length - 1) c) ∧ OwnB base w' (.slice A (del bs k).length c) (del bs k) ∧ w.grownBy w' (Value.slice A bs.length c).ownBlock := by
 obtain ⟨i0, hi0, hz0, hz1, hz2⟩ := info_parts infoB
 obtain ⟨A1, g, c1, hv, h1, h2, h3⟩ := own_form hown
 injection hv with e1 _ e3
 subst e1; subst e3
 obtain rfl := h1 (by omega)
 obtain ⟨f, hf, hx, hb, hnc, hcm⟩ := own_row hown
 clear h1 h2 h3
 obtain ⟨n, hn⟩ : ∃ n, bs.length = n := ⟨_, rfl⟩
 have hdl := del_length hk
 have hde := del_eq bs k
 unfold maxLen at hcm
 have hlt1 : (bdCs (bs.take k)).length = k * 3 := by rw [bdCs_length]; simp; omega
 obtain ⟨news, hnews⟩ : ∃ news, news = bdCs (bs.drop (k + 1)) := ⟨_, rfl⟩
 have hlen : news.length = (n - (k + 1)) * 3 := by rw [hnews, bdCs_length]; simp; omega
 have hsplit : bdCs bs = bdCs (bs.take (k + 1)) ++ news := by rw [hnews, ← bdCs_append, List.take_append_drop]
 have hlt2 : (bdCs (bs.take (k + 1))).length = (k + 1) * 3 := by rw [bdCs_length]; simp; omega
 have hget : ∀ t, t < (n - (k + 1)) * 3 → news[t]? = some (f ((k + 1) * 3 + t)) := fun t ht => by
  rw [← hx _ (by omega), hsplit, List.getElem?_append_right (by omega), hlt2]
  congr 1; omega
 have hnewsD : Hid (bdCs (del bs k) = bdCs (bs.take k) ++ news) := by unfold Hid; rw [hde, bdCs_append, hnews]
 have htake : ∀ j, j < k * 3 → (bdCs (bs.take k))[j]? = some (f j) := fun j hj => by
  rw [← hx j (by omega)]
  have : bdCs bs = bdCs (bs.take k) ++ bdCs (bs.drop k) := by rw [← bdCs_append, List.take_append_drop]
  rw [this, List.getElem?_append_left (by omega)]
 rw [hn] at hx hnc hk hl hdl ⊢
 obtain ⟨A, hA, hsrc⟩ : ∃ A : Addr, (if c = k + 1 then some (⟨g, 0, none⟩ : Addr) else some ⟨g, (k + 1) * 3, none⟩) = some A ∧ Hid (∀ t u, news[t]? = some u → w.drew.cell? (A.add t) = some u) := by
  by_cases h : c = k + 1
  ·refine ⟨⟨g, 0, none⟩, by simp [h], fun t u hu => ?_⟩
   have h0 : news.length = 0 := by rw [hlen]; omega
   rw [List.length_eq_zero_iff.1 h0] at hu
   simp at hu
  ·refine ⟨⟨g, (k + 1) * 3, none⟩, by simp [h], fun t u hu => ?_⟩
   have ht : t < (n - (k + 1)) * 3 := by
    have := (List.getElem?_eq_some_iff.1 hu).1
    rwa [hlen] at this
   rw [hget t ht] at hu
   rw [add_zero_off]
   exact (hf.cell (by omega)).trans hu
 have s1 : Hid (news.length = (n - (k + 1)) * 3) := hlen
 have s2 : Hid (∀ u ∈ news, u.oneCell' = true) := by unfold Hid; rw [hnews]; exact bdCs_one _
 have s3 : Hid (∀ t, t < news.length → (w.drew.cell? ⟨g, 0 + k * 3 + t, none⟩).isSome = true ∧ w.drew.frozen? ⟨g, 0 + k * 3 + t, none⟩ = false) := by
  intro t ht
  rw [hlen] at ht
  exact ⟨by show (w.cell? _).isSome = true; rw [hf.cell (by omega)]; rfl, hf.frozen _⟩
 obtain ⟨W1, hW1⟩ : ∃ W1, W1 = w.drew.setCells g (0 + k * 3) news := ⟨_, rfl⟩
 have hr1 : W1.rowIs g 97 (c * 3) (fun j => if k * 3 ≤ j ∧ j < k * 3 + news.length then news[j - k * 3]?.getD default else f j) := by
  rw [hW1, Nat.zero_add]; exact rowIs_setCells news (k * 3) w.drew f hf.drew
 have hg1 : w.grownBy W1 (some g) := by rw [hW1]; exact grown_cells _ _ _ ⟨rfl, rfl, rfl, Nat.le_refl _, fun _ _ _ => rfl⟩
 have hcl : ∀ ty, (Builtin.clear_ #[32] ty #[.slice (some ⟨g, (n - 1) * 3, none⟩) (n - (n - 1)) (c - (n - 1))]).run Tryz.prog W1 = .ok (.tuple #[]) (W1.setCells g ((n - 1) * 3) [.int .i64 0, .int .i64 0, .int .i64 0]) :=
  fun ty => by rw [show n - (n - 1) = 1 by omega]; exact clear_one W1 ty g _ _ (fun j hj => by rw [hr1.cell (by omega)]; rfl) (fun j _ => hr1.frozen _)
 have hr2 := rowIs_setCells [.int .i64 0, .int .i64 0, .int .i64 0] ((n - 1) * 3) W1 _ hr1
 have hg2 : w.grownBy (W1.setCells g ((n - 1) * 3) [.int .i64 0, .int .i64 0, .int .i64 0]) (some g) := grown_cells _ _ _ hg1
 have hfin : Hid (OwnB base (W1.setCells g ((n - 1) * 3) [.int .i64 0, .int .i64 0, .int .i64 0]) (.slice (some ⟨g, 0, none⟩) (del bs k).length c) (del bs k)) := by
  refine row_own hr2 (fun j hj => ?_) (by rw [bdCs_length]) hb (by omega) (by unfold maxLen; omega)
  rw [hdl] at hj
  rw [hnewsD.out, if_neg (by simp; omega)]
  by_cases hj1 : j < k * 3
  ·rw [if_neg (by omega), List.getElem?_append_left (by omega), htake j hj1]
  ·rw [if_pos (by omega), List.getElem?_append_right (by omega), hlt1, List.getElem?_eq_getElem (by omega)]; rfl
 have hW : Hid (W1 = w.drew.setCells g (0 + k * 3) news) := hW1
 have hG := hide hg2
 have hic : k ≤ c := by omega
 have hjc : k + 1 ≤ c := by omega
 have hne : ¬ (k : Int) = (k : Int) + 1 := by omega
 have i1 : (0 : Int) ≤ (k : Int) + 1 := by omega
 have i2 : (k : Int) + 1 ≤ (n : Int) := by omega
 have hn' : Hid (bs.length = n) := hn
 clear hn hW1 hr1 hr2 hg1 hg2 hget hnews hlen hsplit hlt1 hlt2 htake hx hf hown hnewsD hde hdl
 go_enter Tryz.func103, Tryz.ntmps103
 go_wp2_with fail
 go_region_law (refine step_append_room rfl (.tmp 22) (.tmp 25) 32 rfl 97 i0 3 Tryz.underlying32 hi0 hz1 g 0 k c (by simp [Act.eval, Act.put]) A (n - (k + 1)) (c - (k + 1)) news (by simp [Act.eval, Act.put]) s1.out hsrc.out s2.out (by omega) s3.out ?_; rw [← hW.out])
 have hcl2 : ((k + (n - (k + 1)) : Nat) : Int) = (n : Int) - 1 := by omega
 go_wp2
 go_ret
 exact ⟨by rw [show k + (n - (k + 1)) = n - 1 by omega]; rfl, hfin.out, hG.out⟩

theorem delete_q (base k : Nat) (A : Option Addr) (c : Nat) (bs ds : List Bd) (w : World) (hds : del bs k = ds) (hown : OwnB base w (.slice A bs.length c) bs) (hk : k < bs.length) (hl : bs.length ≤ 2000000) :
  Calls Tryz.prog 103 #[.slice A bs.length c, .int .i64 k, .int .i64 ((k : Int) + 1)] w fun e w' => e = .returned (.slice A ds.length c) ∧ OwnB base w' (.slice A ds.length c) ds ∧ w.grownBy w' (Value.slice A bs.length c).ownBlock := by
 subst hds
 refine (delete_c base k A c bs w hown hk hl).mono ?_
 rintro e w' ⟨rfl, h2, h3⟩
 exact ⟨by rw [del_length hk], h2, h3⟩

set_option maxHeartbeats 4000000 in
set_option maxRecDepth 100000 in
theorem without_yes (p : Pl) (k : Nat) (ds : List Bd) (hds : del p.bs k = ds) (A : Option Addr) (b o c B : Nat) (w : World) (hp : planOk p = true) (hk : k < p.bs.length) (hB : B ≤ w.heap.size) (hR : BdsR w B b o A p.bs) :
  Calls Tryz.prog 77 #[.agg #[.int .i64 p.n, .slice A p.bs.length c], .int .i64 k] w fun e w' =>
   ∃ A1 c1 g1, e = .returned (.tuple #[.agg #[.int .i64 p.n, .slice A1 ds.length c1], .bool true]) ∧ BdsR w' w'.heap.size g1 0 A1 ds ∧ OwnB w.heap.size w' (.slice A1 ds.length c1) ds ∧ Below w.heap.size w w' := by
 obtain ⟨n, bs⟩ := p
 dsimp only at *
 have hl16 : bs.length ≤ 16 := (planOk_iff.1 hp).2.1
 have hP := (po_new (t := 34) (n := n) (c := c) (Below.refl w.heap.size w) (hR.more hB)).alloc (.cells #[.int .i64 0, .slice none 0 0] 34)
 have hZ : ZB w ((w.alloc (.cells #[.int .i64 n, .slice A bs.length c] 34)).alloc (.cells #[.int .i64 0, .slice none 0 0] 34)) (w.alloc (.cells #[.int .i64 n, .slice A bs.length c] 34)).heap.size := zb_new (by simp)
 simp only [World.size_alloc] at hZ
 have hin : inB (k : Int) 0 ((bs.length : Int) - 1) = true := inB_iff.2 (by omega)
 have Hin := hide hin
 have Hp := hide hp
 have Hds := hide hds
 clear hin hp hds
 have hkn : (k : Int) < (bs.length : Int) := by omega
 go_enter Tryz.func77, Tryz.ntmps77
 go_upto_region 1 with fail
 generalize (w.alloc (.cells #[.int .i64 n, .slice A bs.length c] 34)).alloc (.cells #[.int .i64 0, .slice none 0 0] 34) = W at hP hZ ⊢
 have hXY : w.heap.size < w.heap.size + 1 := by omega
 generalize w.heap.size + 1 = Y at hZ hXY ⊢
 have p0 := hP.c0
 have p1 := hP.c1
 go_upto_region 4 with (first
  | (go_at_call 58; go_fit (planOk_c ⟨n, bs⟩ A b o c _ _ (by dsimp only; omega) (Nat.le_refl _) hP.rd); rintro e w2 ⟨rfl, hb2⟩; rw [Hp.out]; have hP2 := hP.below hb2; have hZ2 := hZ.below hb2; have q0 := hP2.c0; have q1 := hP2.c1; have qx := hP2.ex)
  | (go_at_call 89; go_fit (in_c (k : Int) 0 ((bs.length : Int) - 1) _); rintro e w2' ⟨rfl, rfl⟩; rw [Hin.out])
  | (go_at_call 74; go_fit (clone_q ⟨n, bs⟩ A b o c _ _ (by dsimp only; omega) (Nat.le_refl _) hP2.rd); rintro e w3 ⟨A1, c1, g1, rfl, hr3, hown3, hb3⟩; have hP3 := hP2.below hb3; have hZ3 := hZ2.below hb3))
 try dsimp only at hown3 hr3
 have hb4 : Below w3.heap.size w3 (w3.alloc (.cells #[.int .i64 n, .slice A1 bs.length c1] 34)) := by go_grown
 have hP4 := hP3.below hb4
 have hZ4 := hZ3.below hb4
 have hown4 := own_below hown3 hb4
 have hlt4 : ∀ q, (Value.slice A1 bs.length c1).ownBlock = some q → Y < q ∧ q < w3.heap.size := fun q hq => by
  have := hown3.lt q hq
  have := hZ2.ex
  omega
 have o0 : (w3.alloc (.cells #[.int .i64 n, .slice A1 bs.length c1] 34)).cell? ⟨w3.heap.size, 0, none⟩ = some (.int .i64 n) := by simp [go_sem]
 have o1 : (w3.alloc (.cells #[.int .i64 n, .slice A1 bs.length c1] 34)).cell? ⟨w3.heap.size, 1, none⟩ = some (.slice A1 bs.length c1) := by simp [go_sem]
 have of1 : (w3.alloc (.cells #[.int .i64 n, .slice A1 bs.length c1] 34)).frozen? ⟨w3.heap.size, 1, none⟩ = false := by simp [go_sem]
 have hX4 : w3.heap.size < (w3.alloc (.cells #[.int .i64 n, .slice A1 bs.length c1] 34)).heap.size := by simp
 have hY3 : Y < w3.heap.size := hZ3.ex
 generalize w3.alloc (.cells #[.int .i64 n, .slice A1 bs.length c1] 34) = W4 at hP4 hZ4 hown4 o0 o1 of1 hX4 ⊢
 generalize w3.heap.size = X at hlt4 o0 o1 of1 hX4 hY3 ⊢
 have hlt2 : w.heap.size ≤ w2.heap.size := hP2.bel.size
 clear hP hP2 hP3 hZ hZ2 hZ3 hb2 hb3 hb4 hr3 hown3 p0 p1 q0 q1 qx
 go_upto_region 5 with (go_at_call 103; go_fit (delete_q _ k A1 c1 bs ds _ Hds.out hown4 hk (by omega)); rintro e w5 ⟨rfl, hown5, hG5⟩; have hneX : some X ≠ (Value.slice A1 bs.length c1).ownBlock := (fun e => by have := hlt4 _ e.symm; omega); have t0 := (hG5.cell_far ⟨X, 0, none⟩ hX4 hneX).trans o0; have t1 := (hG5.cell_far ⟨X, 1, none⟩ hX4 hneX).trans o1; have tf1 := (hG5.frozen_far ⟨X, 1, none⟩ hX4 hneX).trans of1)
 have hown4' : (Value.slice A1 bs.length c1).ownBlock = (Value.slice A1 ds.length c1).ownBlock := by cases A1 <;> rfl
 have hb5 : Below w.heap.size w w5 := hP4.bel.grown hG5 hP4.bel.size (fun q hq => by have := hlt4 q hq; have := hP4.lo; omega)
 have hZ5 := hZ4.grown hG5 (fun q hq => by have := hlt4 q hq; omega)
 rw [hown4'] at hlt4
 have hneX' : (Value.slice A1 ds.length c1).ownBlock ≠ some X := fun e => by have := hlt4 _ e; omega
 have u0 : (w5.setCell ⟨X, 1, none⟩ (.slice A1 ds.length c1)).cell? ⟨X, 0, none⟩ = some (.int .i64 n) := (World.cell?_setCell_other (h := by simp) ..).trans t0
 have u1 : (w5.setCell ⟨X, 1, none⟩ (.slice A1 ds.length c1)).cell? ⟨X, 1, none⟩ = some (.slice A1 ds.length c1) := World.cell?_setCell_same _ _ _ t1
 have hZ6 := hZ5.grown (grown_set w5 ⟨X, 1, none⟩ (.slice A1 ds.length c1)) (fun q hq => by cases hq; dsimp only; omega)
 have hb6 := hb5.setCell (p := ⟨X, 1, none⟩) (by dsimp only; omega) (.slice A1 ds.length c1)
 have hown6 := own_set (p := ⟨X, 1, none⟩) hown5 hneX' (.slice A1 ds.length c1)
 generalize w5.setCell ⟨X, 1, none⟩ (.slice A1 ds.length c1) = W6 at u0 u1 hZ6 hb6 hown6 ⊢
 clear t0 t1 tf1 hZ5 hb5 hown5 hG5 hP4 hZ4 o0 o1 of1 hown4
 have z0 := hZ6.z0
 have z1 := hZ6.z1
 have zf0 := hZ6.zf 0
 have zf1 := hZ6.zf 1
 obtain ⟨r0, r1, ho, hb7⟩ := hZ6.fin (n := n) hb6 (own_less hown6 (by have := hlt2; omega)) (fun e => by have := hlt4 _ e; omega)
 go_wp2_with fail
 refine bodyPost_ret (v := .tuple #[.agg #[.int .i64 n, .slice A1 ds.length c1], .bool true]) (by simp [results, Tryz.results77, go_sem, r0, r1]) rfl ?_
 obtain ⟨g, hr⟩ := OwnB.readsA ho
 exact ⟨_, _, g, rfl, hr, ho, hb7⟩

set_option maxHeartbeats 4000000 in
set_option maxRecDepth 100000 in
theorem without_no (p : Pl) (at_ : Int) (A : Option Addr) (b o c B : Nat) (w : World) (hn : p.bs.length ≤ 2000000) (hno : (planOk p && inB at_ 0 ((p.bs.length : Int) - 1)) = false) (hB : B ≤ w.heap.size) (hR : BdsR w B b o A p.bs) :
  Calls Tryz.prog 77 #[.agg #[.int .i64 p.n, .slice A p.bs.length c], .int .i64 at_] w fun e w' => e = .returned (.tuple #[.agg #[.int .i64 0, .slice none 0 0], .bool false]) ∧ Below w.heap.size w w' := by
 obtain ⟨n, bs⟩ := p
 dsimp only at *
 have hP := (po_new (t := 34) (n := n) (c := c) (Below.refl w.heap.size w) (hR.more hB)).alloc (.cells #[.int .i64 0, .slice none 0 0] 34)
 have hZ : ZB w ((w.alloc (.cells #[.int .i64 n, .slice A bs.length c] 34)).alloc (.cells #[.int .i64 0, .slice none 0 0] 34)) (w.alloc (.cells #[.int .i64 n, .slice A bs.length c] 34)).heap.size := zb_new (by simp)
 simp only [World.size_alloc] at hZ
 cases hp : planOk ⟨n, bs⟩
 ·have Hp := hide hp
  clear hp hno
  go_enter Tryz.func77, Tryz.ntmps77
  go_upto_region 1 with fail
  generalize (w.alloc (.cells #[.int .i64 n, .slice A bs.length c] 34)).alloc (.cells #[.int .i64 0, .slice none 0 0] 34) = W at hP hZ ⊢
  generalize w.heap.size + 1 = Y at hZ ⊢
  have p0 := hP.c0
  have p1 := hP.c1
  go_wp2_with (go_at_call 58; go_fit (planOk_c ⟨n, bs⟩ A b o c _ _ hn (Nat.le_refl _) hP.rd); rintro e w2 ⟨rfl, hb2⟩; rw [Hp.out]; have hP2 := hP.below hb2; have hZ2 := hZ.below hb2; have z0 := hZ2.z0; have z1 := hZ2.z1; have zf0 := hZ2.zf 0; have zf1 := hZ2.zf 1)
  obtain ⟨r0, r1⟩ := two_cells (a := .int .i64 0) (b := .slice none 0 0) z0 z1
  refine bodyPost_ret (v := .tuple #[.agg #[.int .i64 0, .slice none 0 0], .bool false]) (by simp [results, Tryz.results77, go_sem, r0, r1]) rfl ?_
  exact ⟨rfl, (hP2.bel.setCell hZ2.lo _).setCell hZ2.lo _⟩
 ·rw [hp, Bool.true_and] at hno
  have Hp := hide hp
  have Hin := hide hno
  clear hp hno
  go_enter Tryz.func77, Tryz.ntmps77
  go_upto_region 1 with fail
  generalize (w.alloc (.cells #[.int .i64 n, .slice A bs.length c] 34)).alloc (.cells #[.int .i64 0, .slice none 0 0] 34) = W at hP hZ ⊢
  generalize w.heap.size + 1 = Y at hZ ⊢
  have p0 := hP.c0
  have p1 := hP.c1
  go_wp2_with (first
   | (go_at_call 58; go_fit (planOk_c ⟨n, bs⟩ A b o c _ _ hn (Nat.le_refl _) hP.rd); rintro e w2 ⟨rfl, hb2⟩; rw [Hp.out]; have hP2 := hP.below hb2; have hZ2 := hZ.below hb2; have z0 := hZ2.z0; have z1 := hZ2.z1; have zf0 := hZ2.zf 0; have zf1 := hZ2.zf 1; have q0 := hP2.c0; have q1 := hP2.c1)
   | (go_at_call 89; go_fit (in_c at_ 0 ((bs.length : Int) - 1) _); rintro e w2' ⟨rfl, rfl⟩; rw [Hin.out]))
  obtain ⟨r0, r1⟩ := two_cells (a := .int .i64 0) (b := .slice none 0 0) z0 z1
  refine bodyPost_ret (v := .tuple #[.agg #[.int .i64 0, .slice none 0 0], .bool false]) (by simp [results, Tryz.results77, go_sem, r0, r1]) rfl ?_
  exact ⟨rfl, (hP2.bel.setCell hZ2.lo _).setCell hZ2.lo _⟩

theorem needlessI_no {p : Pl} {at_ : Int} (h : (planOk p && inB at_ 0 ((p.bs.length : Int) - 1)) = false) : needlessI p at_ = false := by
 cases hn : needlessI p at_
 ·rfl
 ·unfold needlessI needless alike at hn
  simp only [Bool.and_eq_true, decide_eq_true_eq] at hn
  rw [(implies_ok hn.2.2.1).1, Bool.true_and] at h
  have : inB at_ 0 ((p.bs.length : Int) - 1) = true := inB_iff.2 (by omega)
  rw [this] at h
  cases h

set_option maxHeartbeats 4000000 in
set_option maxRecDepth 100000 in
theorem needlessOk_c (p : Pl) (at_ : Int) (A : Option Addr) (b o c B : Nat) (w : World) (hn : p.bs.length ≤ 2000000) (hB : B ≤ w.heap.size) (hR : BdsR w B b o A p.bs) :
  Calls Tryz.prog 104 #[.agg #[.int .i64 p.n, .slice A p.bs.length c], .int .i64 at_] w fun e w' => e = .returned (.bool (needlessI p at_)) ∧ Below w.heap.size w w' := by
 obtain ⟨r, hr⟩ : ∃ r, needlessI p at_ = r := ⟨_, rfl⟩
 rw [hr]
 cases hno : (planOk p && inB at_ 0 ((p.bs.length : Int) - 1))
 ·have : r = false := by rw [← hr]; exact needlessI_no hno
  subst this
  obtain ⟨n, bs⟩ := p
  dsimp only at *
  have Hno := hide hno
  have hP := po_new (t := 34) (n := n) (c := c) (Below.refl w.heap.size w) (hR.more hB)
  clear hno hr
  go_enter Tryz.func104, Tryz.ntmps104
  go_upto_region 1 with fail
  generalize w.alloc (.cells #[.int .i64 n, .slice A bs.length c] 34) = W at hP ⊢
  have p0 := hP.c0
  have p1 := hP.c1
  go_wp2_with (go_at_call 77; go_fit (without_no ⟨n, bs⟩ at_ A b o c _ _ hn Hno.out (Nat.le_refl _) hP.rd); rintro e w2 ⟨rfl, hb2⟩; have hP2 := (hP.below hb2).alloc (.cells #[.int .i64 0, .slice none 0 0] 34))
  go_ret
  exact ⟨rfl, hP2.bel⟩
 ·simp only [Bool.and_eq_true] at hno
  obtain ⟨hp, hin⟩ := hno
  rw [inB_iff] at hin
  obtain ⟨hin0, hin1⟩ := hin
  obtain ⟨k, rfl⟩ := Int.eq_ofNat_of_zero_le hin0
  have hk : k < p.bs.length := by omega
  have hl16 : p.bs.length ≤ 16 := (planOk_iff.1 hp).2.1
  obtain ⟨n, bs⟩ := p
  dsimp only at *
  obtain ⟨ds, hds⟩ : ∃ ds, del bs k = ds := ⟨_, rfl⟩
  have hal : alike ⟨n, bs⟩ ⟨n, ds⟩ = r := by
   rw [← hr, ← hds]; unfold needlessI needless
   rw [decide_eq_true hin0, decide_eq_true (by dsimp only; omega)]
   rfl
  have hdl : ds.length ≤ 16 := by rw [← hds]; exact Nat.le_trans (del_le bs k) hl16
  have Hal := hide hal
  have Hds := hide hds
  have hP := po_new (t := 34) (n := n) (c := c) (Below.refl w.heap.size w) (hR.more hB)
  clear hr hal hds
  go_enter Tryz.func104, Tryz.ntmps104
  go_upto_region 1 with fail
  generalize w.alloc (.cells #[.int .i64 n, .slice A bs.length c] 34) = W at hP ⊢
  have p0 := hP.c0
  have p1 := hP.c1
  go_upto_region 2 with (go_at_call 77; go_fit (without_yes ⟨n, bs⟩ k ds Hds.out A b o c _ _ hp hk (Nat.le_refl _) hP.rd); rintro e w2 ⟨A1, c1, g1, rfl, hx1, hown1, hb2⟩; have hP2 := (hP.below hb2).alloc (.cells #[.int .i64 n, .slice A1 ds.length c1] 34))
  have hQ := po_new (t := 34) (n := n) (c := c1) (hP.below hb2).bel hx1
  generalize w2.alloc (.cells #[.int .i64 n, .slice A1 ds.length c1] 34) = W2 at hP2 hQ ⊢
  clear hP hx1 hown1 hb2 p0 p1
  have p0 := hP2.c0
  have p1 := hP2.c1
  have q0 := hQ.c0
  have q1 := hQ.c1
  go_wp2_with (go_at_call 29; go_fit (alikeOk_c ⟨n, bs⟩ ⟨n, ds⟩ A A1 b o c g1 0 c1 _ _ (by dsimp only; omega) (by dsimp only; omega) (Nat.le_refl _) hP2.rd hQ.rd); rintro e w3 ⟨rfl, hb3⟩; rw [Hal.out]; have hP3 := hP2.below hb3)
  go_ret
  exact ⟨by cases r <;> rfl, hP3.bel⟩

set_option maxHeartbeats 4000000 in
set_option maxRecDepth 100000 in
theorem trimmed_c (p q : Pl) (hq : trim p = q) (A : Option Addr) (b o c B : Nat) (w : World) (hn : p.bs.length ≤ 2000000) (hB : B ≤ w.heap.size) (hR : BdsR w B b o A p.bs) :
  Calls Tryz.prog 78 #[.agg #[.int .i64 p.n, .slice A p.bs.length c]] w fun e w' =>
   ∃ A1 c1 g1, e = .returned (.agg #[.int .i64 q.n, .slice A1 q.bs.length c1]) ∧ BdsR w' w'.heap.size g1 0 A1 q.bs ∧ OwnB w.heap.size w' (.slice A1 q.bs.length c1) q.bs ∧ Below w.heap.size w w' := by
 obtain ⟨n, bs⟩ := p
 dsimp only at *
 have hP := (po_new (t := 34) (n := n) (c := c) (Below.refl w.heap.size w) (hR.more hB)).alloc (.cells #[.int .i64 0, .slice none 0 0] 34)
 have hZ : ZB w ((w.alloc (.cells #[.int .i64 n, .slice A bs.length c] 34)).alloc (.cells #[.int .i64 0, .slice none 0 0] 34)) (w.alloc (.cells #[.int .i64 n, .slice A bs.length c] 34)).heap.size := zb_new (by simp)
 simp only [World.size_alloc] at hZ
 cases hp : planOk ⟨n, bs⟩
 ·have hq2 : q = ⟨0, []⟩ := by rw [← hq]; exact trim_no hp
  subst hq2
  have Hp := hide hp
  clear hp hq
  go_enter Tryz.func78, Tryz.ntmps78
  go_upto_region 1 with fail
  generalize (w.alloc (.cells #[.int .i64 n, .slice A bs.length c] 34)).alloc (.cells #[.int .i64 0, .slice none 0 0] 34) = W at hP hZ ⊢
  generalize w.heap.size + 1 = Y at hZ ⊢
  have p0 := hP.c0
  have p1 := hP.c1
  go_wp2_with (go_at_call 58; go_fit (planOk_c ⟨n, bs⟩ A b o c _ _ hn (Nat.le_refl _) hP.rd); rintro e w2 ⟨rfl, hb2⟩; rw [Hp.out]; have hP2 := hP.below hb2; have hZ2 := hZ.below hb2; have z0 := hZ2.z0; have z1 := hZ2.z1; have zf0 := hZ2.zf 0; have zf1 := hZ2.zf 1)
  obtain ⟨r0, r1, ho, hb7⟩ := hZ2.fin (n := 0) (A := none) (c := 0) (bs := []) hP2.bel (World.ownsRow_nil _ _ _ _) (by simp [Value.ownBlock])
  simp only [List.length_nil] at r0 r1
  refine bodyPost_ret (v := .agg #[.int .i64 0, .slice none 0 0]) (by simp [results, Tryz.results78, go_sem, r0, r1]) rfl ?_
  exact ⟨none, 0, 0, rfl, BdsR.nil _ _ _, ho, hb7⟩
 ·have hq2 : trimGo n bs.length bs = q.bs ∧ q.n = n := by rw [← hq]; unfold trim; rw [if_pos hp]; exact ⟨rfl, rfl⟩
  obtain ⟨qn, qs⟩ := q
  obtain ⟨hqs, hqn⟩ := hq2
  dsimp only at hqs hqn
  subst hqn
  have hl16 : bs.length ≤ 16 := (planOk_iff.1 hp).2.1
  have Hqs := hide hqs
  have Hp := hide hp
  clear hp hq hqs
  go_enter Tryz.func78, Tryz.ntmps78
  go_upto_region 1 with fail
  generalize (w.alloc (.cells #[.int .i64 qn, .slice A bs.length c] 34)).alloc (.cells #[.int .i64 0, .slice none 0 0] 34) = W at hP hZ ⊢
  generalize w.heap.size + 1 = Y at hZ ⊢
  have p0 := hP.c0
  have p1 := hP.c1
  go_upto_region 4 with (first
   | (go_at_call 58; go_fit (planOk_c ⟨qn, bs⟩ A b o c _ _ hn (Nat.le_refl _) hP.rd); rintro e w2 ⟨rfl, hb2⟩; rw [Hp.out]; have hP2 := hP.below hb2; have hZ2 := hZ.below hb2; have q0 := hP2.c0; have q1 := hP2.c1; have qx := hP2.ex)
   | (go_at_call 74; go_fit (clone_q ⟨qn, bs⟩ A b o c _ _ hn (Nat.le_refl _) hP2.rd); rintro e w3 ⟨A1, c1, g1, rfl, hr3, hown3, hb3⟩; have hP3 := hP2.below hb3; have hZ3 := hZ2.below hb3))
  have hO := ox_new (n := qn) (t := 34) hP3.bel hZ3 (own_less hown3 hP2.bel.size) (fun e => by have := (hown3.lt _ e).1; have := hZ2.ex; omega)
  try dsimp only at hO
  generalize w3.alloc (.cells #[.int .i64 qn, .slice A1 bs.length c1] 34) = W4 at hO ⊢
  generalize w3.heap.size = X at hO ⊢
  clear hP hP2 hP3 hZ hZ2 hZ3 hb2 hb3 hr3 hown3 p0 p1 q0 q1 qx
  have o1 := hO.c1
  go_wp2_with fail
  go_loopg [4] (bs.length + 1) (fun gh s wr => ∃ k : Nat, ∃ a : Int, ∃ cur : List Bd, ∃ A c, gh = k + 1 ∧ s = .int .i64 a ∧ a = (k : Int) - 1 ∧ k ≤ cur.length ∧ cur.length ≤ 16 ∧ Hid (planOk ⟨qn, cur⟩ = true) ∧ Hid (trimGo qn k cur = qs) ∧ OX w wr Y X qn A c cur)
  case atStart => exact ⟨bs.length, _, bs, A1, c1, rfl, rfl, rfl, Nat.le_refl _, hl16, Hp, Hqs, hO⟩
  case round =>
   clear hO o1 Hp Hqs hl16
   obtain ⟨k, a, cur, A2, c2, rfl, rfl, ha, hk, hl16, Hp, Hqs, hO⟩ := hrel
   have o0 := hO.c0
   have o1 := hO.c1
   have of0 := hO.cf 0
   have of1 := hO.cf 1
   rcases Nat.eq_zero_or_pos k with rfl | hk0
   ·obtain rfl : a = -1 := by omega
    clear ha
    have e : cur = qs := by rw [← Hqs.out]; rfl
    subst e
    have hZ := hO.z
    have z0 := hZ.z0
    have z1 := hZ.z1
    have zf0 := hZ.zf 0
    have zf1 := hZ.zf 1
    obtain ⟨r0, r1, ho, hb7⟩ := hZ.fin (n := qn) hO.bel hO.own hO.neY
    go_wp2_with fail
    refine bodyPost_ret (v := .agg #[.int .i64 qn, .slice A2 cur.length c2]) (by simp [results, Tryz.results78, go_sem, r0, r1]) rfl ?_
    obtain ⟨g, hr⟩ := OwnB.readsA ho
    exact ⟨_, _, g, rfl, hr, ho, hb7⟩
   ·obtain ⟨j, rfl⟩ : ∃ j, k = j + 1 := ⟨k - 1, by omega⟩
    obtain rfl : a = (j : Int) := by omega
    clear ha
    obtain ⟨g2, hrd⟩ := hO.reads
    have hnI : needlessI ⟨qn, cur⟩ (j : Int) = needless ⟨qn, cur⟩ j := by unfold needlessI; rw [decide_eq_true (by omega)]; rfl
    have hT : trimGo qn (j + 1) cur = trimGo qn j (if needless ⟨qn, cur⟩ j then del cur j else cur) := rfl
    cases hne : needless ⟨qn, cur⟩ j
    ·have Hne : Hid (needlessI ⟨qn, cur⟩ (j : Int) = false) := by rw [hnI]; exact hne
     have Hqs2 : Hid (trimGo qn j cur = qs) := by rw [← Hqs.out, hT, hne]; rfl
     clear hT hnI hne
     go_wp2_with (go_at_call 104; go_fit (needlessOk_c ⟨qn, cur⟩ (j : Int) A2 g2 0 c2 _ _ (by dsimp only; omega) (Nat.le_refl _) hrd); rintro e w5 ⟨rfl, hb5⟩; rw [Hne.out]; have hO5 := hO.below hb5)
     go_roundg (j + 1)
     case measure => go_light; omega
     case rel => go_light; exact ⟨j, _, cur, A2, c2, rfl, rfl, rfl, by omega, hl16, Hp, Hqs2, hO5⟩
    ·have Hne : Hid (needlessI ⟨qn, cur⟩ (j : Int) = true) := by rw [hnI]; exact hne
     obtain ⟨ds, hds⟩ : ∃ ds, del cur j = ds := ⟨_, rfl⟩
     have Hqs2 : Hid (trimGo qn j ds = qs) := by rw [← Hqs.out, hT, hne, ← hds]; rfl
     have Hp2 : Hid (planOk ⟨qn, ds⟩ = true) := by rw [← hds]; exact del_ok Hp.out j
     have hdl : ds.length = cur.length - 1 := by rw [← hds]; exact del_length (by omega)
     have hd2 : j ≤ ds.length ∧ ds.length ≤ 16 := by omega
     have Hds := hide hds
     clear hT hnI hne hds hdl
     go_upto_region 6 with (first
      | (go_at_call 104; go_fit (needlessOk_c ⟨qn, cur⟩ (j : Int) A2 g2 0 c2 _ _ (by dsimp only; omega) (Nat.le_refl _) hrd); rintro e w5 ⟨rfl, hb5⟩; rw [Hne.out]; have hO5 := hO.below hb5; have t0 := hO5.c0; have t1 := hO5.c1; obtain ⟨g5, hrd5⟩ := hO5.reads; have hx5 := hO5.ex)
      | (go_at_call 77; go_fit (without_yes ⟨qn, cur⟩ j ds Hds.out A2 g5 0 c2 _ _ Hp.out (by dsimp only; omega) (Nat.le_refl _) hrd5); rintro e w6 ⟨A6, c6, g6, rfl, hx6, hown6, hb6⟩; have hO6 := hO5.below hb6; have u0 := hO6.c0; have u1 := hO6.c1; have uf0 := hO6.cf 0; have uf1 := hO6.cf 1))
     have hz5 := hO5.z.ex
     have hO7 := hO6.put (n' := qn) (own_less hown6 hO5.bel.size) (fun e => by have := (hown6.lt _ e).1; omega) (fun e => by have := (hown6.lt _ e).1; omega)
     go_wp2_with fail
     go_roundg (j + 1)
     case measure => go_light; omega
     case rel => go_light; exact ⟨j, _, ds, A6, c6, rfl, rfl, rfl, hd2.1, hd2.2, Hp2, Hqs2, hO7⟩
end Go.Proofs.YtmnajkhoacogjaaGreatDoor
