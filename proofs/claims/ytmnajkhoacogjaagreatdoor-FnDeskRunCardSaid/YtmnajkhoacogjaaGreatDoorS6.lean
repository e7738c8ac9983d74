/-
 spec.WithoutBound, spec.NeedlessOk.
 spec.TrimmedOf.
-/
import Derived.Test.YtmnajkhoacogjaaGreatDoorS3
import Derived.Test.YtmnajkhoacogjaaGreatDoorI1
import Derived.Test.YtmnajkhoacogjaaGreatDoorL11
namespace Go.Proofs.YtmnajkhoacogjaaGreatDoor
set_option linter.unusedVariables false
set_option linter.unusedSimpArgs false
open Go.RowKit Pp

theorem own_cap {base : Nat} {w : World} {A : Option Addr} {n c : Nat} {e : TypeId} {size : Nat} {xs : List Value} (h : w.ownsRow base e size (.slice A n c) n xs) : n ≤ c ∧ c ≤ 9223372036854775807 := by
 rcases h.2 with ⟨hv, hn⟩ | ⟨g, cap, cur, hv, _, _, h1, h2, _⟩
 ·injection hv with e1 e2 e3; omega
 ·injection hv with e1 e2 e3; unfold maxLen at h2; omega

/-- A part of a row of bounds. -/
theorem BdsR.part {w : World} {B b o : Nat} {A : Option Addr} {bs : List Bd} (h : BdsR w B b o A bs) (k : Nat) : BdsR w B b (o + k * 3) (if k < bs.length then some ⟨b, o + k * 3, none⟩ else A) (bs.drop k) := by
 have hl : (bs.drop k).length = bs.length - k := by simp
 refine ⟨fun hx => ?_, fun hx => h.lt (by omega), fun j x hx => ?_, fun j x hx => ?_, fun j x hx => ?_⟩
 ·rw [if_pos (by omega)]
 all_goals rw [List.getElem?_drop] at hx
 ·have := h.c0 _ x hx; rw [Nat.add_mul, ← Nat.add_assoc] at this; exact this
 ·have := h.c1 _ x hx; rw [Nat.add_mul, ← Nat.add_assoc] at this; exact this
 ·have := h.c2 _ x hx; rw [Nat.add_mul, ← Nat.add_assoc] at this; exact this
theorem BdsR.head {w : World} {B b o : Nat} {A : Option Addr} {bs : List Bd} (h : BdsR w B b o A bs) (k : Nat) : BdsR w B b o A (bs.take k) := by
 have e : ∀ {j : Nat} {x : Bd}, (bs.take k)[j]? = some x → bs[j]? = some x := fun {j x} hx => by
  rw [List.getElem?_take] at hx
  split at hx
  ·exact hx
  ·cases hx
 have hl : (bs.take k).length ≤ bs.length := by simp; omega
 exact ⟨fun hx => h.addr (by omega), fun hx => h.lt (by omega), fun j x hx => h.c0 j x (e hx), fun j x hx => h.c1 j x (e hx), fun j x hx => h.c2 j x (e hx)⟩

set_option maxHeartbeats 4000000 in
set_option maxRecDepth 100000 in
theorem sWithout_yes (p : Pl) (k : Nat) (ds : List Bd) (hds : del p.bs k = ds) (A : Option Addr) (b o c B : Nat) (w : World) (hp : planOk p = true) (hk : k < p.bs.length) (hcap : p.bs.length ≤ c) (hc63 : c ≤ 9223372036854775807) (hB : B ≤ w.heap.size) (hR : BdsR w B b o A p.bs) :
  Calls Tryz.prog 66 #[.agg #[.int .i64 p.n, .slice A p.bs.length c], .int .i64 k] w fun e w' =>
   ∃ A1 c1 g1, e = .returned (.tuple #[.agg #[.int .i64 p.n, .slice A1 ds.length c1], .bool true]) ∧ BdsR w' w'.heap.size g1 0 A1 ds ∧ OwnB w.heap.size w' (.slice A1 ds.length c1) ds ∧ Below w.heap.size w w' := by
 obtain ⟨i0, hi0, hz0, hz1, hz2⟩ := info_parts infoB
 obtain ⟨n, bs⟩ := p
 dsimp only at *
 have hl16 : bs.length ≤ 16 := (planOk_iff.1 hp).2.1
 have hA := hR.addr (by omega)
 subst hA
 have hP := (po_new (t := 34) (n := n) (c := c) (Below.refl w.heap.size w) (hR.more hB)).alloc (.cells #[.int .i64 0, .slice none 0 0] 34)
 have hZ : ZB w ((w.alloc (.cells #[.int .i64 n, .slice (some ⟨b, o, none⟩) bs.length c] 34)).alloc (.cells #[.int .i64 0, .slice none 0 0] 34)) (w.alloc (.cells #[.int .i64 n, .slice (some ⟨b, o, none⟩) bs.length c] 34)).heap.size := zb_new (by simp)
 simp only [World.size_alloc] at hZ
 have hin : inB (k : Int) 0 ((bs.length : Int) - 1) = true := inB_iff.2 (by omega)
 have hdl := del_length hk
 rw [hds] at hdl
 have hde : bdCs (bs.take k) ++ bdCs (bs.drop (k + 1)) = bdCs ds := by rw [← hds, del_eq, bdCs_append]
 obtain ⟨A2, hA2, hA3⟩ : ∃ A2 : Option Addr, (if c = k + 1 then (some ⟨b, o, none⟩ : Option Addr) else some ⟨b, o + (k + 1) * 3, none⟩) = A2 ∧ (0 < bs.length - (k + 1) → A2 = if k + 1 < bs.length then some ⟨b, o + (k + 1) * 3, none⟩ else some ⟨b, o, none⟩) := by
  refine ⟨_, rfl, fun h => ?_⟩
  rw [if_pos (show k + 1 < bs.length by omega), if_neg (by omega)]
 have HA3 := hide hA3
 have Hin := hide hin
 have Hp := hide hp
 have Hde := hide hde
 have Hdl := hide hdl
 clear hin hp hds hde hdl hA3
 have hkn : (k : Int) < (bs.length : Int) := by omega
 have i0' : (0 : Int) ≤ (k : Int) + 1 := by omega
 have i1 : (k : Int) + 1 ≤ (bs.length : Int) := by omega
 have i2 : (k : Int) ≤ (c : Int) := by omega
 have i3 : (bs.length : Int) ≤ (c : Int) := by omega
 have i4 : (0 : Int) ≤ (k : Int) := by omega
 go_enter Tryz.func66, Tryz.ntmps66
 go_upto_region 1 with fail
 generalize (w.alloc (.cells #[.int .i64 n, .slice (some ⟨b, o, none⟩) bs.length c] 34)).alloc (.cells #[.int .i64 0, .slice none 0 0] 34) = W at hP hZ ⊢
 have hXY : w.heap.size < w.heap.size + 1 := by omega
 generalize w.heap.size + 1 = Y at hZ hXY ⊢
 have p0 := hP.c0
 have p1 := hP.c1
 go_upto_region 3 with (first
  | (go_at_call 36; go_fit (sPlanOk_c ⟨n, bs⟩ _ b o c _ _ (by dsimp only; omega) (Nat.le_refl _) hP.rd); rintro e w2 ⟨rfl, hb2⟩; rw [Hp.out]; have hP2 := hP.below hb2; have hZ2 := hZ.below hb2; have q0 := hP2.c0; have q1 := hP2.c1; have qx := hP2.ex)
  | (go_at_call 71; go_fit (l1In_c (k : Int) 0 ((bs.length : Int) - 1) _); rintro e w2' ⟨rfl, rfl⟩; rw [Hin.out]))
 clear hP hZ hb2 p0 p1
 have hz2' := hZ2.ex
 have hwrap : IntKind.i64.wrap ((k : Int) + 1) = (k : Int) + 1 := by rw [IntWalk.i64_left, IntWalk.wrap64_in _ (by omega)]
 have hP3 := (hP2.alloc (.cells #[] 97)).drew
 have hZ3 := (hZ2.below (show Below w2.heap.size w2 (w2.alloc (.cells #[] 97)) by go_grown)).below (show Below (w2.alloc (.cells #[] 97)).heap.size (w2.alloc (.cells #[] 97)) (w2.alloc (.cells #[] 97)).drew by go_grown)
 have HE : Hid (OwnB w2.heap.size (w2.alloc (.cells #[] 97)).drew (.slice (some ⟨w2.heap.size, 0, none⟩) 0 0) []) := own_empty (at_new (by simp)) (by simp)
 have hb3 : Below w2.heap.size w2 (w2.alloc (.cells #[] 97)).drew := by go_grown
 have hs3 : w2.heap.size + 1 = (w2.alloc (.cells #[] 97)).drew.heap.size := by simp
 have hP20 := hP2.bel.size
 go_region_held3 (fun w' => w'.cell? ⟨w.heap.size, 0, none⟩ = some (.int .i64 n) ∧ w'.cell? ⟨w.heap.size, 1, none⟩ = some (.slice (some ⟨b, o, none⟩) bs.length c))
  (first | (go_split_ands; (repeat' apply And.intro) <;> first | assumption | exact (set_other (by dsimp only; omega)).trans ((set_other (by dsimp only; omega)).trans (by assumption))) | (go_keep; done))
  (first
    | (refine app_step _ rfl (.tmp 21) (.tmp 25) _ rfl w2.heap.size 97 i0 _ 3 24 Tryz.underlying32 hi0 hz0 hz1 hz2 rfl (by omega) (.slice (some ⟨w2.heap.size, 0, none⟩) 0 0) 0 [] (Eq.refl _) HE.out (some ⟨b, o, none⟩) k c (bdCs (bs.take k)) (Eq.refl _) ?_ ?_ (bdCs_one _) (by omega) (by omega) ?_ ?_
       ·rw [bdCs_length]; simp; omega
       ·have h := ((hP2.rd.head k).below hb3).news
        rw [List.length_take, Nat.min_eq_left (by omega)] at h
        exact h
       ·omega
       intro A4 c4 w4 hown4 hg4 hat4
       simp only [Nat.zero_add, List.nil_append] at hown4 hat4 ⊢
       have hne0 : some w.heap.size ≠ (Value.slice (some ⟨w2.heap.size, 0, none⟩) 0 0).ownBlock := (by simp [Value.ownBlock]; omega)
       have k0 := hg4.cell hP3.c0 hne0
       have k1 := hg4.cell hP3.c1 hne0
       have hZ4 := hZ3.grown hg4 (fun q hq => by simp [Value.ownBlock] at hq; omega)
       have hb4 : Below w2.heap.size w2 w4 := hb3.grown hg4 (by omega) (fun q hq => by simp [Value.ownBlock] at hq; omega)
       have hs4 := hg4.size
       have hat4' : ∀ q, (Value.slice A4 k c4).ownBlock = some q → w2.heap.size ≤ q := (fun q hq => by rcases hat4 with h | h <;> (rw [h] at hq; simp [Value.ownBlock] at hq; omega))
       clear hat4)
    | (refine app_step _ rfl (.tmp 26) (.tmp 31) _ rfl w2.heap.size 97 i0 _ 3 24 Tryz.underlying32 hi0 hz0 hz1 hz2 rfl (by omega) (.slice A4 k c4) k (bdCs (bs.take k)) (Eq.refl _) hown4 A2 (bs.length - (k + 1)) (c - (k + 1)) (bdCs (bs.drop (k + 1))) (Eq.refl _) ?_ ?_ (bdCs_one _) (by omega) (by omega) ?_ ?_
       ·rw [bdCs_length]; simp
       ·intro hm
        rw [HA3.out hm]
        have h := ((hP2.rd.below hb4).part (k + 1)).news
        rw [List.length_drop] at h
        exact h hm
       ·omega
       intro A5 c5 w5 hown5 hg5 hat5
       rw [Hde.out] at hown5
       have hl5 : k + (bs.length - (k + 1)) = ds.length := (by rw [Hdl.out]; omega)
       rw [hl5] at hown5 hat5 ⊢
       have hne5 : some w.heap.size ≠ (Value.slice A4 k c4).ownBlock := (fun e => by have := hat4' _ e.symm; omega)
       have m0 := hg5.cell k0 hne5
       have m1 := hg5.cell k1 hne5
       have hZ5 := hZ4.grown hg5 (fun q hq => by have := hat4' q hq; omega)
       have hb5 : Below w2.heap.size w2 w5 := hb4.grown hg5 (by omega) (fun q hq => by have := hat4' q hq; omega)
       have y0 := hZ5.z0
       have y1 := hZ5.z1
       have yf0 := hZ5.zf 0
       have yf1 := hZ5.zf 1))
 have hneY : (Value.slice A5 ds.length c5).ownBlock ≠ some Y := fun e => by
  rcases hat5 with h | h
  ·rw [h] at e; have := hat4' _ e; omega
  ·rw [h] at e; injection e with e; omega
 obtain ⟨r0, r1, ho, hb7⟩ := hZ5.fin (n := n) (bthen hP2.bel hb5) (own_less hown5 hP20) hneY
 go_wp2_with fail
 refine bodyPost_ret (v := .tuple #[.agg #[.int .i64 n, .slice A5 ds.length c5], .bool true]) (by simp [results, Tryz.results66, go_sem, r0, r1]) rfl ?_
 obtain ⟨g, hr⟩ := OwnB.readsA ho
 exact ⟨_, _, g, rfl, hr, ho, hb7⟩

set_option maxHeartbeats 4000000 in
set_option maxRecDepth 100000 in
theorem sWithout_no (p : Pl) (at_ : Int) (A : Option Addr) (b o c B : Nat) (w : World) (hn : p.bs.length ≤ 2000000) (hno : (planOk p && inB at_ 0 ((p.bs.length : Int) - 1)) = false) (hB : B ≤ w.heap.size) (hR : BdsR w B b o A p.bs) :
  Calls Tryz.prog 66 #[.agg #[.int .i64 p.n, .slice A p.bs.length c], .int .i64 at_] w fun e w' => e = .returned (.tuple #[.agg #[.int .i64 0, .slice none 0 0], .bool false]) ∧ Below w.heap.size w w' := by
 obtain ⟨n, bs⟩ := p
 dsimp only at *
 have hP := (po_new (t := 34) (n := n) (c := c) (Below.refl w.heap.size w) (hR.more hB)).alloc (.cells #[.int .i64 0, .slice none 0 0] 34)
 have hZ : ZB w ((w.alloc (.cells #[.int .i64 n, .slice A bs.length c] 34)).alloc (.cells #[.int .i64 0, .slice none 0 0] 34)) (w.alloc (.cells #[.int .i64 n, .slice A bs.length c] 34)).heap.size := zb_new (by simp)
 simp only [World.size_alloc] at hZ
 cases hp : planOk ⟨n, bs⟩
 ·have Hp := hide hp
  clear hp hno
  go_enter Tryz.func66, Tryz.ntmps66
  go_upto_region 1 with fail
  generalize (w.alloc (.cells #[.int .i64 n, .slice A bs.length c] 34)).alloc (.cells #[.int .i64 0, .slice none 0 0] 34) = W at hP hZ ⊢
  generalize w.heap.size + 1 = Y at hZ ⊢
  have p0 := hP.c0
  have p1 := hP.c1
  go_wp2_with (go_at_call 36; go_fit (sPlanOk_c ⟨n, bs⟩ A b o c _ _ hn (Nat.le_refl _) hP.rd); rintro e w2 ⟨rfl, hb2⟩; rw [Hp.out]; have hP2 := hP.below hb2; have hZ2 := hZ.below hb2; have z0 := hZ2.z0; have z1 := hZ2.z1; have zf0 := hZ2.zf 0; have zf1 := hZ2.zf 1)
  obtain ⟨r0, r1⟩ := two_cells (a := .int .i64 0) (b := .slice none 0 0) z0 z1
  refine bodyPost_ret (v := .tuple #[.agg #[.int .i64 0, .slice none 0 0], .bool false]) (by simp [results, Tryz.results66, go_sem, r0, r1]) rfl ?_
  exact ⟨rfl, (hP2.bel.setCell hZ2.lo _).setCell hZ2.lo _⟩
 ·rw [hp, Bool.true_and] at hno
  have Hp := hide hp
  have Hin := hide hno
  clear hp hno
  go_enter Tryz.func66, Tryz.ntmps66
  go_upto_region 1 with fail
  generalize (w.alloc (.cells #[.int .i64 n, .slice A bs.length c] 34)).alloc (.cells #[.int .i64 0, .slice none 0 0] 34) = W at hP hZ ⊢
  generalize w.heap.size + 1 = Y at hZ ⊢
  have p0 := hP.c0
  have p1 := hP.c1
  go_wp2_with (first
   | (go_at_call 36; go_fit (sPlanOk_c ⟨n, bs⟩ A b o c _ _ hn (Nat.le_refl _) hP.rd); rintro e w2 ⟨rfl, hb2⟩; rw [Hp.out]; have hP2 := hP.below hb2; have hZ2 := hZ.below hb2; have z0 := hZ2.z0; have z1 := hZ2.z1; have zf0 := hZ2.zf 0; have zf1 := hZ2.zf 1; have q0 := hP2.c0; have q1 := hP2.c1)
   | (go_at_call 71; go_fit (l1In_c at_ 0 ((bs.length : Int) - 1) _); rintro e w2' ⟨rfl, rfl⟩; rw [Hin.out]))
  obtain ⟨r0, r1⟩ := two_cells (a := .int .i64 0) (b := .slice none 0 0) z0 z1
  refine bodyPost_ret (v := .tuple #[.agg #[.int .i64 0, .slice none 0 0], .bool false]) (by simp [results, Tryz.results66, go_sem, r0, r1]) rfl ?_
  exact ⟨rfl, (hP2.bel.setCell hZ2.lo _).setCell hZ2.lo _⟩

set_option maxHeartbeats 4000000 in
set_option maxRecDepth 100000 in
theorem sNeedlessOk_c (p : Pl) (at_ : Int) (A : Option Addr) (b o c B : Nat) (w : World) (hn : p.bs.length ≤ 2000000) (hcap : p.bs.length ≤ c) (hc63 : c ≤ 9223372036854775807) (hB : B ≤ w.heap.size) (hR : BdsR w B b o A p.bs) :
  Calls Tryz.prog 96 #[.agg #[.int .i64 p.n, .slice A p.bs.length c], .int .i64 at_] w fun e w' => e = .returned (.bool (needlessI p at_)) ∧ Below w.heap.size w w' := by
 obtain ⟨r, hr⟩ : ∃ r, needlessI p at_ = r := ⟨_, rfl⟩
 rw [hr]
 cases hno : (planOk p && inB at_ 0 ((p.bs.length : Int) - 1))
 ·have : r = false := by rw [← hr]; exact needlessI_no hno
  subst this
  obtain ⟨n, bs⟩ := p
  dsimp only at *
  have Hno := hide hno
  have hP := po_new (t := 34) (n := n) (c := c) (Below.refl w.heap.size w) (hR.more hB)
  clear hno hr
  go_enter Tryz.func96, Tryz.ntmps96
  go_upto_region 1 with fail
  generalize w.alloc (.cells #[.int .i64 n, .slice A bs.length c] 34) = W at hP ⊢
  have p0 := hP.c0
  have p1 := hP.c1
  go_wp2_with (go_at_call 66; go_fit (sWithout_no ⟨n, bs⟩ at_ A b o c _ _ hn Hno.out (Nat.le_refl _) hP.rd); rintro e w2 ⟨rfl, hb2⟩; have hP2 := (hP.below hb2).alloc (.cells #[.int .i64 0, .slice none 0 0] 34))
  go_ret
  exact ⟨rfl, hP2.bel⟩
 ·simp only [Bool.and_eq_true] at hno
  obtain ⟨hp, hin⟩ := hno
  rw [inB_iff] at hin
  obtain ⟨hin0, hin1⟩ := hin
  obtain ⟨k, rfl⟩ := Int.eq_ofNat_of_zero_le hin0
  have hk : k < p.bs.length := by omega
  have hl16 : p.bs.length ≤ 16 := (planOk_iff.1 hp).2.1
  obtain ⟨n, bs⟩ := p
  dsimp only at *
  obtain ⟨ds, hds⟩ : ∃ ds, del bs k = ds := ⟨_, rfl⟩
  have hal : alike ⟨n, bs⟩ ⟨n, ds⟩ = r := by
   rw [← hr, ← hds]; unfold needlessI needless
   rw [decide_eq_true hin0, decide_eq_true (by dsimp only; omega)]
   rfl
  have hdl : ds.length ≤ 16 := by rw [← hds]; exact Nat.le_trans (del_le bs k) hl16
  have Hal := hide hal
  have Hds := hide hds
  have hP := po_new (t := 34) (n := n) (c := c) (Below.refl w.heap.size w) (hR.more hB)
  clear hr hal hds
  go_enter Tryz.func96, Tryz.ntmps96
  go_upto_region 1 with fail
  generalize w.alloc (.cells #[.int .i64 n, .slice A bs.length c] 34) = W at hP ⊢
  have p0 := hP.c0
  have p1 := hP.c1
  go_upto_region 2 with (go_at_call 66; go_fit (sWithout_yes ⟨n, bs⟩ k ds Hds.out A b o c _ _ hp hk hcap hc63 (Nat.le_refl _) hP.rd); rintro e w2 ⟨A1, c1, g1, rfl, hx1, hown1, hb2⟩; have hP2 := (hP.below hb2).alloc (.cells #[.int .i64 n, .slice A1 ds.length c1] 34))
  have hQ := po_new (t := 34) (n := n) (c := c1) (hP.below hb2).bel hx1
  generalize w2.alloc (.cells #[.int .i64 n, .slice A1 ds.length c1] 34) = W2 at hP2 hQ ⊢
  clear hP hx1 hown1 hb2 p0 p1
  have p0 := hP2.c0
  have p1 := hP2.c1
  have q0 := hQ.c0
  have q1 := hQ.c1
  go_wp2_with (go_at_call 113; go_fit (sAlikeOk_c ⟨n, bs⟩ ⟨n, ds⟩ A A1 b o c g1 0 c1 _ _ (by dsimp only; omega) (by dsimp only; omega) (Nat.le_refl _) hP2.rd hQ.rd); rintro e w3 ⟨rfl, hb3⟩; rw [Hal.out]; have hP3 := hP2.below hb3)
  go_ret
  exact ⟨by cases r <;> rfl, hP3.bel⟩

set_option maxHeartbeats 8000000 in
set_option maxRecDepth 100000 in
theorem sTrimmed_c (p q : Pl) (hq : trim p = q) (A : Option Addr) (b o c B : Nat) (w : World) (hn : p.bs.length ≤ 2000000) (hB : B ≤ w.heap.size) (hR : BdsR w B b o A p.bs) :
  Calls Tryz.prog 67 #[.agg #[.int .i64 p.n, .slice A p.bs.length c]] w fun e w' =>
   ∃ A1 c1 g1, e = .returned (.agg #[.int .i64 q.n, .slice A1 q.bs.length c1]) ∧ BdsR w' w'.heap.size g1 0 A1 q.bs ∧ OwnB w.heap.size w' (.slice A1 q.bs.length c1) q.bs ∧ Below w.heap.size w w' := by
 obtain ⟨i0, hi0, hz0, hz1, hz2⟩ := info_parts infoB
 obtain ⟨n, bs⟩ := p
 dsimp only at *
 have hP := (po_new (t := 34) (n := n) (c := c) (Below.refl w.heap.size w) (hR.more hB)).alloc (.cells #[.int .i64 0, .slice none 0 0] 34)
 have hZ : ZB w ((w.alloc (.cells #[.int .i64 n, .slice A bs.length c] 34)).alloc (.cells #[.int .i64 0, .slice none 0 0] 34)) (w.alloc (.cells #[.int .i64 n, .slice A bs.length c] 34)).heap.size := zb_new (by simp)
 simp only [World.size_alloc] at hZ
 cases hp : planOk ⟨n, bs⟩
 ·have hq2 : q = ⟨0, []⟩ := by rw [← hq]; exact trim_no hp
  subst hq2
  have Hp := hide hp
  clear hp hq
  go_enter Tryz.func67, Tryz.ntmps67
  go_upto_region 1 with fail
  generalize (w.alloc (.cells #[.int .i64 n, .slice A bs.length c] 34)).alloc (.cells #[.int .i64 0, .slice none 0 0] 34) = W at hP hZ ⊢
  generalize w.heap.size + 1 = Y at hZ ⊢
  have p0 := hP.c0
  have p1 := hP.c1
  go_wp2_with (go_at_call 36; go_fit (sPlanOk_c ⟨n, bs⟩ A b o c _ _ hn (Nat.le_refl _) hP.rd); rintro e w2 ⟨rfl, hb2⟩; rw [Hp.out]; have hP2 := hP.below hb2; have hZ2 := hZ.below hb2; have z0 := hZ2.z0; have z1 := hZ2.z1; have zf0 := hZ2.zf 0; have zf1 := hZ2.zf 1)
  obtain ⟨r0, r1, ho, hb7⟩ := hZ2.fin (n := 0) (A := none) (c := 0) (bs := []) hP2.bel (World.ownsRow_nil _ _ _ _) (by simp [Value.ownBlock])
  simp only [List.length_nil] at r0 r1
  refine bodyPost_ret (v := .agg #[.int .i64 0, .slice none 0 0]) (by simp [results, Tryz.results67, go_sem, r0, r1]) rfl ?_
  exact ⟨none, 0, 0, rfl, BdsR.nil _ _ _, ho, hb7⟩
 ·have hq2 : trimGo n bs.length bs = q.bs ∧ q.n = n := by rw [← hq]; unfold trim; rw [if_pos hp]; exact ⟨rfl, rfl⟩
  obtain ⟨qn, qs⟩ := q
  obtain ⟨hqs, hqn⟩ := hq2
  dsimp only at hqs hqn
  subst hqn
  have hl16 : bs.length ≤ 16 := (planOk_iff.1 hp).2.1
  have Hqs := hide hqs
  have Hp := hide hp
  clear hp hq hqs
  go_enter Tryz.func67, Tryz.ntmps67
  go_upto_region 1 with fail
  generalize (w.alloc (.cells #[.int .i64 qn, .slice A bs.length c] 34)).alloc (.cells #[.int .i64 0, .slice none 0 0] 34) = W at hP hZ ⊢
  have hXY : w.heap.size < w.heap.size + 1 := by omega
  generalize w.heap.size + 1 = Y at hZ hXY ⊢
  have p0 := hP.c0
  have p1 := hP.c1
  go_upto_region 3 with (go_at_call 36; go_fit (sPlanOk_c ⟨qn, bs⟩ A b o c _ _ hn (Nat.le_refl _) hP.rd); rintro e w2 ⟨rfl, hb2⟩; rw [Hp.out]; have hP2 := hP.below hb2; have hZ2 := hZ.below hb2; have q0 := hP2.c0; have q1 := hP2.c1; have qx := hP2.ex)
  clear hP hZ hb2 p0 p1
  have hP20 := hP2.bel.size
  have hY2 := hZ2.ex
  go_cut [3] (fun s wx => ∃ X A1 c1, s = .pointer (some ⟨X, 0, none⟩) ∧ OX w wx Y X qn A1 c1 bs ∧ wx.cell? ⟨w.heap.size, 1, none⟩ = some (.slice A bs.length c))
  case first =>
   go_region_held3 (fun w' => w'.cell? ⟨w.heap.size, 0, none⟩ = some (.int .i64 qn) ∧ w'.cell? ⟨w.heap.size, 1, none⟩ = some (.slice A bs.length c))
    (first
      | (go_split_ands; (repeat' apply And.intro) <;> first | assumption | exact (set_other (by dsimp only; omega)).trans ((set_other (by dsimp only; omega)).trans (by assumption)) | exact (World.cell?_alloc_past _ _ _ (by first | omega | (simp only [World.size_alloc, World.size_drew]; done) | (simp only [World.size_alloc, World.size_drew]; omega))).trans (by assumption) | exact (World.cell?_alloc_past _ _ _ (by first | omega | (simp only [World.size_alloc, World.size_drew]; done) | (simp only [World.size_alloc, World.size_drew]; omega))).trans ((World.cell?_alloc_past _ _ _ (by first | omega | (simp only [World.size_alloc, World.size_drew]; done) | (simp only [World.size_alloc, World.size_drew]; omega))).trans (by assumption)))
      | (go_keep; done))
    (first
      | (refine app_step _ rfl (.tmp 11) (.tmp 13) _ rfl w2.heap.size 97 i0 _ 3 24 Tryz.underlying32 hi0 hz0 hz1 hz2 rfl (by omega) (.slice (some ⟨w2.heap.size + 1, 0, none⟩) 0 0) 0 [] (Eq.refl _) ?_ A bs.length c (bdCs bs) (Eq.refl _) (bdCs_length bs) ?_ (bdCs_one bs) (by omega) (by omega) ?_ ?_
         ·exact own_empty (at_new (w := w2.alloc (.cells #[.int .i64 0, .slice none 0 0] 34)) (by simp)) (by omega)
         ·exact (hP2.rd.below (show Below w2.heap.size w2 _ by go_grown)).news
         ·exact (by first | omega | (simp only [World.size_alloc, World.size_drew]; done) | (simp only [World.size_alloc, World.size_drew]; omega))
         intro A4 c4 w4 hown4 hg4 hat4
         simp only [Nat.zero_add, List.nil_append] at hown4 hat4 ⊢
         have hb4 : Below w2.heap.size w2 w4 := (show Below w2.heap.size w2 _ by go_grown).grown hg4 (by first | omega | (simp only [World.size_alloc, World.size_drew]; done) | (simp only [World.size_alloc, World.size_drew]; omega)) (fun q hq => by have e := Option.some.inj hq; subst e; dsimp only; omega)
         have hZ4 := hZ2.below hb4
         have hqY : (Value.slice A4 bs.length c4).ownBlock ≠ some Y := (fun e => by have := (hown4.lt _ e).1; omega)
         have hqN := (fun q (e : (Value.slice A4 bs.length c4).ownBlock = some q) => (hown4.lt q e).2)
         have hc4 := (bcell hb4).1
         have k0 := (hc4 _ 0 qx).trans q0
         have k1 := (hc4 _ 1 qx).trans q1
         have Hc4 := hide hc4
         clear hc4
         have hqX : (Value.slice A4 bs.length c4).ownBlock ≠ some (w2.heap.size) := (fun e => by rcases hat4 with h | h <;> rw [h] at e <;> (have e2 := Option.some.inj e; (try simp only [World.size_alloc, World.size_drew] at e2); (try dsimp only at e2); omega)); have hX := ZB.grown (((zb_at (w0 := w) (W := w2) (X := w2.heap.size) (t := 34) rfl hP20).alloc _).drew) hg4 (fun q hq => by have e := Option.some.inj hq; subst e; dsimp only; omega); have x0 := hX.z0; have x1 := hX.z1; have xf0 := hX.zf 0; have xf1 := hX.zf 1)
      | (refine app_step _ rfl (.tmp 11) (.tmp 13) _ rfl w2.heap.size 97 i0 _ 3 24 Tryz.underlying32 hi0 hz0 hz1 hz2 rfl (by omega) (.slice (some ⟨w2.heap.size, 0, none⟩) 0 0) 0 [] (Eq.refl _) ?_ A bs.length c (bdCs bs) (Eq.refl _) (bdCs_length bs) ?_ (bdCs_one bs) (by omega) (by omega) ?_ ?_
         ·exact own_empty (at_old (at_new (w := w2) rfl)) (by omega)
         ·exact (hP2.rd.below (show Below w2.heap.size w2 _ by go_grown)).news
         ·exact (by first | omega | (simp only [World.size_alloc, World.size_drew]; done) | (simp only [World.size_alloc, World.size_drew]; omega))
         intro A4 c4 w4 hown4 hg4 hat4
         simp only [Nat.zero_add, List.nil_append] at hown4 hat4 ⊢
         have hb4 : Below w2.heap.size w2 w4 := (show Below w2.heap.size w2 _ by go_grown).grown hg4 (by first | omega | (simp only [World.size_alloc, World.size_drew]; done) | (simp only [World.size_alloc, World.size_drew]; omega)) (fun q hq => by have e := Option.some.inj hq; subst e; dsimp only; omega)
         have hZ4 := hZ2.below hb4
         have hqY : (Value.slice A4 bs.length c4).ownBlock ≠ some Y := (fun e => by have := (hown4.lt _ e).1; omega)
         have hqN := (fun q (e : (Value.slice A4 bs.length c4).ownBlock = some q) => (hown4.lt q e).2)
         have hc4 := (bcell hb4).1
         have k0 := (hc4 _ 0 qx).trans q0
         have k1 := (hc4 _ 1 qx).trans q1
         have Hc4 := hide hc4
         clear hc4
         have hqX : (Value.slice A4 bs.length c4).ownBlock ≠ some (w2.heap.size + 1) := (fun e => by rcases hat4 with h | h <;> rw [h] at e <;> (have e2 := Option.some.inj e; (try simp only [World.size_alloc, World.size_drew] at e2); (try dsimp only at e2); omega)); have hX := ZB.grown ((zb_at (w0 := w) (W := w2.alloc (.cells #[] 97)) (X := w2.heap.size + 1) (t := 34) (by simp) (by simp; omega)).drew) hg4 (fun q hq => by have e := Option.some.inj hq; subst e; dsimp only; omega); have x0 := hX.z0; have x1 := hX.z1; have xf0 := hX.zf 0; have xf1 := hX.zf 1)
      | (refine app_step _ rfl (.tmp 11) (.tmp 13) _ rfl w2.heap.size 97 i0 _ 3 24 Tryz.underlying32 hi0 hz0 hz1 hz2 rfl (by omega) (.slice (some ⟨w2.heap.size, 0, none⟩) 0 0) 0 [] (Eq.refl _) ?_ A bs.length c (bdCs bs) (Eq.refl _) (bdCs_length bs) ?_ (bdCs_one bs) (by omega) (by omega) ?_ ?_
         ·exact own_empty (at_new (w := w2) rfl) (by omega)
         ·exact (hP2.rd.below (show Below w2.heap.size w2 _ by go_grown)).news
         ·exact (by first | omega | (simp only [World.size_alloc, World.size_drew]; done) | (simp only [World.size_alloc, World.size_drew]; omega))
         intro A4 c4 w4 hown4 hg4 hat4
         simp only [Nat.zero_add, List.nil_append] at hown4 hat4 ⊢
         have hb4 : Below w2.heap.size w2 w4 := (show Below w2.heap.size w2 _ by go_grown).grown hg4 (by first | omega | (simp only [World.size_alloc, World.size_drew]; done) | (simp only [World.size_alloc, World.size_drew]; omega)) (fun q hq => by have e := Option.some.inj hq; subst e; dsimp only; omega)
         have hZ4 := hZ2.below hb4
         have hqY : (Value.slice A4 bs.length c4).ownBlock ≠ some Y := (fun e => by have := (hown4.lt _ e).1; omega)
         have hqN := (fun q (e : (Value.slice A4 bs.length c4).ownBlock = some q) => (hown4.lt q e).2)
         have hc4 := (bcell hb4).1
         have k0 := (hc4 _ 0 qx).trans q0
         have k1 := (hc4 _ 1 qx).trans q1
         have Hc4 := hide hc4
         clear hc4
         skip))
   all_goals (
    go_wp2_with fail
    go_meet
    case rel =>
     first
      | exact ⟨_, A4, c4, rfl, ox_put (bthen hP2.bel hb4) hZ4 hX (by omega) (own_less hown4 hP20) hqY hqX, (set_other (by dsimp only; omega)).trans ((set_other (by dsimp only; omega)).trans k1)⟩
      | exact ⟨_, A4, c4, rfl, ox_new (bthen hP2.bel hb4) hZ4 (own_less hown4 hP20) hqY, (World.cell?_alloc_past _ _ _ (by have := hb4.size; omega)).trans k1⟩)
  case rest =>
   obtain ⟨X, A1, c1, rfl, hO, p1⟩ := hcut
   clear hP2 hZ2 q0 q1
   have o1 := hO.c1
   go_wp2_with fail
   go_loopg [4] (bs.length + 1) (fun gh s wr => ∃ k : Nat, ∃ a : Int, ∃ cur : List Bd, ∃ A c, gh = k + 1 ∧ s = .int .i64 a ∧ a = (k : Int) - 1 ∧ k ≤ cur.length ∧ cur.length ≤ 16 ∧ Hid (planOk ⟨qn, cur⟩ = true) ∧ Hid (trimGo qn k cur = qs) ∧ OX w wr Y X qn A c cur)
   case atStart => exact ⟨bs.length, _, bs, A1, c1, rfl, rfl, rfl, Nat.le_refl _, hl16, Hp, Hqs, hO⟩
   case round =>
    clear hO o1 Hp Hqs hl16
    obtain ⟨k, a, cur, A2, c2, rfl, rfl, ha, hk, hl16, Hp, Hqs, hO⟩ := hrel
    have o0 := hO.c0
    have o1 := hO.c1
    have of0 := hO.cf 0
    have of1 := hO.cf 1
    rcases Nat.eq_zero_or_pos k with rfl | hk0
    ·obtain rfl : a = -1 := by omega
     clear ha
     have e : cur = qs := by rw [← Hqs.out]; rfl
     subst e
     have hZ := hO.z
     have z0 := hZ.z0
     have z1 := hZ.z1
     have zf0 := hZ.zf 0
     have zf1 := hZ.zf 1
     obtain ⟨r0, r1, ho, hb7⟩ := hZ.fin (n := qn) hO.bel hO.own hO.neY
     go_wp2_with fail
     refine bodyPost_ret (v := .agg #[.int .i64 qn, .slice A2 cur.length c2]) (by simp [results, Tryz.results67, go_sem, r0, r1]) rfl ?_
     obtain ⟨g, hr⟩ := OwnB.readsA ho
     exact ⟨_, _, g, rfl, hr, ho, hb7⟩
    ·obtain ⟨j, rfl⟩ : ∃ j, k = j + 1 := ⟨k - 1, by omega⟩
     obtain rfl : a = (j : Int) := by omega
     clear ha
     obtain ⟨g2, hrd⟩ := hO.reads
     obtain ⟨hcap, hc63⟩ := own_cap hO.own
     have hnI : needlessI ⟨qn, cur⟩ (j : Int) = needless ⟨qn, cur⟩ j := by unfold needlessI; rw [decide_eq_true (by omega)]; rfl
     have hT : trimGo qn (j + 1) cur = trimGo qn j (if needless ⟨qn, cur⟩ j then del cur j else cur) := rfl
     cases hne : needless ⟨qn, cur⟩ j
     ·have Hne : Hid (needlessI ⟨qn, cur⟩ (j : Int) = false) := by rw [hnI]; exact hne
      have Hqs2 : Hid (trimGo qn j cur = qs) := by rw [← Hqs.out, hT, hne]; rfl
      clear hT hnI hne
      go_wp2_with (go_at_call 96; go_fit (sNeedlessOk_c ⟨qn, cur⟩ (j : Int) A2 g2 0 c2 _ _ (by dsimp only; omega) hcap hc63 (Nat.le_refl _) hrd); rintro e w5 ⟨rfl, hb5⟩; rw [Hne.out]; have hO5 := hO.below hb5)
      go_roundg (j + 1)
      case measure => go_light; omega
      case rel => go_light; exact ⟨j, _, cur, A2, c2, rfl, rfl, rfl, by omega, hl16, Hp, Hqs2, hO5⟩
     ·have Hne : Hid (needlessI ⟨qn, cur⟩ (j : Int) = true) := by rw [hnI]; exact hne
      obtain ⟨ds, hds⟩ : ∃ ds, del cur j = ds := ⟨_, rfl⟩
      have Hqs2 : Hid (trimGo qn j ds = qs) := by rw [← Hqs.out, hT, hne, ← hds]; rfl
      have Hp2 : Hid (planOk ⟨qn, ds⟩ = true) := by rw [← hds]; exact del_ok Hp.out j
      have hdl : ds.length = cur.length - 1 := by rw [← hds]; exact del_length (by omega)
      have hd2 : j ≤ ds.length ∧ ds.length ≤ 16 := by omega
      have Hds := hide hds
      clear hT hnI hne hds hdl
      go_upto_region 6 with (first
       | (go_at_call 96; go_fit (sNeedlessOk_c ⟨qn, cur⟩ (j : Int) A2 g2 0 c2 _ _ (by dsimp only; omega) hcap hc63 (Nat.le_refl _) hrd); rintro e w5 ⟨rfl, hb5⟩; rw [Hne.out]; have hO5 := hO.below hb5; have t0 := hO5.c0; have t1 := hO5.c1; obtain ⟨g5, hrd5⟩ := hO5.reads; have hx5 := hO5.ex)
       | (go_at_call 66; go_fit (sWithout_yes ⟨qn, cur⟩ j ds Hds.out A2 g5 0 c2 _ _ Hp.out (by dsimp only; omega) hcap hc63 (Nat.le_refl _) hrd5); rintro e w6 ⟨A6, c6, g6, rfl, hx6, hown6, hb6⟩; have hO6 := hO5.below hb6; have u0 := hO6.c0; have u1 := hO6.c1; have uf0 := hO6.cf 0; have uf1 := hO6.cf 1))
      have hz5 := hO5.z.ex
      have hO7 := hO6.put (n' := qn) (own_less hown6 hO5.bel.size) (fun e => by have := (hown6.lt _ e).1; omega) (fun e => by have := (hown6.lt _ e).1; omega)
      go_wp2_with fail
      go_roundg (j + 1)
      case measure => go_light; omega
      case rel => go_light; exact ⟨j, _, ds, A6, c6, rfl, rfl, rfl, hd2.1, hd2.2, Hp2, Hqs2, hO7⟩
end Go.Proofs.YtmnajkhoacogjaaGreatDoor
