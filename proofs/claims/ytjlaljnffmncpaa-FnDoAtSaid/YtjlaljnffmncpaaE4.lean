/-
  States that are made, compared, marked and held.
-/
import Derived.Test.YtjlaljnffmncpaaE3
namespace Go.Proofs.Ytjlaljnffmncpaa
set_option linter.unusedVariables false
set_option linter.unusedSimpArgs false
open Go.RowKit Pp

theorem ZB.finI {w0 W : World} {Y : Nat} {n : Int} {A : Option Addr} {c : Nat} {xs : List Int} (h : ZB w0 W Y) (hW : Below w0.heap.size w0 W) (own : OwnI w0.heap.size W (.slice A xs.length c) xs) (ne : (Value.slice A xs.length c).ownBlock ≠ some Y) :
    ((W.setCell ⟨Y, 0, none⟩ (.int .i64 n)).setCell ⟨Y, 1, none⟩ (.slice A xs.length c)).cell? ⟨Y, 0, none⟩ = some (.int .i64 n) ∧ ((W.setCell ⟨Y, 0, none⟩ (.int .i64 n)).setCell ⟨Y, 1, none⟩ (.slice A xs.length c)).cell? ⟨Y, 1, none⟩ = some (.slice A xs.length c) ∧
    OwnI w0.heap.size ((W.setCell ⟨Y, 0, none⟩ (.int .i64 n)).setCell ⟨Y, 1, none⟩ (.slice A xs.length c)) (.slice A xs.length c) xs ∧ Below w0.heap.size w0 ((W.setCell ⟨Y, 0, none⟩ (.int .i64 n)).setCell ⟨Y, 1, none⟩ (.slice A xs.length c)) := by
  obtain ⟨r0, r1⟩ := two_cells (a := .int .i64 n) (b := .slice A xs.length c) h.z0 h.z1
  exact ⟨r0, r1, own_set (own_set own ne _) ne _, (hW.setCell h.lo _).setCell h.lo _⟩

/-- A state in a box, that is read. -/
structure RS (W : World) (X b o : Nat) (n : Int) (A : Option Addr) (c : Nat) (xs : List Int) : Prop where
  ex : X < W.heap.size
  c0 : W.cell? ⟨X, 0, none⟩ = some (.int .i64 n)
  c1 : W.cell? ⟨X, 1, none⟩ = some (.slice A xs.length c)
  rd : IntsR W W.heap.size b o A xs
theorem IntsR.grown {W W' : World} {B b o : Nat} {A : Option Addr} {xs : List Int} {row : Option Nat} (h : IntsR W B b o A xs) (hg : W.grownBy W' row) (hb : 0 < xs.length → some b ≠ row) : IntsR W' B b o A xs :=
  ⟨h.addr, h.lt, fun j hj => hg.cell (h.cell j hj) (hb (by omega))⟩
theorem RS.grown {W W' : World} {X b o : Nat} {n : Int} {A : Option Addr} {c : Nat} {xs : List Int} {row : Option Nat} (h : RS W X b o n A c xs) (hg : W.grownBy W' row) (hX : some X ≠ row) (hb : 0 < xs.length → some b ≠ row) : RS W' X b o n A c xs :=
  ⟨Nat.lt_of_lt_of_le h.ex hg.size, hg.cell h.c0 hX, hg.cell h.c1 hX, (h.rd.grown hg hb).more hg.size⟩
theorem RS.below {W W' : World} {X b o : Nat} {n : Int} {A : Option Addr} {c : Nat} {xs : List Int} (h : RS W X b o n A c xs) (hb : Below W.heap.size W W') : RS W' X b o n A c xs :=
  h.grown (bel_grown hb) (by simp) (by simp)
theorem RS.alloc {W : World} {X b o : Nat} {n : Int} {A : Option Addr} {c : Nat} {xs : List Int} (h : RS W X b o n A c xs) (x : Obj) : RS (W.alloc x) X b o n A c xs := h.below (by go_grown)
theorem RS.drew {W : World} {X b o : Nat} {n : Int} {A : Option Addr} {c : Nat} {xs : List Int} (h : RS W X b o n A c xs) : RS W.drew X b o n A c xs := h.below (by go_grown)
theorem rs_new {W : World} {b o : Nat} {n : Int} {A : Option Addr} {c : Nat} {xs : List Int} {t : TypeId} (hrd : IntsR W W.heap.size b o A xs) : RS (W.alloc (.cells #[.int .i64 n, .slice A xs.length c] t)) W.heap.size b o n A c xs := by
  have hb : Below W.heap.size W (W.alloc (.cells #[.int .i64 n, .slice A xs.length c] t)) := by go_grown
  exact ⟨by simp, by simp [go_sem], by simp [go_sem], (hrd.below hb).more hb.size⟩
theorem ownI_at {W : World} {base b : Nat} {A : Option Addr} {c : Nat} {xs : List Int} (h : OwnI base W (.slice A xs.length c) xs) (hr : IntsR W W.heap.size b 0 A xs) (h0 : 0 < xs.length) : base ≤ b ∧ b < W.heap.size := by
  obtain rfl := hr.addr h0
  exact h.lt b rfl

theorem szIntS_c (l : Int) (A : Option Addr) (n c : Nat) (w : World) (hl : 0 ≤ l ∧ l ≤ 1048576) (hn : n ≤ 9223372036854775807) :
    Calls Try.prog 141 #[.slice A n c, .int .i64 l] w fun e w' => e = .returned (.int .i64 (if l - n < 0 then -1 else l - n)) ∧ w = w' := by
  obtain ⟨hl0, hl1⟩ := hl
  by_cases h : l - (n : Int) < 0
  · rw [if_pos h]
    go_enter Try.func141, Try.ntmps141
    go_wp2_with fail
    go_ret
    exact ⟨rfl, rfl⟩
  · rw [if_neg h]
    go_enter Try.func141, Try.ntmps141
    go_wp2_with fail
    go_ret
    exact ⟨rfl, rfl⟩

theorem szState_c (l m : Int) (A : Option Addr) (n c : Nat) (w : World) (hl : 0 ≤ l ∧ l ≤ 1048576) (hn : n ≤ 9223372036854775807) :
    Calls Try.prog 71 #[.agg #[.int .i64 m, .slice A n c], .int .i64 l] w fun e w' => e = .returned (.int .i64 (if l - n < 0 then -1 else l - n)) ∧ Below w.heap.size w w' := by
  by_cases h : l - (n : Int) < 0
  · rw [if_pos h]
    have H : Hid ((if l - (n : Int) < 0 then -1 else l - (n : Int)) = -1) := if_pos h
    clear h
    go_enter Try.func71, Try.ntmps71
    go_wp2_with (go_at_call 141; go_fit (szIntS_c l A n c _ hl hn); rintro e w2 ⟨rfl, rfl⟩; rw [H.out])
    go_ret
    exact ⟨rfl, by go_grown⟩
  · rw [if_neg h]
    obtain ⟨r, hr⟩ : ∃ r, l - (n : Int) = r := ⟨_, rfl⟩
    have H : Hid ((if l - (n : Int) < 0 then -1 else l - (n : Int)) = r) := by rw [← hr]; exact if_neg h
    rw [hr] at h ⊢
    clear hr
    go_enter Try.func71, Try.ntmps71
    go_wp2_with (go_at_call 141; go_fit (szIntS_c l A n c _ hl hn); rintro e w2 ⟨rfl, rfl⟩; rw [H.out])
    go_ret
    exact ⟨rfl, by go_grown⟩

set_option maxHeartbeats 2000000 in
set_option maxRecDepth 100000 in
theorem toState_q (n : Int) (xs : List Int) (A : Option Addr) (b o c B : Nat) (w : World) (hl : xs.length ≤ 2000000) (hB : B ≤ w.heap.size) (hR : IntsR w B b o A xs) :
    Calls Try.prog 72 #[.agg #[.int .i64 n, .slice A xs.length c]] w fun e w' => ∃ A1 c1 g1, e = .returned (.agg #[.int .i64 n, .slice A1 xs.length c1]) ∧ IntsR w' w'.heap.size g1 0 A1 xs ∧ OwnI w.heap.size w' (.slice A1 xs.length c1) xs ∧ Below w.heap.size w w' := by
  have hP := ((rs_new (t := 82) (n := n) (c := c) (hR.more hB)).alloc (.cells #[.int .i64 0, .slice none 0 0] 70)).alloc (.cells #[.int .i64 0, .slice none 0 0] 70)
  have hBel : Below w.heap.size w (((w.alloc (.cells #[.int .i64 n, .slice A xs.length c] 82)).alloc (.cells #[.int .i64 0, .slice none 0 0] 70)).alloc (.cells #[.int .i64 0, .slice none 0 0] 70)) := by go_grown
  have hY : ZB w (((w.alloc (.cells #[.int .i64 n, .slice A xs.length c] 82)).alloc (.cells #[.int .i64 0, .slice none 0 0] 70)).alloc (.cells #[.int .i64 0, .slice none 0 0] 70)) (w.heap.size + 1) := by
    have h : ZB w ((w.alloc (.cells #[.int .i64 n, .slice A xs.length c] 82)).alloc (.cells #[.int .i64 0, .slice none 0 0] 70)) (w.alloc (.cells #[.int .i64 n, .slice A xs.length c] 82)).heap.size := zb_new (by simp)
    simp only [World.size_alloc] at h
    exact h.below (by go_grown)
  have hX : ZB w (((w.alloc (.cells #[.int .i64 n, .slice A xs.length c] 82)).alloc (.cells #[.int .i64 0, .slice none 0 0] 70)).alloc (.cells #[.int .i64 0, .slice none 0 0] 70)) (w.heap.size + 1 + 1) := by
    have h : ZB w (((w.alloc (.cells #[.int .i64 n, .slice A xs.length c] 82)).alloc (.cells #[.int .i64 0, .slice none 0 0] 70)).alloc (.cells #[.int .i64 0, .slice none 0 0] 70)) ((w.alloc (.cells #[.int .i64 n, .slice A xs.length c] 82)).alloc (.cells #[.int .i64 0, .slice none 0 0] 70)).heap.size := zb_new (by simp; omega)
    simp only [World.size_alloc] at h
    exact h
  go_enter Try.func72, Try.ntmps72
  go_upto_region 2 with fail
  generalize ((w.alloc (.cells #[.int .i64 n, .slice A xs.length c] 82)).alloc (.cells #[.int .i64 0, .slice none 0 0] 70)).alloc (.cells #[.int .i64 0, .slice none 0 0] 70) = W at hP hBel hY hX ⊢
  have hXw : w.heap.size < w.heap.size + 1 + 1 := by omega
  have hXY : w.heap.size + 1 ≠ w.heap.size + 1 + 1 := by omega
  generalize w.heap.size + 1 + 1 = X at hX hXw hXY ⊢
  generalize w.heap.size + 1 = Y at hY hXY ⊢
  have p0 := hP.c0
  have p1 := hP.c1
  have x0 := hX.z0
  have x1 := hX.z1
  have xf0 := hX.zf 0
  have xf1 := hX.zf 1
  have hb1 : Below w.heap.size w (W.setCell ⟨X, 0, none⟩ (.int .i64 n)) := hBel.setCell hX.lo _
  have hR1 : IntsR (W.setCell ⟨X, 0, none⟩ (.int .i64 n)) B b o A xs := hR.below (hb1.mono hB)
  have hY1 : ZB w (W.setCell ⟨X, 0, none⟩ (.int .i64 n)) Y := hY.grown (grown_set W ⟨X, 0, none⟩ _) (fun q hq => by cases hq; dsimp only; omega)
  have q1 : (W.setCell ⟨X, 0, none⟩ (.int .i64 n)).cell? ⟨w.heap.size, 1, none⟩ = some (.slice A xs.length c) := (World.cell?_setCell_other (h := fun e => by have := congrArg Addr.block e; dsimp only at this; omega) ..).trans p1
  have u0 : (W.setCell ⟨X, 0, none⟩ (.int .i64 n)).cell? ⟨X, 0, none⟩ = some (.int .i64 n) := World.cell?_setCell_same _ _ _ x0
  have u1 : (W.setCell ⟨X, 0, none⟩ (.int .i64 n)).cell? ⟨X, 1, none⟩ = some (.slice none 0 0) := (World.cell?_setCell_other (h := by simp) ..).trans x1
  have uf1 : (W.setCell ⟨X, 0, none⟩ (.int .i64 n)).frozen? ⟨X, 1, none⟩ = false := by rw [← xf1]; simp
  have hXl : X < (W.setCell ⟨X, 0, none⟩ (.int .i64 n)).heap.size := by simpa using hX.ex
  have hXlo := hX.lo
  go_upto_region 3 with fail
  generalize W.setCell ⟨X, 0, none⟩ (.int .i64 n) = W1 at hb1 hR1 hY1 q1 u0 u1 uf1 hXl ⊢
  clear hP hY hX p0 p1 x0 x1 xf0 xf1
  go_wp2_with (go_at_call 76; go_fit (toIntS_q A b o c B xs W1 hl (Nat.le_trans hB hb1.size) hR1); rintro e w2 ⟨A1, c1, g1, rfl, hr1, hown, hb2⟩; have hW2 : Below w.heap.size w w2 := bthen hb1 hb2; have v0 := ((bcell hb2).1 X 0 hXl).trans u0; have v1 := ((bcell hb2).1 X 1 hXl).trans u1; have vf1 := ((bcell hb2).2 X 1 hXl).trans uf1; have hY2 := hY1.below hb2; have z0 := hY2.z0; have z1 := hY2.z1; have zf0 := hY2.zf 0; have zf1 := hY2.zf 1)
  have hq : ∀ q, (Value.slice A1 xs.length c1).ownBlock = some q → W1.heap.size ≤ q := fun q h => (hown.lt q h).1
  have hYl := hY1.ex
  have hneX : (Value.slice A1 xs.length c1).ownBlock ≠ some X := fun e => by have := hq _ e; omega
  have hY3 : ZB w (w2.setCell ⟨X, 1, none⟩ (.slice A1 xs.length c1)) Y := hY2.grown (grown_set w2 ⟨X, 1, none⟩ _) (fun q hq => by cases hq; dsimp only; omega)
  obtain ⟨r0, r1, ho, hb7⟩ := hY3.finI (n := n) (hW2.setCell (p := ⟨X, 1, none⟩) hXlo _) (own_set (p := ⟨X, 1, none⟩) (own_less hown hb1.size) hneX _) (fun e => by have := hq _ e; omega)
  refine bodyPost_ret (v := .agg #[.int .i64 n, .slice A1 xs.length c1]) (by simp [results, Try.results72, go_sem, r0, r1]) rfl ?_
  obtain ⟨g, hr⟩ := own_IntsR ho
  exact ⟨_, _, g, rfl, hr, ho, hb7⟩


set_option maxHeartbeats 1000000 in
set_option maxRecDepth 100000 in
theorem eqState_yes (n : Int) (xs : List Int) (A A' : Option Addr) (b o c b' o' c' B : Nat) (w : World) (hn : xs.length ≤ 2000000) (hB : B ≤ w.heap.size) (hR : IntsR w B b o A xs) (hR' : IntsR w B b' o' A' xs) :
    Calls Try.prog 73 #[.agg #[.int .i64 n, .slice A xs.length c], .agg #[.int .i64 n, .slice A' xs.length c']] w fun e w' => e = .returned (.bool true) ∧ Below w.heap.size w w' := by
  have hW : Below w.heap.size w ((w.alloc (.cells #[.int .i64 n, .slice A xs.length c] 70)).alloc (.cells #[.int .i64 n, .slice A' xs.length c'] 70)) := by go_grown
  go_enter Try.func73, Try.ntmps73
  go_wp2_with (go_at_call 77; go_fit (eqIntS_yes xs A A' b o c b' o' c' B _ hn (Nat.le_trans hB hW.size) (hR.below (hW.mono hB)) (hR'.below (hW.mono hB))); rintro e w5 ⟨rfl, hb5⟩)
  go_ret
  exact ⟨rfl, bthen hW hb5⟩

set_option maxHeartbeats 1000000 in
set_option maxRecDepth 100000 in
theorem markState_c (n k0 : Int) (base : Nat) (A : Option Addr) (c : Nat) (xs : List Int) (w : World) (hk : 0 ≤ k0 ∧ k0 ≤ 1000000000000) (hn : xs.length ≤ 2000000) (hown : OwnI base w (.slice A xs.length c) xs) (hw : base ≤ w.heap.size) :
    Calls Try.prog 74 #[.agg #[.int .i64 n, .slice A xs.length c], .int .i64 k0] w fun e w' => e = .returned (.int .i64 (k0 + xs.length)) ∧ OwnI base w' (.slice A xs.length c) (markI k0 xs.length) ∧ w.grownBy w' (Value.slice A xs.length c).ownBlock := by
  have hown2 : OwnI base (w.alloc (.cells #[.int .i64 n, .slice A xs.length c] 70)) (.slice A xs.length c) xs := hown.alloc _
  have hG1 : w.grownBy (w.alloc (.cells #[.int .i64 n, .slice A xs.length c] 70)) (Value.slice A xs.length c).ownBlock := World.grownBy_alloc w _ _
  have hw2 : base ≤ (w.alloc (.cells #[.int .i64 n, .slice A xs.length c] 70)).heap.size := by simp; omega
  go_enter Try.func74, Try.ntmps74
  go_wp2_with (go_at_call 78; go_fit (markIntS_c k0 base A c xs _ hk hn hown2 hw2); rintro e w2 ⟨rfl, ho, hG⟩)
  go_ret
  exact ⟨rfl, ho, gr_trans hG1 hG⟩

set_option maxHeartbeats 1000000 in
set_option maxRecDepth 100000 in
theorem heldState_c (m k0 : Int) (A : Option Addr) (b o c n B : Nat) (w : World) (hk : 0 ≤ k0 ∧ k0 ≤ 1000000000000) (hn : n ≤ 2000000) (hB : B ≤ w.heap.size) (hR : IntsR w B b o A (markI k0 n)) :
    Calls Try.prog 75 #[.agg #[.int .i64 m, .slice A n c], .int .i64 k0] w fun e w' => e = .returned (.int .i64 (k0 + n)) ∧ Below w.heap.size w w' := by
  have hW : Below w.heap.size w (w.alloc (.cells #[.int .i64 m, .slice A n c] 70)) := by go_grown
  have h0 : ¬ k0 + (n : Int) < 0 := by omega
  go_enter Try.func75, Try.ntmps75
  go_wp2_with (go_at_call 142; go_fit (heldIntS_c k0 A b o c n B _ hk hn (hR.below (hW.mono hB))); rintro e w2 ⟨rfl, rfl⟩)
  go_ret
  exact ⟨rfl, hW⟩
end Go.Proofs.Ytjlaljnffmncpaa
