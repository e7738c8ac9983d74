/-
  impl: DoAt.
-/
import Derived.Test.YtjlaljnffmncpaaL15
namespace Go.Proofs.Ytjlaljnffmncpaa
set_option linter.unusedVariables false
set_option linter.unusedSimpArgs false
open Go.RowKit Pp

theorem own_setI {base : Nat} {w : World} {g c k : Nat} {xs : List Int} (v : Int) (h : OwnI base w (.slice (some ⟨g, 0, none⟩) xs.length c) xs) (hk : k < xs.length) :
    OwnI base (w.setCell ⟨g, k, none⟩ (.int .i64 v)) (.slice (some ⟨g, 0, none⟩) (xs.set k v).length c) (xs.set k v) ∧ w.cell? ⟨g, k, none⟩ = some (.int .i64 (xs.getD k 0)) ∧ w.frozen? ⟨g, k, none⟩ = false := by
  obtain ⟨f, hf, hx, hb, hnc, hcm⟩ := own_row h
  have hk1 : k < c * 1 := by omega
  have hl : (xs.set k v).length = xs.length := List.length_set
  refine ⟨?_, ?_, hf.frozen k⟩
  · have h2 := row_own (n := xs.length) (base := base) (size := 1) (xs := (xs.set k v).map (Value.int .i64)) (hf.set k (.int .i64 v)) (fun j hj => ?_) (by simp) hb hnc hcm
    · unfold OwnI; rw [hl]; exact h2
    · rw [List.getElem?_map, List.getElem?_set]
      by_cases e : k = j
      · subst e; rw [if_pos rfl, if_pos hk, if_pos rfl]; rfl
      · rw [if_neg e, if_neg (fun e' => e e'.symm), ← List.getElem?_map]; exact hx j hj
  · rw [hf.cell hk1]
    have := hx k (by omega)
    rw [List.getElem?_map, List.getElem?_eq_getElem hk] at this
    rw [List.getD_eq_getElem?_getD, List.getElem?_eq_getElem hk]
    simp at this
    rw [← this]; rfl

/-- A state of the call's own in a box of the call's own. -/
structure OS (Bs : Nat) (W : World) (Z g : Nat) (now : Int) (A : Option Addr) (c : Nat) (xs : List Int) : Prop where
  lo : Bs ≤ Z
  rs : RS W Z g 0 now A c xs
  fz : ∀ i, W.frozen? ⟨Z, i, none⟩ = false
  own : OwnI Bs W (.slice A xs.length c) xs
  ne : (Value.slice A xs.length c).ownBlock ≠ some Z
section
variable {Bs : Nat} {W W' : World} {Z g : Nat} {now : Int} {A : Option Addr} {c : Nat} {xs : List Int}
theorem OS.below (h : OS Bs W Z g now A c xs) (hb : Below W.heap.size W W') : OS Bs W' Z g now A c xs :=
  ⟨h.lo, h.rs.below hb, fun i => ((bcell hb).2 _ _ h.rs.ex).trans (h.fz i), own_below h.own hb, h.ne⟩
theorem os_new {t : TypeId} (hB : Bs ≤ W.heap.size) (hr : IntsR W W.heap.size g 0 A xs) (ho : OwnI Bs W (.slice A xs.length c) xs) :
    OS Bs (W.alloc (.cells #[.int .i64 now, .slice A xs.length c] t)) W.heap.size g now A c xs ∧ Below W.heap.size W (W.alloc (.cells #[.int .i64 now, .slice A xs.length c] t)) := by
  have hb : Below W.heap.size W (W.alloc (.cells #[.int .i64 now, .slice A xs.length c] t)) := by go_grown
  have hne : (Value.slice A xs.length c).ownBlock ≠ some W.heap.size := fun e => by have := ho.lt _ e; omega
  exact ⟨⟨hB, rs_new hr, fun i => by simp [go_sem], own_below ho hb, hne⟩, hb⟩
theorem OS.put {k : Nat} {v : Int} (h : OS Bs W Z g now A c xs) (hk : k < xs.length) : A = some ⟨g, 0, none⟩ ∧
    W.frozen? ⟨Z, 0, none⟩ = false ∧
    (W.setCell ⟨Z, 0, none⟩ (.int .i64 v)).cell? ⟨g, k, none⟩ = some (.int .i64 (xs.getD k 0)) ∧ (W.setCell ⟨Z, 0, none⟩ (.int .i64 v)).frozen? ⟨g, k, none⟩ = false ∧
    ((W.setCell ⟨Z, 0, none⟩ (.int .i64 v)).setCell ⟨g, k, none⟩ (.int .i64 v)).cell? ⟨Z, 0, none⟩ = some (.int .i64 v) ∧
    ((W.setCell ⟨Z, 0, none⟩ (.int .i64 v)).setCell ⟨g, k, none⟩ (.int .i64 v)).cell? ⟨Z, 1, none⟩ = some (.slice A xs.length c) ∧
    OwnI Bs ((W.setCell ⟨Z, 0, none⟩ (.int .i64 v)).setCell ⟨g, k, none⟩ (.int .i64 v)) (.slice A (xs.set k v).length c) (xs.set k v) ∧ Bs ≤ g := by
  have hA := h.rs.rd.addr (by omega)
  have hg : Bs ≤ g := by have := h.own; rw [hA] at this; exact (this.lt g rfl).1
  have hgZ : g ≠ Z := by have := h.ne; rw [hA] at this; intro e; exact this (by rw [e]; rfl)
  have o1 : OwnI Bs (W.setCell ⟨Z, 0, none⟩ (.int .i64 v)) (.slice A xs.length c) xs := own_set h.own h.ne _
  rw [hA] at o1
  obtain ⟨o2, c2, f2⟩ := own_setI v o1 hk
  refine ⟨hA, h.fz 0, c2, f2, ?_, ?_, by rw [hA]; exact o2, hg⟩
  · rw [World.cell?_setCell_other _ _ _ _ (by intro e; injection e with e; exact hgZ e)]
    exact World.cell?_setCell_same _ _ _ h.rs.c0
  · rw [World.cell?_setCell_other _ _ _ _ (by intro e; injection e with e; exact hgZ e), World.cell?_setCell_other _ _ _ _ (by simp)]
    exact h.rs.c1
end

set_option maxHeartbeats 4000000 in
set_option maxRecDepth 100000 in
theorem doAt_c (p : Pl) (s : St) (pt t : Int) (q : St) (r : Bool) (hq : doAt p s pt t = (q, r)) (A A' : Option Addr) (b o c b' o' c' B : Nat) (w : World) (hn : p.bs.length ≤ 2000000) (hn' : s.done.length ≤ 2000000) (hB : B ≤ w.heap.size) (hR : BdsR w B b o A p.bs) (hR' : IntsR w B b' o' A' s.done) :
    Calls Try.prog 61 #[.agg #[.int .i64 p.n, .slice A p.bs.length c], .agg #[.int .i64 s.now, .slice A' s.done.length c'], .int .i64 pt, .int .i64 t] w fun e w' =>
      ∃ A1 c1 g1, e = .returned (.tuple #[.agg #[.int .i64 q.now, .slice A1 q.done.length c1], .bool r]) ∧ IntsR w' w'.heap.size g1 0 A1 q.done ∧ OwnI w.heap.size w' (.slice A1 q.done.length c1) q.done ∧ Below w.heap.size w w' := by
  have hD0 := db_new (t := 25) (t' := 70) (n := p.n) (now := s.now) (c := c) (c' := c') hB hR hR'
  have hD := hD0.alloc (.cells #[.int .i64 0, .slice none 0 0] 70)
  have hZ : ZB w (((w.alloc (.cells #[.int .i64 p.n, .slice A p.bs.length c] 25)).alloc (.cells #[.int .i64 s.now, .slice A' s.done.length c'] 70)).alloc (.cells #[.int .i64 0, .slice none 0 0] 70)) (w.heap.size + 1 + 1) := by
    have h := zb_new (w0 := w) (W := (w.alloc (.cells #[.int .i64 p.n, .slice A p.bs.length c] 25)).alloc (.cells #[.int .i64 s.now, .slice A' s.done.length c'] 70)) (t := 70) hD0.bel.size
    simp only [World.size_alloc] at h
    exact h
  clear hR hR' hD0
  cases h1 : stateOk p s
  · have e : doAt p s pt t = (⟨0, []⟩, false) := by unfold doAt; rw [h1]; rfl
    rw [e] at hq
    injection hq with e1 e2
    subst e1 e2
    have H1 := hide h1
    clear h1 e
    go_enter Try.func61, Try.ntmps61
    go_upto_region 1 with fail
    generalize ((w.alloc (.cells #[.int .i64 p.n, .slice A p.bs.length c] 25)).alloc (.cells #[.int .i64 s.now, .slice A' s.done.length c'] 70)).alloc (.cells #[.int .i64 0, .slice none 0 0] 70) = W at hD hZ ⊢
    have p0 := hD.p.c0
    have p1 := hD.p.c1
    have s0 := hD.s.c0
    have s1 := hD.s.c1
    generalize w.heap.size + 1 + 1 = Y at hZ ⊢
    go_wp2_with (go_at_call 64; go_fit (stateOk_c p s A A' b o c b' o' c' _ _ hn hn' (Nat.le_refl _) hD.p.rd hD.s.rd); rintro e w2 ⟨rfl, hb2⟩; rw [H1.out]; replace hD := hD.below hb2; clear p0 p1 s0 s1; have p0 := hD.p.c0; have p1 := hD.p.c1; have s0 := hD.s.c0; have s1 := hD.s.c1; replace hZ := hZ.below hb2; have z0 := hZ.z0; have z1 := hZ.z1; have zf0 := hZ.zf 0; have zf1 := hZ.zf 1)
    obtain ⟨r0, r1, ho, hb7⟩ := hZ.finI (n := 0) (A := none) (c := 0) (xs := []) hD.bel (World.ownsRow_nil _ _ _ _) (by simp [Value.ownBlock])
    simp only [List.length_nil] at r0 r1 ho hb7
    refine bodyPost_ret (v := .tuple #[.agg #[.int .i64 0, .slice none 0 0], .bool false]) (by simp [results, Try.results61, go_sem, r0, r1]) rfl ?_
    exact ⟨none, 0, 0, rfl, IntsR.nil _ _ _, ho, hb7⟩
  · have hs := stateOk_iff.1 h1
    obtain ⟨lo, hlo⟩ : ∃ x, (window p s pt).1 = x := ⟨_, rfl⟩
    obtain ⟨hi, hhi⟩ : ∃ x, (window p s pt).2.1 = x := ⟨_, rfl⟩
    obtain ⟨ok, hok⟩ : ∃ x, (window p s pt).2.2 = x := ⟨_, rfl⟩
    obtain ⟨rd, hrd⟩ : ∃ x, isReady p s pt = x := ⟨_, rfl⟩
    obtain ⟨dl, hdl⟩ : ∃ x, deadline p s = x := ⟨_, rfl⟩
    obtain ⟨iw, hiw⟩ : ∃ x, inB t lo hi = x := ⟨_, rfl⟩
    have hokrd : rd = true → ok = true := by
      intro h
      rw [← hok]
      have h2 : openB s.done pt = true := by rw [h] at hrd; unfold isReady at hrd; rw [Bool.and_eq_true, Bool.and_eq_true] at hrd; exact hrd.1.2
      rw [window_yes h1 h2]
    have hm : mayDo p s pt t = (rd && iw && decide (t ≤ dl) && decide (t ≤ 2000)) := by unfold mayDo; rw [hlo, hhi, hrd, hdl, hiw]
    have hop : rd = true → 0 ≤ pt ∧ pt < s.done.length := by
      intro h
      have h2 : openB s.done pt = true := by rw [h] at hrd; unfold isReady at hrd; rw [Bool.and_eq_true, Bool.and_eq_true] at hrd; exact hrd.1.2
      exact (openB_iff.1 h2).1
    unfold doAt at hq
    rw [h1, if_pos rfl, hm] at hq
    have H1 := hide h1
    have Hlo := hide hlo
    have Hhi := hide hhi
    have Hok := hide hok
    have Hrd := hide hrd
    have Hdl := hide hdl
    have Hiw := hide hiw
    clear h1 hlo hhi hok hrd hdl hiw hm
    have hYs : w.heap.size + 1 + 1 < (((w.alloc (.cells #[.int .i64 p.n, .slice A p.bs.length c] 25)).alloc (.cells #[.int .i64 s.now, .slice A' s.done.length c'] 70)).alloc (.cells #[.int .i64 0, .slice none 0 0] 70)).heap.size := by simp
    go_enter Try.func61, Try.ntmps61
    go_upto_region 1 with fail
    generalize ((w.alloc (.cells #[.int .i64 p.n, .slice A p.bs.length c] 25)).alloc (.cells #[.int .i64 s.now, .slice A' s.done.length c'] 70)).alloc (.cells #[.int .i64 0, .slice none 0 0] 70) = W at hD hZ hYs ⊢
    have p0 := hD.p.c0
    have p1 := hD.p.c1
    have s0 := hD.s.c0
    have s1 := hD.s.c1
    have hYw : w.heap.size + 1 < w.heap.size + 1 + 1 := by omega
    generalize w.heap.size + 1 + 1 = Y at hZ hYs hYw ⊢
    go_upto_region 5 with (first
      | (go_at_call 64; go_fit (stateOk_c p s A A' b o c b' o' c' _ _ hn hn' (Nat.le_refl _) hD.p.rd hD.s.rd); rintro e w2 ⟨rfl, hb2⟩; rw [H1.out]; replace hD := hD.below hb2; clear p0 p1 s0 s1; have p0 := hD.p.c0; have p1 := hD.p.c1; have s0 := hD.s.c0; have s1 := hD.s.c1; replace hZ := hZ.below hb2)
      | (go_at_call 128; go_fit (windowOf_c p s pt A A' b o c b' o' c' _ _ hn hn' (Nat.le_refl _) hD.p.rd hD.s.rd); rintro e w3 ⟨rfl, hb3⟩; rw [Hlo.out, Hhi.out, Hok.out]; replace hD := hD.below hb3; clear p0 p1 s0 s1; have p0 := hD.p.c0; have p1 := hD.p.c1; have s0 := hD.s.c0; have s1 := hD.s.c1; replace hZ := hZ.below hb3)
      | (go_at_call 129; go_fit (stClone_c s.now s.done A' b' o' c' _ _ hn' (Nat.le_refl _) hD.s.rd); rintro e w4 ⟨A1, c1, rfl, hown1, hb4⟩; replace hD := hD.below hb4; clear p0 p1 s0 s1; have p0 := hD.p.c0; have p1 := hD.p.c1; have s0 := hD.s.c0; have s1 := hD.s.c1; replace hZ := hZ.below hb4))
    obtain ⟨g, hr1⟩ := own_IntsR hown1
    have hw3 : Y < w3.heap.size := by have h := hb2.size; have h' := hb3.size; omega
    have hw34 : w3.heap.size ≤ w4.heap.size := hb4.size
    generalize w3.heap.size = Bs at hown1 hw3 hw34
    obtain ⟨hO, hbO⟩ := os_new (t := 70) (now := s.now) hw34 hr1 hown1
    clear p0 p1 s0 s1 hb2 hb3 hb4 hown1 hr1
    replace hD := hD.below hbO
    replace hZ := hZ.below hbO
    have hZ4 : Bs ≤ w4.heap.size := hw34
    generalize w4.alloc (.cells #[.int .i64 s.now, .slice A1 s.done.length c1] 70) = W5 at hD hZ hO ⊢
    clear hbO hw34
    generalize w4.heap.size = Z at hO hZ4 ⊢
    have p0 := hD.p.c0
    have p1 := hD.p.c1
    have s0 := hD.s.c0
    have s1 := hD.s.c1
    have o0 := hO.rs.c0
    have o1 := hO.rs.c1
    have z0 := hZ.z0
    have z1 := hZ.z1
    have zf0 := hZ.zf 0
    have zf1 := hZ.zf 1
    have hBw : w.heap.size ≤ Bs := by omega
    have hneY : (Value.slice A1 s.done.length c1).ownBlock ≠ some Y := fun e => by have := hO.own.lt _ e; omega
    cases hrd : rd
    · subst hrd
      simp only [Bool.false_and, Bool.false_eq_true, if_false] at hq
      injection hq with e1 e2
      subst e1 e2
      cases ok
      · go_wp2_with fail
        obtain ⟨r0, r1, ho, hb9⟩ := hZ.finI (n := s.now) (A := A1) (c := c1) (xs := s.done) hD.bel (own_less hO.own hBw) hneY
        refine bodyPost_ret (v := .tuple #[.agg #[.int .i64 s.now, .slice A1 s.done.length c1], .bool false]) (by simp [results, Try.results61, go_sem, r0, r1]) rfl ?_
        obtain ⟨g9, hr9⟩ := own_IntsR ho
        exact ⟨_, _, g9, rfl, hr9, ho, hb9⟩
      · go_wp2_with (go_at_call 130; go_fit (readyOk_c p s _ A A' b o c b' o' c' _ _ hn hn' (Nat.le_refl _) hD.p.rd hD.s.rd); rintro e w6 ⟨rfl, hb6⟩; rw [Hrd.out]; replace hD := hD.below hb6; clear p0 p1 s0 s1; have p0 := hD.p.c0; have p1 := hD.p.c1; have s0 := hD.s.c0; have s1 := hD.s.c1; replace hZ := hZ.below hb6; replace hO := hO.below hb6; clear o0 o1 z0 z1 zf0 zf1; have o0 := hO.rs.c0; have o1 := hO.rs.c1; have z0 := hZ.z0; have z1 := hZ.z1; have zf0 := hZ.zf 0; have zf1 := hZ.zf 1)
        obtain ⟨r0, r1, ho, hb9⟩ := hZ.finI (n := s.now) (A := A1) (c := c1) (xs := s.done) hD.bel (own_less hO.own hBw) hneY
        refine bodyPost_ret (v := .tuple #[.agg #[.int .i64 s.now, .slice A1 s.done.length c1], .bool false]) (by simp [results, Try.results61, go_sem, r0, r1]) rfl ?_
        obtain ⟨g9, hr9⟩ := own_IntsR ho
        exact ⟨_, _, g9, rfl, hr9, ho, hb9⟩
    · subst hrd
      have hok := hokrd rfl
      subst hok
      cases hiw : iw
      · subst hiw
        simp only [Bool.and_false, Bool.false_and, Bool.false_eq_true, if_false] at hq
        injection hq with e1 e2
        subst e1 e2
        go_wp2_with (first
          | (go_at_call 130; go_fit (readyOk_c p s _ A A' b o c b' o' c' _ _ hn hn' (Nat.le_refl _) hD.p.rd hD.s.rd); rintro e w6 ⟨rfl, hb6⟩; rw [Hrd.out]; replace hD := hD.below hb6; clear p0 p1 s0 s1; have p0 := hD.p.c0; have p1 := hD.p.c1; have s0 := hD.s.c0; have s1 := hD.s.c1; replace hZ := hZ.below hb6; replace hO := hO.below hb6; clear o0 o1 z0 z1 zf0 zf1; have o0 := hO.rs.c0; have o1 := hO.rs.c1; have z0 := hZ.z0; have z1 := hZ.z1; have zf0 := hZ.zf 0; have zf1 := hZ.zf 1)
          | (go_at_call 93; go_fit (in_c t lo hi _); rintro e w0 ⟨rfl, rfl⟩; rw [Hiw.out]))
        obtain ⟨r0, r1, ho, hb9⟩ := hZ.finI (n := s.now) (A := A1) (c := c1) (xs := s.done) hD.bel (own_less hO.own hBw) hneY
        refine bodyPost_ret (v := .tuple #[.agg #[.int .i64 s.now, .slice A1 s.done.length c1], .bool false]) (by simp [results, Try.results61, go_sem, r0, r1]) rfl ?_
        obtain ⟨g9, hr9⟩ := own_IntsR ho
        exact ⟨_, _, g9, rfl, hr9, ho, hb9⟩
      · subst hiw
        by_cases hd : t ≤ dl
        · by_cases h2 : t ≤ 2000
          · obtain ⟨q1, q2⟩ := hop rfl
            obtain ⟨k, rfl⟩ : ∃ k : Nat, pt = (k : Int) := ⟨pt.toNat, by omega⟩
            have hk : k < s.done.length := by omega
            rw [decide_eq_true hd, decide_eq_true h2, Int.toNat_natCast] at hq
            simp only [Bool.and_self, if_true] at hq
            obtain ⟨ys, hys⟩ : ∃ ys, s.done.set k t = ys := ⟨_, rfl⟩
            have Hlen : Hid (ys.length = s.done.length) := by rw [← hys]; exact List.length_set
            have Hys := hide hys
            rw [hys] at hq
            clear hys
            injection hq with e1 e2
            subst e1 e2
            go_upto_region 7 with (first
              | (go_at_call 130; go_fit (readyOk_c p s _ A A' b o c b' o' c' _ _ hn hn' (Nat.le_refl _) hD.p.rd hD.s.rd); rintro e w6 ⟨rfl, hb6⟩; rw [Hrd.out]; replace hD := hD.below hb6; clear p0 p1 s0 s1; have p0 := hD.p.c0; have p1 := hD.p.c1; have s0 := hD.s.c0; have s1 := hD.s.c1; replace hZ := hZ.below hb6; replace hO := hO.below hb6; clear o0 o1 z0 z1 zf0 zf1; have o0 := hO.rs.c0; have o1 := hO.rs.c1; have z0 := hZ.z0; have z1 := hZ.z1; have zf0 := hZ.zf 0; have zf1 := hZ.zf 1)
              | (go_at_call 93; go_fit (in_c t lo hi _); rintro e w0 ⟨rfl, rfl⟩; rw [Hiw.out])
              | (go_at_call 131; go_fit (deadlineOf_c p s A A' b o c b' o' c' _ _ hn hn' (Nat.le_refl _) hD.p.rd hD.s.rd); rintro e w7 ⟨rfl, hb7⟩; rw [Hdl.out]; replace hD := hD.below hb7; clear p0 p1 s0 s1; have p0 := hD.p.c0; have p1 := hD.p.c1; have s0 := hD.s.c0; have s1 := hD.s.c1; replace hZ := hZ.below hb7; replace hO := hO.below hb7; clear o0 o1 z0 z1 zf0 zf1; have o0 := hO.rs.c0; have o1 := hO.rs.c1; have z0 := hZ.z0; have z1 := hZ.z1; have zf0 := hZ.zf 0; have zf1 := hZ.zf 1))
            obtain ⟨hA, f0, c2, f2, e0, e1, ho2, hBg⟩ := hO.put (k := k) (v := t) hk
            subst hA
            clear p0 p1 s0 s1
            have hb9 : Below w.heap.size w ((w7.setCell ⟨Z, 0, none⟩ (.int .i64 t)).setCell ⟨g, k, none⟩ (.int .i64 t)) := (hD.bel.setCell (p := ⟨Z, 0, none⟩) (Nat.le_trans hBw hO.lo) _).setCell (p := ⟨g, k, none⟩) (Nat.le_trans hBw hBg) _
            have hZ9 : ZB w ((w7.setCell ⟨Z, 0, none⟩ (.int .i64 t)).setCell ⟨g, k, none⟩ (.int .i64 t)) Y :=
              (hZ.grown (grown_set w7 ⟨Z, 0, none⟩ _) (fun q hq => by cases hq; have := hO.lo; dsimp only; omega)).grown (grown_set _ ⟨g, k, none⟩ _) (fun q hq => by cases hq; dsimp only; omega)
            clear z0 z1 zf0 zf1
            have y0 := hZ9.z0
            have y1 := hZ9.z1
            have yf0 := hZ9.zf 0
            have yf1 := hZ9.zf 1
            rw [Hys.out, Hlen.out] at ho2
            obtain ⟨r0, r1, ho, hb7⟩ := hZ9.finI (n := t) (A := some ⟨g, 0, none⟩) (c := c1) (xs := ys) hb9 (by rw [Hlen.out]; exact own_less ho2 hBw) (by rw [Hlen.out]; exact hneY)
            rw [Hlen.out] at r0 r1 ho hb7
            have Hho := hide ho
            clear ho ho2
            go_wp2_with fail
            refine bodyPost_ret (v := .tuple #[.agg #[.int .i64 t, .slice (some ⟨g, 0, none⟩) s.done.length c1], .bool true]) (by simp [results, Try.results61, go_sem, r0, r1]) rfl ?_
            have ho := Hho.out
            rw [← Hlen.out] at ho hb7 ⊢
            obtain ⟨g9, hr9⟩ := own_IntsR ho
            first | exact ⟨some ⟨g, 0, none⟩, c1, g9, rfl, hr9, ho, hb7⟩ | exact ⟨some ⟨g, 0, none⟩, c1, rfl, ⟨g9, hr9⟩, ho, hb7⟩
          · rw [decide_eq_false h2] at hq
            simp only [Bool.and_false, Bool.false_eq_true, if_false] at hq
            injection hq with e1 e2
            subst e1 e2
            go_wp2_with (first
              | (go_at_call 130; go_fit (readyOk_c p s _ A A' b o c b' o' c' _ _ hn hn' (Nat.le_refl _) hD.p.rd hD.s.rd); rintro e w6 ⟨rfl, hb6⟩; rw [Hrd.out]; replace hD := hD.below hb6; clear p0 p1 s0 s1; have p0 := hD.p.c0; have p1 := hD.p.c1; have s0 := hD.s.c0; have s1 := hD.s.c1; replace hZ := hZ.below hb6; replace hO := hO.below hb6; clear o0 o1 z0 z1 zf0 zf1; have o0 := hO.rs.c0; have o1 := hO.rs.c1; have z0 := hZ.z0; have z1 := hZ.z1; have zf0 := hZ.zf 0; have zf1 := hZ.zf 1)
              | (go_at_call 93; go_fit (in_c t lo hi _); rintro e w0 ⟨rfl, rfl⟩; rw [Hiw.out])
              | (go_at_call 131; go_fit (deadlineOf_c p s A A' b o c b' o' c' _ _ hn hn' (Nat.le_refl _) hD.p.rd hD.s.rd); rintro e w7 ⟨rfl, hb7⟩; rw [Hdl.out]; replace hD := hD.below hb7; clear p0 p1 s0 s1; have p0 := hD.p.c0; have p1 := hD.p.c1; have s0 := hD.s.c0; have s1 := hD.s.c1; replace hZ := hZ.below hb7; replace hO := hO.below hb7; clear o0 o1 z0 z1 zf0 zf1; have o0 := hO.rs.c0; have o1 := hO.rs.c1; have z0 := hZ.z0; have z1 := hZ.z1; have zf0 := hZ.zf 0; have zf1 := hZ.zf 1))
            obtain ⟨r0, r1, ho, hb9⟩ := hZ.finI (n := s.now) (A := A1) (c := c1) (xs := s.done) hD.bel (own_less hO.own hBw) hneY
            refine bodyPost_ret (v := .tuple #[.agg #[.int .i64 s.now, .slice A1 s.done.length c1], .bool false]) (by simp [results, Try.results61, go_sem, r0, r1]) rfl ?_
            obtain ⟨g9, hr9⟩ := own_IntsR ho
            exact ⟨_, _, g9, rfl, hr9, ho, hb9⟩
        · rw [decide_eq_false hd] at hq
          simp only [Bool.and_false, Bool.false_and, Bool.false_eq_true, if_false] at hq
          injection hq with e1 e2
          subst e1 e2
          go_wp2_with (first
            | (go_at_call 130; go_fit (readyOk_c p s _ A A' b o c b' o' c' _ _ hn hn' (Nat.le_refl _) hD.p.rd hD.s.rd); rintro e w6 ⟨rfl, hb6⟩; rw [Hrd.out]; replace hD := hD.below hb6; clear p0 p1 s0 s1; have p0 := hD.p.c0; have p1 := hD.p.c1; have s0 := hD.s.c0; have s1 := hD.s.c1; replace hZ := hZ.below hb6; replace hO := hO.below hb6; clear o0 o1 z0 z1 zf0 zf1; have o0 := hO.rs.c0; have o1 := hO.rs.c1; have z0 := hZ.z0; have z1 := hZ.z1; have zf0 := hZ.zf 0; have zf1 := hZ.zf 1)
            | (go_at_call 93; go_fit (in_c t lo hi _); rintro e w0 ⟨rfl, rfl⟩; rw [Hiw.out])
            | (go_at_call 131; go_fit (deadlineOf_c p s A A' b o c b' o' c' _ _ hn hn' (Nat.le_refl _) hD.p.rd hD.s.rd); rintro e w7 ⟨rfl, hb7⟩; rw [Hdl.out]; replace hD := hD.below hb7; clear p0 p1 s0 s1; have p0 := hD.p.c0; have p1 := hD.p.c1; have s0 := hD.s.c0; have s1 := hD.s.c1; replace hZ := hZ.below hb7; replace hO := hO.below hb7; clear o0 o1 z0 z1 zf0 zf1; have o0 := hO.rs.c0; have o1 := hO.rs.c1; have z0 := hZ.z0; have z1 := hZ.z1; have zf0 := hZ.zf 0; have zf1 := hZ.zf 1))
          obtain ⟨r0, r1, ho, hb9⟩ := hZ.finI (n := s.now) (A := A1) (c := c1) (xs := s.done) hD.bel (own_less hO.own hBw) hneY
          refine bodyPost_ret (v := .tuple #[.agg #[.int .i64 s.now, .slice A1 s.done.length c1], .bool false]) (by simp [results, Try.results61, go_sem, r0, r1]) rfl ?_
          obtain ⟨g9, hr9⟩ := own_IntsR ho
          exact ⟨_, _, g9, rfl, hr9, ho, hb9⟩
end Go.Proofs.Ytjlaljnffmncpaa
