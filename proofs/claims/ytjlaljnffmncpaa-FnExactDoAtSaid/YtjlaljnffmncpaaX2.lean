/-
  The law of ExactDoAt: its walk.
-/
import Derived.Test.YtjlaljnffmncpaaE4
import Derived.Test.YtjlaljnffmncpaaS10
namespace Go.Proofs.Ytjlaljnffmncpaa
set_option linter.unusedVariables false
set_option linter.unusedSimpArgs false
open Go.RowKit Pp

theorem zb_1 {w W W' : World} {t : TypeId} (hb : Below (W.alloc (.cells #[.int .i64 0, .slice none 0 0] t)).heap.size (W.alloc (.cells #[.int .i64 0, .slice none 0 0] t)) W') (h : w.heap.size ≤ W.heap.size) : ZB w W' W.heap.size := (zb_new (t := t) h).below hb
theorem zb_2 {w W W' : World} {t : TypeId} (hb : Below (W.alloc (.cells #[.int .i64 0, .slice none 0 0] t)).drew.heap.size (W.alloc (.cells #[.int .i64 0, .slice none 0 0] t)).drew W') (h : w.heap.size ≤ W.heap.size) : ZB w W' W.heap.size := (zb_new (t := t) h).drew.below hb
theorem zb_3 {w W W' : World} {t : TypeId} (hb : Below (W.drew.alloc (.cells #[.int .i64 0, .slice none 0 0] t)).heap.size (W.drew.alloc (.cells #[.int .i64 0, .slice none 0 0] t)) W') (h : w.heap.size ≤ W.heap.size) : ZB w W' W.heap.size := (zb_new (W := W.drew) (t := t) h).below hb
theorem put_rel {w W : World} {X b o c b' o' c' g c3 : Nat} {n now v : Int} {A A' A3 : Option Addr} {bs : List Bd} {xs ys : List Int} (hW : Below w.heap.size w W) (hA : RP W w.heap.size b o n A c bs) (hS : RS W (w.heap.size + 1) b' o' now A' c' xs)
    (hlA : 0 < bs.length → b < w.heap.size) (hlS : 0 < xs.length → b' < w.heap.size) (hz : ZB w W X) (hX : w.heap.size + 1 < X) (hr : IntsR W W.heap.size g 0 A3 ys) (hg : 0 < ys.length → g ≠ X) :
    Below w.heap.size w ((W.setCell ⟨X, 0, none⟩ (.int .i64 v)).setCell ⟨X, 1, none⟩ (.slice A3 ys.length c3)) ∧ RP ((W.setCell ⟨X, 0, none⟩ (.int .i64 v)).setCell ⟨X, 1, none⟩ (.slice A3 ys.length c3)) w.heap.size b o n A c bs ∧
    RS ((W.setCell ⟨X, 0, none⟩ (.int .i64 v)).setCell ⟨X, 1, none⟩ (.slice A3 ys.length c3)) (w.heap.size + 1) b' o' now A' c' xs ∧ RS ((W.setCell ⟨X, 0, none⟩ (.int .i64 v)).setCell ⟨X, 1, none⟩ (.slice A3 ys.length c3)) X g 0 v A3 c3 ys ∧ w.heap.size + 1 < X := by
  obtain ⟨r0, r1⟩ := two_cells (a := .int .i64 v) (b := .slice A3 ys.length c3) hz.z0 hz.z1
  have hG : W.grownBy ((W.setCell ⟨X, 0, none⟩ (.int .i64 v)).setCell ⟨X, 1, none⟩ (.slice A3 ys.length c3)) (some X) := gr_trans (grown_set W ⟨X, 0, none⟩ _) (grown_set _ ⟨X, 1, none⟩ _)
  refine ⟨(hW.setCell hz.lo _).setCell hz.lo _, hA.grown hG (fun e => by injection e; omega) (fun h e => by injection e with e; have := hlA h; omega), hS.grown hG (fun e => by injection e; omega) (fun h e => by injection e with e; have := hlS h; omega), ⟨by simpa using hz.ex, r0, r1, (hr.grown hG (fun h e => by injection e with e; exact hg h e)).more hG.size⟩, hX⟩
theorem new_rel {w W : World} {b o c b' o' c' g c3 : Nat} {n now v : Int} {A A' A3 : Option Addr} {bs : List Bd} {xs ys : List Int} {t : TypeId} (hW : Below w.heap.size w W) (hA : RP W w.heap.size b o n A c bs) (hS : RS W (w.heap.size + 1) b' o' now A' c' xs)
    (hX : w.heap.size + 1 + 1 ≤ W.heap.size) (hr : IntsR W W.heap.size g 0 A3 ys) :
    Below w.heap.size w (W.alloc (.cells #[.int .i64 v, .slice A3 ys.length c3] t)) ∧ RP (W.alloc (.cells #[.int .i64 v, .slice A3 ys.length c3] t)) w.heap.size b o n A c bs ∧
    RS (W.alloc (.cells #[.int .i64 v, .slice A3 ys.length c3] t)) (w.heap.size + 1) b' o' now A' c' xs ∧ RS (W.alloc (.cells #[.int .i64 v, .slice A3 ys.length c3] t)) W.heap.size g 0 v A3 c3 ys ∧ w.heap.size + 1 < W.heap.size :=
  ⟨bthen hW (by go_grown), hA.alloc _, hS.alloc _, rs_new hr, hX⟩
theorem put_rel2 {w0 w W : World} {X g c3 : Nat} {v : Int} {A3 : Option Addr} {ys : List Int} (hV : Below w0.heap.size w0 W) (hXv : w0.heap.size ≤ X) (hz : ZB w W X) (hr : IntsR W W.heap.size g 0 A3 ys) (hg : 0 < ys.length → g ≠ X) :
    Below w0.heap.size w0 ((W.setCell ⟨X, 0, none⟩ (.int .i64 v)).setCell ⟨X, 1, none⟩ (.slice A3 ys.length c3)) ∧ RS ((W.setCell ⟨X, 0, none⟩ (.int .i64 v)).setCell ⟨X, 1, none⟩ (.slice A3 ys.length c3)) X g 0 v A3 c3 ys := by
  obtain ⟨r0, r1⟩ := two_cells (a := .int .i64 v) (b := .slice A3 ys.length c3) hz.z0 hz.z1
  have hG : W.grownBy ((W.setCell ⟨X, 0, none⟩ (.int .i64 v)).setCell ⟨X, 1, none⟩ (.slice A3 ys.length c3)) (some X) := gr_trans (grown_set W ⟨X, 0, none⟩ _) (grown_set _ ⟨X, 1, none⟩ _)
  exact ⟨(hV.setCell hXv _).setCell hXv _, ⟨by simpa using hz.ex, r0, r1, (hr.grown hG (fun h e => by injection e with e; exact hg h e)).more hG.size⟩⟩
theorem new_rel2 {w0 W : World} {g c3 : Nat} {v : Int} {A3 : Option Addr} {ys : List Int} {t : TypeId} (hV : Below w0.heap.size w0 W) (hr : IntsR W W.heap.size g 0 A3 ys) :
    Below w0.heap.size w0 (W.alloc (.cells #[.int .i64 v, .slice A3 ys.length c3] t)) ∧ RS (W.alloc (.cells #[.int .i64 v, .slice A3 ys.length c3] t)) W.heap.size g 0 v A3 c3 ys :=
  ⟨bthen hV (by go_grown), rs_new hr⟩
theorem drew_bel (w : World) : Below w.heap.size w w.drew := by go_grown
theorem ownI_kept {W W' : World} {base k0 k1 j0 j1 c : Nat} {A : Option Addr} {xs : List Int} {v : Value} (h : OwnI base W (.slice A xs.length c) xs) (hG : W.grownBy W' v.ownBlock) (hv : ∀ k, v.ownBlock = some k → k0 ≤ k ∧ k < k1) (hA : ∀ k, (Value.slice A xs.length c).ownBlock = some k → j0 ≤ k ∧ k < j1) (hk : k1 ≤ j0) : OwnI base W' (.slice A xs.length c) xs :=
  h.kept hG (by
    cases hk6 : (Value.slice A xs.length c).ownBlock with
    | none => exact .inl rfl
    | some k6 =>
      refine .inr (fun e => ?_)
      have h1 := hv k6 e.symm
      have h2 := hA k6 hk6
      omega)
set_option maxHeartbeats 8000000 in
set_option maxRecDepth 100000 in
theorem exactDoAt_c (n : Int) (bs : List Bd) (now : Int) (xs : List Int) (pt t : Int) (A A' : Option Addr) (b o c b' o' c' : Nat) (w : World) (hl : bs.length ≤ 9223372036854775807) (hl' : xs.length ≤ 9223372036854775807) (hR : BdsR w w.heap.size b o A bs) (hR' : IntsR w w.heap.size b' o' A' xs) :
    Calls Try.prog 13 #[.agg #[.int .i64 n, .slice A bs.length c], .agg #[.int .i64 now, .slice A' xs.length c'], .int .i64 pt, .int .i64 t] w fun e w' => e = .returned (.bool true) ∧ Below w.heap.size w w' := by
  have hD := db_new (t := 62) (t' := 82) (n := n) (now := now) (c := c) (c' := c') (Nat.le_refl _) hR hR'
  have hlA : 0 < bs.length → b < w.heap.size := hR.lt
  have hlS : 0 < xs.length → b' < w.heap.size := hR'.lt
  clear hR hR'
  have hW := hD.bel
  have hA := hD.p
  have hS := hD.s
  clear hD
  by_cases hlen : (1048576 : Int) - (bs.length : Int) < 0
  · have H : Hid ((if (1048576 : Int) - (bs.length : Int) < 0 then (-1 : Int) else 1048576 - (bs.length : Int)) = -1) := if_pos hlen
    clear hlen
    go_enter Try.func13, Try.ntmps13
    go_wp2_with (go_at_call 51; go_fit (szPlan_c 1048576 n A bs.length c _ (by omega) hl); rintro e w2 ⟨rfl, hb2⟩; rw [H.out])
    go_ret
    exact ⟨rfl, bthen hW hb2⟩
  · obtain ⟨r, hr⟩ : ∃ r, (1048576 : Int) - (bs.length : Int) = r := ⟨_, rfl⟩
    have H : Hid ((if (1048576 : Int) - (bs.length : Int) < 0 then (-1 : Int) else 1048576 - (bs.length : Int)) = r) := by rw [if_neg hlen]; exact hr
    have hr0 : ¬ r < 0 := by omega
    have hr2 : 0 ≤ r ∧ r ≤ 1048576 := by omega
    have hl2 : bs.length ≤ 2000000 := by omega
    clear hr hlen
    by_cases hlen : r - (xs.length : Int) < 0
    · have H2 : Hid ((if r - (xs.length : Int) < 0 then (-1 : Int) else r - (xs.length : Int)) = -1) := if_pos hlen
      clear hlen
      go_enter Try.func13, Try.ntmps13
      go_upto_region 1 with fail
      generalize (w.alloc (.cells #[.int .i64 n, .slice A bs.length c] 62)).alloc (.cells #[.int .i64 now, .slice A' xs.length c'] 82) = W at hW hA hS ⊢
      have a0 := hA.c0
      have a1 := hA.c1
      have s0 := hS.c0
      have s1 := hS.c1
      go_wp2_with (first
        | (go_at_call 51; go_fit (szPlan_c 1048576 n A bs.length c _ (by omega) hl); rintro e w2 ⟨rfl, hb2⟩; rw [H.out]; replace hW := bthen hW hb2; replace hA := hA.below hb2; replace hS := hS.below hb2; (try replace h4 := h4.below hb2); (try replace h5 := h5.below hb2); (try replace h6 := h6.below hb2); (try replace h7 := h7.below hb2); (try replace own5 := own_below own5 hb2); (try replace own6 := own_below own6 hb2); (try replace own7 := own_below own7 hb2); (try replace hr1 := (hr1.below hb2).more (Below.size hb2)); (try replace hr2 := (hr2.below hb2).more (Below.size hb2)); (try replace hz := hz.below hb2); (try replace hX := Nat.le_trans hX (Below.size hb2)); (try replace hV := bthen hV hb2); (try replace hs7 := Nat.le_trans hs7 (Below.size hb2)); clear a0 a1 s0 s1; have a0 := hA.c0; have a1 := hA.c1; have s0 := hS.c0; have s1 := hS.c1)
        | (go_at_call 71; go_fit (szState_c r now A' xs.length c' _ hr2 hl'); rintro e w3 ⟨rfl, hb3⟩; rw [H2.out]; replace hW := bthen hW hb3))
      go_ret
      exact ⟨rfl, hW⟩
    · obtain ⟨r2, hr3⟩ : ∃ r2, r - (xs.length : Int) = r2 := ⟨_, rfl⟩
      have H2 : Hid ((if r - (xs.length : Int) < 0 then (-1 : Int) else r - (xs.length : Int)) = r2) := by rw [if_neg hlen]; exact hr3
      have hr20 : ¬ r2 < 0 := by omega
      have hl3 : xs.length ≤ 2000000 := by omega
      clear hr3 hlen
      obtain ⟨q, ok, hq⟩ : ∃ q ok, doAt ⟨n, bs⟩ ⟨now, xs⟩ pt t = (q, ok) := ⟨_, _, rfl⟩
      have Hq := hide hq
      have hql : q.done.length ≤ 2000000 := by
        unfold doAt at hq
        split at hq
        · split at hq
          · injection hq with e1 e2; subst e1; simpa using hl3
          · injection hq with e1 e2; subst e1; exact hl3
        · injection hq with e1 e2; subst e1; exact Nat.zero_le _
      clear hq
      go_enter Try.func13, Try.ntmps13
      go_upto_region 1 with fail
      have hX0 : w.heap.size + 1 < ((w.alloc (.cells #[.int .i64 n, .slice A bs.length c] 62)).alloc (.cells #[.int .i64 now, .slice A' xs.length c'] 82)).heap.size := by simp
      generalize (w.alloc (.cells #[.int .i64 n, .slice A bs.length c] 62)).alloc (.cells #[.int .i64 now, .slice A' xs.length c'] 82) = W at hW hA hS hX0 ⊢
      have a0 := hA.c0
      have a1 := hA.c1
      have s0 := hS.c0
      have s1 := hS.c1
      have hX : w.heap.size + 1 + 1 ≤ W.heap.size := hX0
      clear hX0
      go_upto_region 8 with (first
        | (go_at_call 51; go_fit (szPlan_c 1048576 n A bs.length c _ (by omega) hl); rintro e w2 ⟨rfl, hb2⟩; rw [H.out]; replace hW := bthen hW hb2; replace hA := hA.below hb2; replace hS := hS.below hb2; (try replace h4 := h4.below hb2); (try replace h5 := h5.below hb2); (try replace h6 := h6.below hb2); (try replace h7 := h7.below hb2); (try replace own5 := own_below own5 hb2); (try replace own6 := own_below own6 hb2); (try replace own7 := own_below own7 hb2); (try replace hr1 := (hr1.below hb2).more (Below.size hb2)); (try replace hr2 := (hr2.below hb2).more (Below.size hb2)); (try replace hz := hz.below hb2); (try replace hX := Nat.le_trans hX (Below.size hb2)); (try replace hV := bthen hV hb2); (try replace hs7 := Nat.le_trans hs7 (Below.size hb2)); clear a0 a1 s0 s1; have a0 := hA.c0; have a1 := hA.c1; have s0 := hS.c0; have s1 := hS.c1)
        | (go_at_call 71; go_fit (szState_c r now A' xs.length c' _ hr2 hl'); rintro e wq ⟨rfl, hb3⟩; rw [H2.out]; replace hW := bthen hW hb3; replace hA := hA.below hb3; replace hS := hS.below hb3; (try replace h4 := h4.below hb3); (try replace h5 := h5.below hb3); (try replace h6 := h6.below hb3); (try replace h7 := h7.below hb3); (try replace own5 := own_below own5 hb3); (try replace own6 := own_below own6 hb3); (try replace own7 := own_below own7 hb3); (try replace hr1 := (hr1.below hb3).more (Below.size hb3)); (try replace hr2 := (hr2.below hb3).more (Below.size hb3)); (try replace hz := hz.below hb3); (try replace hX := Nat.le_trans hX (Below.size hb3)); (try replace hV := bthen hV hb3); (try replace hs7 := Nat.le_trans hs7 (Below.size hb3)); clear a0 a1 s0 s1; have a0 := hA.c0; have a1 := hA.c1; have s0 := hS.c0; have s1 := hS.c1))
      clear hb2 hb3 hr2 hr0 hr20
      go_cut [10, 11] (fun s10 s11 wx => s11 = .bool ok ∧ ∃ X A2 c2 g2, s10 = .pointer (some ⟨X, 0, none⟩) ∧ Below w.heap.size w wx ∧ RP wx w.heap.size b o n A c bs ∧ RS wx (w.heap.size + 1) b' o' now A' c' xs ∧ RS wx X g2 0 q.now A2 c2 q.done ∧ w.heap.size + 1 < X)
      case first =>
--BEGIN 1
        go_region_held3 (fun w' => w'.cell? ⟨w.heap.size, 0, none⟩ = some (.int .i64 n) ∧ w'.cell? ⟨w.heap.size, 1, none⟩ = some (.slice A bs.length c) ∧ w'.cell? ⟨w.heap.size + 1, 0, none⟩ = some (.int .i64 now) ∧ w'.cell? ⟨w.heap.size + 1, 1, none⟩ = some (.slice A' xs.length c'))
          (first
            | (go_split_ands; (repeat' apply And.intro) <;> first | assumption | exact (World.cell?_alloc_past _ _ _ (by first | omega | (simp only [World.size_alloc, World.size_drew]; done) | (simp only [World.size_alloc, World.size_drew]; omega))).trans (by assumption) | exact (set_other (by dsimp only; omega)).trans ((set_other (by dsimp only; omega)).trans (by assumption)))
            | (go_keep; done))
          (first
            | (go_at_call 52; go_fit (toPlan_q n bs A b o c _ _ hl2 (Nat.le_refl _) (hA.below (show Below wq.heap.size wq _ by go_grown)).rd); rintro e wn ⟨A1, c1, g1, rfl, hr1, own1, hb⟩; have hbq : Below wq.heap.size wq wn := bthen (show Below wq.heap.size wq _ by go_grown) hb; (first | (have hz := zb_1 hb hW.size; (try have hXv := hV.size); have hXz : w.heap.size + 1 < wq.heap.size := hX) | (have hz := zb_2 hb hW.size; (try have hXv := hV.size); have hXz : w.heap.size + 1 < wq.heap.size := hX) | (have hz := zb_3 hb hW.size; (try have hXv := hV.size); have hXz : w.heap.size + 1 < wq.heap.size := hX) | skip); clear own1; replace hW := bthen hW hbq; replace hA := hA.below hbq; replace hS := hS.below hbq; (try replace h4 := h4.below hbq); (try replace h5 := h5.below hbq); (try replace h6 := h6.below hbq); (try replace h7 := h7.below hbq); (try replace own5 := own_below own5 hbq); (try replace own6 := own_below own6 hbq); (try replace own7 := own_below own7 hbq); (try replace hr1 := (hr1.below hbq).more (Below.size hbq)); (try replace hr2 := (hr2.below hbq).more (Below.size hbq)); (try replace hz := hz.below hbq); (try replace hX := Nat.le_trans hX (Below.size hbq)); (try replace hV := bthen hV hbq); (try replace hs7 := Nat.le_trans hs7 (Below.size hbq)); clear a0 a1 s0 s1; have a0 := hA.c0; have a1 := hA.c1; have s0 := hS.c0; have s1 := hS.c1; clear hb hbq; obtain ⟨wq, hwq⟩ : ∃ x, x = wn := ⟨_, rfl⟩; subst hwq; (first | (have z0 := hz.z0; have z1 := hz.z1; have zf0 := hz.zf 0; have zf1 := hz.zf 1) | skip))
            | (go_at_call 72; go_fit (toState_q now xs A' b' o' c' _ _ hl3 (Nat.le_refl _) (hS.below (show Below wq.heap.size wq _ by go_grown)).rd); rintro e wn ⟨A2, c2, g2, rfl, hr2, own2, hb⟩; have hbq : Below wq.heap.size wq wn := bthen (show Below wq.heap.size wq _ by go_grown) hb; (first | (have hz := zb_1 hb hW.size; (try have hXv := hV.size); have hXz : w.heap.size + 1 < wq.heap.size := hX) | (have hz := zb_2 hb hW.size; (try have hXv := hV.size); have hXz : w.heap.size + 1 < wq.heap.size := hX) | (have hz := zb_3 hb hW.size; (try have hXv := hV.size); have hXz : w.heap.size + 1 < wq.heap.size := hX) | skip); clear own2; replace hW := bthen hW hbq; replace hA := hA.below hbq; replace hS := hS.below hbq; (try replace h4 := h4.below hbq); (try replace h5 := h5.below hbq); (try replace h6 := h6.below hbq); (try replace h7 := h7.below hbq); (try replace own5 := own_below own5 hbq); (try replace own6 := own_below own6 hbq); (try replace own7 := own_below own7 hbq); (try replace hr1 := (hr1.below hbq).more (Below.size hbq)); (try replace hr2 := (hr2.below hbq).more (Below.size hbq)); (try replace hz := hz.below hbq); (try replace hX := Nat.le_trans hX (Below.size hbq)); (try replace hV := bthen hV hbq); (try replace hs7 := Nat.le_trans hs7 (Below.size hbq)); clear a0 a1 s0 s1; have a0 := hA.c0; have a1 := hA.c1; have s0 := hS.c0; have s1 := hS.c1; clear hb hbq; obtain ⟨wq, hwq⟩ : ∃ x, x = wn := ⟨_, rfl⟩; subst hwq; (first | (have z0 := hz.z0; have z1 := hz.z1; have zf0 := hz.zf 0; have zf1 := hz.zf 1) | skip))
            | (go_at_call 62; go_fit (sDoAt_c ⟨n, bs⟩ ⟨now, xs⟩ pt t q ok Hq.out A1 A2 g1 0 c1 g2 0 c2 _ _ hl2 hl3 (Below.size (show Below wq.heap.size wq _ by go_grown)) (hr1.below (show Below wq.heap.size wq _ by go_grown)) (hr2.below (show Below wq.heap.size wq _ by go_grown))); rintro e wn ⟨A3, c3, g3, rfl, hr3, own3, hb⟩; have hbq : Below wq.heap.size wq wn := bthen (show Below wq.heap.size wq _ by go_grown) hb; (first | (have hgX := fun (h : 0 < q.done.length) => Nat.ne_of_gt (Nat.lt_of_lt_of_le hz.ex (Nat.le_trans (Below.size (show Below wq.heap.size wq _ by go_grown)) (ownI_at own3 hr3 h).1))) | (have hgX : 0 < q.done.length → g3 ≠ wq.heap.size := fun h e => by have h2 := (ownI_at own3 hr3 h).1; simp only [World.size_alloc, World.size_drew] at h2; omega) | skip); (first | (have hz := zb_1 hb hW.size; (try have hXv := hV.size); have hXz : w.heap.size + 1 < wq.heap.size := hX) | (have hz := zb_2 hb hW.size; (try have hXv := hV.size); have hXz : w.heap.size + 1 < wq.heap.size := hX) | (have hz := zb_3 hb hW.size; (try have hXv := hV.size); have hXz : w.heap.size + 1 < wq.heap.size := hX) | skip); clear own3; replace hW := bthen hW hbq; replace hA := hA.below hbq; replace hS := hS.below hbq; (try replace h4 := h4.below hbq); (try replace h5 := h5.below hbq); (try replace h6 := h6.below hbq); (try replace h7 := h7.below hbq); (try replace own5 := own_below own5 hbq); (try replace own6 := own_below own6 hbq); (try replace own7 := own_below own7 hbq); (try replace hr1 := (hr1.below hbq).more (Below.size hbq)); (try replace hr2 := (hr2.below hbq).more (Below.size hbq)); (try replace hz := hz.below hbq); (try replace hX := Nat.le_trans hX (Below.size hbq)); (try replace hV := bthen hV hbq); (try replace hs7 := Nat.le_trans hs7 (Below.size hbq)); clear a0 a1 s0 s1; have a0 := hA.c0; have a1 := hA.c1; have s0 := hS.c0; have s1 := hS.c1; clear hb hbq; obtain ⟨wq, hwq⟩ : ∃ x, x = wn := ⟨_, rfl⟩; subst hwq; (first | (have z0 := hz.z0; have z1 := hz.z1; have zf0 := hz.zf 0; have zf1 := hz.zf 1) | skip)))
        all_goals (
          go_wp2_with fail
          go_meet
          case rel =>
            first
              | exact ⟨rfl, _, _, _, _, rfl, put_rel hW hA hS hlA hlS hz hXz hr3 hgX⟩
              | exact ⟨rfl, _, _, _, _, rfl, put_rel hW.drew hA.drew hS.drew hlA hlS (hz.below (by go_grown)) hXz (hr3.below (by go_grown)) hgX⟩
              | exact ⟨rfl, _, _, _, _, rfl, new_rel hW hA hS hX hr3⟩
              | exact ⟨rfl, _, _, _, _, rfl, new_rel hW.drew hA.drew hS.drew hX (hr3.below (by go_grown))⟩)
--END 1
      case rest =>
        clear hW hA hS hX a0 a1 s0 s1
        obtain ⟨rfl, X4, A2, c2, g2, rfl, hW, hA, hS, h4, hX4⟩ := hcut
        have hX4s := h4.ex
        have hg2 : 0 < q.done.length → g2 < wc.heap.size := h4.rd.lt
        have a0 := hA.c0
        have a1 := hA.c1
        have s0 := hS.c0
        have s1 := hS.c1
        go_upto_region 10 with (go_at_call 52; go_fit (toPlan_q n bs A b o c _ _ hl2 (Nat.le_refl _) hA.rd); rintro e w5 ⟨A3, c3, g3, rfl, hr3, own5, hb5⟩; replace hW := bthen hW hb5; replace hA := hA.below hb5; replace hS := hS.below hb5; (try replace h4 := h4.below hb5); (try replace h5 := h5.below hb5); (try replace h6 := h6.below hb5); (try replace h7 := h7.below hb5); (try replace own5 := own_below own5 hb5); (try replace own6 := own_below own6 hb5); (try replace own7 := own_below own7 hb5); (try replace hr1 := (hr1.below hb5).more (Below.size hb5)); (try replace hr2 := (hr2.below hb5).more (Below.size hb5)); (try replace hz := hz.below hb5); (try replace hX := Nat.le_trans hX (Below.size hb5)); (try replace hV := bthen hV hb5); (try replace hs7 := Nat.le_trans hs7 (Below.size hb5)); clear a0 a1 s0 s1; have a0 := hA.c0; have a1 := hA.c1; have s0 := hS.c0; have s1 := hS.c1)
        have h5 := rp_new (n := n) (c := c3) (t := 25) hr3
        have hbn : Below w5.heap.size w5 (w5.alloc (.cells #[.int .i64 n, .slice A3 bs.length c3] 25)) := by go_grown
        have hq5 : ∀ k, (Value.slice A3 bs.length c3).ownBlock = some k → wc.heap.size ≤ k ∧ k < w5.heap.size := fun k hk => own5.lt k hk
        replace hW := bthen hW hbn; replace hA := hA.below hbn; replace hS := hS.below hbn; (try replace h4 := h4.below hbn); (try replace h5 := h5.below hbn); (try replace h6 := h6.below hbn); (try replace h7 := h7.below hbn); (try replace own5 := own_below own5 hbn); (try replace own6 := own_below own6 hbn); (try replace own7 := own_below own7 hbn); (try replace hr1 := (hr1.below hbn).more (Below.size hbn)); (try replace hr2 := (hr2.below hbn).more (Below.size hbn)); (try replace hz := hz.below hbn); (try replace hX := Nat.le_trans hX (Below.size hbn)); (try replace hV := bthen hV hbn); (try replace hs7 := Nat.le_trans hs7 (Below.size hbn))
        have hs5 : w5.heap.size < (w5.alloc (.cells #[.int .i64 n, .slice A3 bs.length c3] 25)).heap.size := by simp
        have hs45 : wc.heap.size ≤ w5.heap.size := hb5.size
        generalize w5.alloc (.cells #[.int .i64 n, .slice A3 bs.length c3] 25) = W5 at hW hA hS h4 h5 own5 hs5 ⊢
        generalize w5.heap.size = X5 at h5 hq5 hs5 hs45 ⊢
        clear hr3 hb5 hbn
        clear a0 a1 s0 s1; have a0 := hA.c0; have a1 := hA.c1; have s0 := hS.c0; have s1 := hS.c1
        go_upto_region 11 with (go_at_call 72; go_fit (toState_q now xs A' b' o' c' _ _ hl3 (Nat.le_refl _) hS.rd); rintro e w6 ⟨A4, c4, g4, rfl, hr4, own6, hb6⟩; replace hW := bthen hW hb6; replace hA := hA.below hb6; replace hS := hS.below hb6; (try replace h4 := h4.below hb6); (try replace h5 := h5.below hb6); (try replace h6 := h6.below hb6); (try replace h7 := h7.below hb6); (try replace own5 := own_below own5 hb6); (try replace own6 := own_below own6 hb6); (try replace own7 := own_below own7 hb6); (try replace hr1 := (hr1.below hb6).more (Below.size hb6)); (try replace hr2 := (hr2.below hb6).more (Below.size hb6)); (try replace hz := hz.below hb6); (try replace hX := Nat.le_trans hX (Below.size hb6)); (try replace hV := bthen hV hb6); (try replace hs7 := Nat.le_trans hs7 (Below.size hb6)); clear a0 a1 s0 s1; have a0 := hA.c0; have a1 := hA.c1; have s0 := hS.c0; have s1 := hS.c1)
        have h6 := rs_new (n := now) (c := c4) (t := 70) hr4
        have hbn : Below w6.heap.size w6 (w6.alloc (.cells #[.int .i64 now, .slice A4 xs.length c4] 70)) := by go_grown
        have hq6 : ∀ k, (Value.slice A4 xs.length c4).ownBlock = some k → W5.heap.size ≤ k ∧ k < w6.heap.size := fun k hk => own6.lt k hk
        have hg4 : 0 < xs.length → W5.heap.size ≤ g4 := fun h => (ownI_at own6 hr4 h).1
        replace hW := bthen hW hbn; replace hA := hA.below hbn; replace hS := hS.below hbn; (try replace h4 := h4.below hbn); (try replace h5 := h5.below hbn); (try replace h6 := h6.below hbn); (try replace h7 := h7.below hbn); (try replace own5 := own_below own5 hbn); (try replace own6 := own_below own6 hbn); (try replace own7 := own_below own7 hbn); (try replace hr1 := (hr1.below hbn).more (Below.size hbn)); (try replace hr2 := (hr2.below hbn).more (Below.size hbn)); (try replace hz := hz.below hbn); (try replace hX := Nat.le_trans hX (Below.size hbn)); (try replace hV := bthen hV hbn); (try replace hs7 := Nat.le_trans hs7 (Below.size hbn))
        have hs6 : w6.heap.size < (w6.alloc (.cells #[.int .i64 now, .slice A4 xs.length c4] 70)).heap.size := by simp
        have hs56 : W5.heap.size ≤ w6.heap.size := hb6.size
        generalize w6.alloc (.cells #[.int .i64 now, .slice A4 xs.length c4] 70) = W6 at hW hA hS h4 h5 h6 own5 own6 hs6 ⊢
        generalize w6.heap.size = X6 at h6 hq6 hs6 hs56 ⊢
        clear hr4 hb6 hbn a0 a1 s0 s1
        have e0 := h5.c0
        have e1 := h5.c1
        have f0 := h6.c0
        have f1 := h6.c1
        go_upto_region 12 with (go_at_call 61; go_fit (doAt_c ⟨n, bs⟩ ⟨now, xs⟩ pt t q ok Hq.out A3 A4 g3 0 c3 g4 0 c4 _ _ hl2 hl3 (Nat.le_refl _) h5.rd h6.rd); rintro e w7 ⟨A5, c5, g5, rfl, hr5, own7, hb7⟩; replace hW := bthen hW hb7; replace hA := hA.below hb7; replace hS := hS.below hb7; (try replace h4 := h4.below hb7); (try replace h5 := h5.below hb7); (try replace h6 := h6.below hb7); (try replace h7 := h7.below hb7); (try replace own5 := own_below own5 hb7); (try replace own6 := own_below own6 hb7); (try replace own7 := own_below own7 hb7); (try replace hr1 := (hr1.below hb7).more (Below.size hb7)); (try replace hr2 := (hr2.below hb7).more (Below.size hb7)); (try replace hz := hz.below hb7); (try replace hX := Nat.le_trans hX (Below.size hb7)); (try replace hV := bthen hV hb7); (try replace hs7 := Nat.le_trans hs7 (Below.size hb7)))
        have h7 := rs_new (n := q.now) (c := c5) (t := 70) hr5
        have hbn : Below w7.heap.size w7 (w7.alloc (.cells #[.int .i64 q.now, .slice A5 q.done.length c5] 70)) := by go_grown
        have hq7 : ∀ k, (Value.slice A5 q.done.length c5).ownBlock = some k → W6.heap.size ≤ k ∧ k < w7.heap.size := fun k hk => own7.lt k hk
        have hg5 : 0 < q.done.length → W6.heap.size ≤ g5 := fun h => (ownI_at own7 hr5 h).1
        replace hW := bthen hW hbn; replace hA := hA.below hbn; replace hS := hS.below hbn; (try replace h4 := h4.below hbn); (try replace h5 := h5.below hbn); (try replace h6 := h6.below hbn); (try replace h7 := h7.below hbn); (try replace own5 := own_below own5 hbn); (try replace own6 := own_below own6 hbn); (try replace own7 := own_below own7 hbn); (try replace hr1 := (hr1.below hbn).more (Below.size hbn)); (try replace hr2 := (hr2.below hbn).more (Below.size hbn)); (try replace hz := hz.below hbn); (try replace hX := Nat.le_trans hX (Below.size hbn)); (try replace hV := bthen hV hbn); (try replace hs7 := Nat.le_trans hs7 (Below.size hbn))
        have hs7 : w7.heap.size < (w7.alloc (.cells #[.int .i64 q.now, .slice A5 q.done.length c5] 70)).heap.size := by simp
        have hs67 : W6.heap.size ≤ w7.heap.size := hb7.size
        generalize w7.alloc (.cells #[.int .i64 q.now, .slice A5 q.done.length c5] 70) = W7 at hW hA hS h4 h5 h6 h7 own5 own6 own7 hs7 ⊢
        generalize w7.heap.size = X7 at h7 hq7 hs7 hs67 ⊢
        clear hr5 hb7 hbn e0 e1 f0 f1
        have i40 := h4.c0
        have i41 := h4.c1
        have i70 := h7.c0
        have i71 := h7.c1
        go_upto_region 14 with (go_at_call 73; go_fit (eqState_yes q.now q.done A5 A2 g5 0 c5 g2 0 c2 _ _ hql (Nat.le_refl _) h7.rd h4.rd); rintro e w8 ⟨rfl, hb8⟩; replace hW := bthen hW hb8; replace hA := hA.below hb8; replace hS := hS.below hb8; (try replace h4 := h4.below hb8); (try replace h5 := h5.below hb8); (try replace h6 := h6.below hb8); (try replace h7 := h7.below hb8); (try replace own5 := own_below own5 hb8); (try replace own6 := own_below own6 hb8); (try replace own7 := own_below own7 hb8); (try replace hr1 := (hr1.below hb8).more (Below.size hb8)); (try replace hr2 := (hr2.below hb8).more (Below.size hb8)); (try replace hz := hz.below hb8); (try replace hX := Nat.le_trans hX (Below.size hb8)); (try replace hV := bthen hV hb8); (try replace hs7 := Nat.le_trans hs7 (Below.size hb8)))
        clear i40 i41 i70 i71 hb8
        have a0 := hA.c0
        have a1 := hA.c1
        have e0 := h5.c0
        have e1 := h5.c1
        go_cut [66] (fun s wx => s = .bool false ∧ Below w8.heap.size w8 wx)
        case first =>
--BEGIN 2
          replace hA := hA.drew
          replace h5 := h5.drew
          go_region_held3 (fun w' => w'.cell? ⟨w.heap.size, 0, none⟩ = some (.int .i64 n) ∧ w'.cell? ⟨w.heap.size, 1, none⟩ = some (.slice A bs.length c) ∧ w'.cell? ⟨X5, 0, none⟩ = some (.int .i64 n) ∧ w'.cell? ⟨X5, 1, none⟩ = some (.slice A3 bs.length c3))
            (first
              | (go_split_ands; (repeat' apply And.intro) <;> assumption)
              | exact ⟨hA.c0, hA.c1, h5.c0, h5.c1⟩
              | (go_keep; done))
            (first
              | (go_at_call 52; go_fit (toPlan_q n bs A b o c _ _ hl2 (Nat.le_refl _) hA.rd); rintro e w9 ⟨A9, c9, g9, rfl, hr9, own9, hb9⟩; replace hA := hA.below hb9; replace h5 := h5.below hb9; have hB9 := bthen (drew_bel w8) hb9; clear a0 a1 e0 e1; have a0 := hA.c0; have a1 := hA.c1; have e0 := h5.c0; have e1 := h5.c1)
              | (go_at_call 53; go_fit (eqPlan_yes n bs A3 A9 g3 0 c3 g9 0 c9 _ _ hl2 (Nat.le_refl _) h5.rd hr9); rintro e w10 ⟨rfl, hb10⟩; replace hA := hA.below hb10; replace h5 := h5.below hb10; have hB10 := bthen hB9 hb10; clear a0 a1 e0 e1; have a0 := hA.c0; have a1 := hA.c1; have e0 := h5.c0; have e1 := h5.c1))
          go_wp2_with fail
          go_meet
          case rel => exact ⟨rfl, hB10⟩
--END 2
        case rest =>
          obtain ⟨rfl, hbc⟩ := hcut
          replace hW := bthen hW hbc; replace hA := hA.below hbc; replace hS := hS.below hbc; (try replace h4 := h4.below hbc); (try replace h5 := h5.below hbc); (try replace h6 := h6.below hbc); (try replace h7 := h7.below hbc); (try replace own5 := own_below own5 hbc); (try replace own6 := own_below own6 hbc); (try replace own7 := own_below own7 hbc); (try replace hr1 := (hr1.below hbc).more (Below.size hbc)); (try replace hr2 := (hr2.below hbc).more (Below.size hbc)); (try replace hz := hz.below hbc); (try replace hX := Nat.le_trans hX (Below.size hbc)); (try replace hV := bthen hV hbc); (try replace hs7 := Nat.le_trans hs7 (Below.size hbc))
          clear a0 a1 e0 e1 hbc
          have s0 := hS.c0
          have s1 := hS.c1
          have f0 := h6.c0
          have f1 := h6.c1
          go_upto_region 16 with fail
          obtain ⟨w16, hw16⟩ : ∃ x, x = wc := ⟨_, rfl⟩
          subst hw16
          go_cut [71] (fun s wx => s = .bool false ∧ Below w16.heap.size w16 wx)
          case first =>
--BEGIN 3
            replace hS := hS.drew
            replace h6 := h6.drew
            go_region_held3 (fun w' => w'.cell? ⟨w.heap.size + 1, 0, none⟩ = some (.int .i64 now) ∧ w'.cell? ⟨w.heap.size + 1, 1, none⟩ = some (.slice A' xs.length c') ∧ w'.cell? ⟨X6, 0, none⟩ = some (.int .i64 now) ∧ w'.cell? ⟨X6, 1, none⟩ = some (.slice A4 xs.length c4))
              (first
                | (go_split_ands; (repeat' apply And.intro) <;> assumption)
                | exact ⟨hS.c0, hS.c1, h6.c0, h6.c1⟩
                | (go_keep; done))
              (first
                | (go_at_call 72; go_fit (toState_q now xs A' b' o' c' _ _ hl3 (Nat.le_refl _) hS.rd); rintro e w9 ⟨A9, c9, g9, rfl, hr9, own9, hb9⟩; replace hS := hS.below hb9; replace h6 := h6.below hb9; have hB9 := bthen (drew_bel w16) hb9; clear s0 s1 f0 f1; have s0 := hS.c0; have s1 := hS.c1; have f0 := h6.c0; have f1 := h6.c1)
                | (go_at_call 73; go_fit (eqState_yes now xs A4 A9 g4 0 c4 g9 0 c9 _ _ hl3 (Nat.le_refl _) h6.rd hr9); rintro e w10 ⟨rfl, hb10⟩; replace hS := hS.below hb10; replace h6 := h6.below hb10; have hB10 := bthen hB9 hb10; clear s0 s1 f0 f1; have s0 := hS.c0; have s1 := hS.c1; have f0 := h6.c0; have f1 := h6.c1))
            go_wp2_with fail
            go_meet
            case rel => exact ⟨rfl, hB10⟩
--END 3
          case rest =>
            obtain ⟨rfl, hbc⟩ := hcut
            replace hW := bthen hW hbc; replace hA := hA.below hbc; replace hS := hS.below hbc; (try replace h4 := h4.below hbc); (try replace h5 := h5.below hbc); (try replace h6 := h6.below hbc); (try replace h7 := h7.below hbc); (try replace own5 := own_below own5 hbc); (try replace own6 := own_below own6 hbc); (try replace own7 := own_below own7 hbc); (try replace hr1 := (hr1.below hbc).more (Below.size hbc)); (try replace hr2 := (hr2.below hbc).more (Below.size hbc)); (try replace hz := hz.below hbc); (try replace hX := Nat.le_trans hX (Below.size hbc)); (try replace hV := bthen hV hbc); (try replace hs7 := Nat.le_trans hs7 (Below.size hbc))
            clear s0 s1 f0 f1 hbc
            have hlm1 : (0 : Int) ≤ 1 + 3 * (bs.length : Int) := by omega
            have hlm2 : 1 + 3 * (bs.length : Int) ≤ 1000000000000 := by omega
            have hlm : ¬ (1 + 3 * (bs.length : Int) + (xs.length : Int)) < 0 := by omega
            have hlq : ¬ (1 + (q.done.length : Int)) < 0 := by omega
            have e0 := h5.c0
            have e1 := h5.c1
            go_upto_region 20 with (go_at_call 54; go_fit (markPlan_c n 1 _ A3 c3 bs _ (by omega) hl2 own5 (by omega)); rintro e w19 ⟨rfl, own5', hG⟩)
            replace hW := hW.grown hG hW.size (fun k hk => by have := hq5 k hk; omega)
            replace hA := hA.grown hG (fun e => by have := hq5 _ e.symm; omega) (fun h e => by have := hq5 _ e.symm; have := hlA h; omega)
            replace hS := hS.grown hG (fun e => by have := hq5 _ e.symm; omega) (fun h e => by have := hq5 _ e.symm; have := hlS h; omega)
            replace h4 := h4.grown hG (fun e => by have := hq5 _ e.symm; omega) (fun h e => by have := hq5 _ e.symm; have := hg2 h; omega)
            replace h6 := h6.grown hG (fun e => by have := hq5 _ e.symm; omega) (fun h e => by have := hq5 _ e.symm; have := hg4 h; omega)
            replace h7 := h7.grown hG (fun e => by have := hq5 _ e.symm; omega) (fun h e => by have := hq5 _ e.symm; have := hg5 h; omega)
            replace own6 := ownI_kept own6 hG hq5 hq6 (by omega)
            replace own7 := ownI_kept own7 hG hq5 hq7 (by omega)
            replace hs7 := Nat.le_trans hs7 hG.size
            clear own5 own5' h5 e0 e1 hG
            have f0 := h6.c0
            have f1 := h6.c1
            go_upto_region 21 with (go_at_call 74; go_fit (markState_c now (1 + 3 * (bs.length : Int)) _ A4 c4 xs _ ⟨hlm1, hlm2⟩ hl3 own6 (by omega)); rintro e w20 ⟨rfl, own6', hG⟩)
            replace hW := hW.grown hG hW.size (fun k hk => by have := hq6 k hk; omega)
            replace hA := hA.grown hG (fun e => by have := hq6 _ e.symm; omega) (fun h e => by have := hq6 _ e.symm; have := hlA h; omega)
            replace hS := hS.grown hG (fun e => by have := hq6 _ e.symm; omega) (fun h e => by have := hq6 _ e.symm; have := hlS h; omega)
            replace h4 := h4.grown hG (fun e => by have := hq6 _ e.symm; omega) (fun h e => by have := hq6 _ e.symm; have := hg2 h; omega)
            replace h7 := h7.grown hG (fun e => by have := hq6 _ e.symm; omega) (fun h e => by have := hq6 _ e.symm; have := hg5 h; omega)
            replace own7 := ownI_kept own7 hG hq6 hq7 (by omega)
            replace hs7 := Nat.le_trans hs7 hG.size
            clear own6 own6' h6 f0 f1 hG
            have i40 := h4.c0
            have i41 := h4.c1
            have i70 := h7.c0
            have i71 := h7.c1
            go_upto_region 24 with (go_at_call 73; go_fit (eqState_yes q.now q.done A5 A2 g5 0 c5 g2 0 c2 _ _ hql (Nat.le_refl _) h7.rd h4.rd); rintro e w21 ⟨rfl, hb21⟩; replace hW := bthen hW hb21; replace hA := hA.below hb21; replace hS := hS.below hb21; (try replace h4 := h4.below hb21); (try replace h5 := h5.below hb21); (try replace h6 := h6.below hb21); (try replace h7 := h7.below hb21); (try replace own5 := own_below own5 hb21); (try replace own6 := own_below own6 hb21); (try replace own7 := own_below own7 hb21); (try replace hr1 := (hr1.below hb21).more (Below.size hb21)); (try replace hr2 := (hr2.below hb21).more (Below.size hb21)); (try replace hz := hz.below hb21); (try replace hX := Nat.le_trans hX (Below.size hb21)); (try replace hV := bthen hV hb21); (try replace hs7 := Nat.le_trans hs7 (Below.size hb21)))
            clear i40 i41 i70 i71 hb21
            have i70 := h7.c0
            have i71 := h7.c1
            go_upto_region 25 with (go_at_call 74; go_fit (markState_c q.now 1 _ A5 c5 q.done _ (by omega) hql own7 (by omega)); rintro e w24 ⟨rfl, own7', hG⟩)
            replace hW := hW.grown hG hW.size (fun k hk => by have := hq7 k hk; omega)
            replace hA := hA.grown hG (fun e => by have := hq7 _ e.symm; omega) (fun h e => by have := hq7 _ e.symm; have := hlA h; omega)
            replace hS := hS.grown hG (fun e => by have := hq7 _ e.symm; omega) (fun h e => by have := hq7 _ e.symm; have := hlS h; omega)
            replace h4 := h4.grown hG (fun e => by have := hq7 _ e.symm; omega) (fun h e => by have := hq7 _ e.symm; have := hg2 h; omega)
            obtain ⟨gm, h5⟩ : ∃ gm, RS w24 X7 gm 0 q.now A5 c5 (markI 1 q.done.length) := by
              have hml := markI_length 1 q.done.length
              obtain ⟨gm, hrm⟩ : ∃ gm, IntsR w24 w24.heap.size gm 0 A5 (markI 1 q.done.length) := own_IntsR (c := c5) (by rw [hml]; exact own7')
              have hne : some X7 ≠ (Value.slice A5 q.done.length c5).ownBlock := fun e => by have := hq7 _ e.symm; omega
              exact ⟨gm, Nat.lt_of_lt_of_le h7.ex hG.size, hG.cell h7.c0 hne, by rw [hml]; exact hG.cell h7.c1 hne, hrm⟩
            clear own7 own7' h7 hG i70 i71 hq5 hq6 hq7 hg4 hg5
            have i70 := h5.c0
            have i71 := h5.c1
            rw [markI_length] at i71
            go_upto_region 31 with (go_at_call 75; go_fit (heldState_c q.now 1 A5 gm 0 c5 q.done.length _ _ (by omega) hql (Nat.le_refl _) h5.rd); rintro e wq ⟨rfl, hb26⟩; replace hW := bthen hW hb26; replace hA := hA.below hb26; replace hS := hS.below hb26; (try replace h4 := h4.below hb26); (try replace h5 := h5.below hb26); (try replace h6 := h6.below hb26); (try replace h7 := h7.below hb26); (try replace own5 := own_below own5 hb26); (try replace own6 := own_below own6 hb26); (try replace own7 := own_below own7 hb26); (try replace hr1 := (hr1.below hb26).more (Below.size hb26)); (try replace hr2 := (hr2.below hb26).more (Below.size hb26)); (try replace hz := hz.below hb26); (try replace hX := Nat.le_trans hX (Below.size hb26)); (try replace hV := bthen hV hb26); (try replace hs7 := Nat.le_trans hs7 (Below.size hb26)))
            clear i70 i71 hb26
            have a0 := hA.c0
            have a1 := hA.c1
            have s0 := hS.c0
            have s1 := hS.c1
            have hX : w.heap.size + 1 + 1 ≤ wq.heap.size := hS.ex
            obtain ⟨w31, hw31⟩ : ∃ x, x = wq := ⟨_, rfl⟩
            have hV : Below w31.heap.size w31 wq := by rw [hw31]; exact Below.refl _ _
            have hW31 := hW
            rw [← hw31] at h4 h5 hW31
            clear hw31
            go_cut [19, 20] (fun s19 s20 wx => s20 = .bool ok ∧ ∃ X A8 c8 g8, s19 = .pointer (some ⟨X, 0, none⟩) ∧ Below w31.heap.size w31 wx ∧ RS wx X g8 0 q.now A8 c8 q.done)
            case first =>
--BEGIN 4
              clear h4 h5 hW31
              go_region_held3 (fun w' => w'.cell? ⟨w.heap.size, 0, none⟩ = some (.int .i64 n) ∧ w'.cell? ⟨w.heap.size, 1, none⟩ = some (.slice A bs.length c) ∧ w'.cell? ⟨w.heap.size + 1, 0, none⟩ = some (.int .i64 now) ∧ w'.cell? ⟨w.heap.size + 1, 1, none⟩ = some (.slice A' xs.length c'))
                (first
                  | (go_split_ands; (repeat' apply And.intro) <;> first | assumption | exact (World.cell?_alloc_past _ _ _ (by first | omega | (simp only [World.size_alloc, World.size_drew]; done) | (simp only [World.size_alloc, World.size_drew]; omega))).trans (by assumption) | exact (set_other (by dsimp only; omega)).trans ((set_other (by dsimp only; omega)).trans (by assumption)))
                  | (go_keep; done))
                (first
                  | (go_at_call 52; go_fit (toPlan_q n bs A b o c _ _ hl2 (Nat.le_refl _) (hA.below (show Below wq.heap.size wq _ by go_grown)).rd); rintro e wn ⟨A1, c1, g1, rfl, hr1, own1, hb⟩; have hbq : Below wq.heap.size wq wn := bthen (show Below wq.heap.size wq _ by go_grown) hb; (first | (have hz := zb_1 hb hW.size; (try have hXv := hV.size); have hXz : w.heap.size + 1 < wq.heap.size := hX) | (have hz := zb_2 hb hW.size; (try have hXv := hV.size); have hXz : w.heap.size + 1 < wq.heap.size := hX) | (have hz := zb_3 hb hW.size; (try have hXv := hV.size); have hXz : w.heap.size + 1 < wq.heap.size := hX) | skip); clear own1; replace hW := bthen hW hbq; replace hA := hA.below hbq; replace hS := hS.below hbq; (try replace h4 := h4.below hbq); (try replace h5 := h5.below hbq); (try replace h6 := h6.below hbq); (try replace h7 := h7.below hbq); (try replace own5 := own_below own5 hbq); (try replace own6 := own_below own6 hbq); (try replace own7 := own_below own7 hbq); (try replace hr1 := (hr1.below hbq).more (Below.size hbq)); (try replace hr2 := (hr2.below hbq).more (Below.size hbq)); (try replace hz := hz.below hbq); (try replace hX := Nat.le_trans hX (Below.size hbq)); (try replace hV := bthen hV hbq); (try replace hs7 := Nat.le_trans hs7 (Below.size hbq)); clear a0 a1 s0 s1; have a0 := hA.c0; have a1 := hA.c1; have s0 := hS.c0; have s1 := hS.c1; clear hb hbq; obtain ⟨wq, hwq⟩ : ∃ x, x = wn := ⟨_, rfl⟩; subst hwq; (first | (have z0 := hz.z0; have z1 := hz.z1; have zf0 := hz.zf 0; have zf1 := hz.zf 1) | skip))
                  | (go_at_call 72; go_fit (toState_q now xs A' b' o' c' _ _ hl3 (Nat.le_refl _) (hS.below (show Below wq.heap.size wq _ by go_grown)).rd); rintro e wn ⟨A2, c2, g2, rfl, hr2, own2, hb⟩; have hbq : Below wq.heap.size wq wn := bthen (show Below wq.heap.size wq _ by go_grown) hb; (first | (have hz := zb_1 hb hW.size; (try have hXv := hV.size); have hXz : w.heap.size + 1 < wq.heap.size := hX) | (have hz := zb_2 hb hW.size; (try have hXv := hV.size); have hXz : w.heap.size + 1 < wq.heap.size := hX) | (have hz := zb_3 hb hW.size; (try have hXv := hV.size); have hXz : w.heap.size + 1 < wq.heap.size := hX) | skip); clear own2; replace hW := bthen hW hbq; replace hA := hA.below hbq; replace hS := hS.below hbq; (try replace h4 := h4.below hbq); (try replace h5 := h5.below hbq); (try replace h6 := h6.below hbq); (try replace h7 := h7.below hbq); (try replace own5 := own_below own5 hbq); (try replace own6 := own_below own6 hbq); (try replace own7 := own_below own7 hbq); (try replace hr1 := (hr1.below hbq).more (Below.size hbq)); (try replace hr2 := (hr2.below hbq).more (Below.size hbq)); (try replace hz := hz.below hbq); (try replace hX := Nat.le_trans hX (Below.size hbq)); (try replace hV := bthen hV hbq); (try replace hs7 := Nat.le_trans hs7 (Below.size hbq)); clear a0 a1 s0 s1; have a0 := hA.c0; have a1 := hA.c1; have s0 := hS.c0; have s1 := hS.c1; clear hb hbq; obtain ⟨wq, hwq⟩ : ∃ x, x = wn := ⟨_, rfl⟩; subst hwq; (first | (have z0 := hz.z0; have z1 := hz.z1; have zf0 := hz.zf 0; have zf1 := hz.zf 1) | skip))
                  | (go_at_call 61; go_fit (doAt_c ⟨n, bs⟩ ⟨now, xs⟩ pt t q ok Hq.out A1 A2 g1 0 c1 g2 0 c2 _ _ hl2 hl3 (Below.size (show Below wq.heap.size wq _ by go_grown)) (hr1.below (show Below wq.heap.size wq _ by go_grown)) (hr2.below (show Below wq.heap.size wq _ by go_grown))); rintro e wn ⟨A3, c3, g3, rfl, hr3, own3, hb⟩; have hbq : Below wq.heap.size wq wn := bthen (show Below wq.heap.size wq _ by go_grown) hb; (first | (have hgX := fun (h : 0 < q.done.length) => Nat.ne_of_gt (Nat.lt_of_lt_of_le hz.ex (Nat.le_trans (Below.size (show Below wq.heap.size wq _ by go_grown)) (ownI_at own3 hr3 h).1))) | (have hgX : 0 < q.done.length → g3 ≠ wq.heap.size := fun h e => by have h2 := (ownI_at own3 hr3 h).1; simp only [World.size_alloc, World.size_drew] at h2; omega) | skip); (first | (have hz := zb_1 hb hW.size; (try have hXv := hV.size); have hXz : w.heap.size + 1 < wq.heap.size := hX) | (have hz := zb_2 hb hW.size; (try have hXv := hV.size); have hXz : w.heap.size + 1 < wq.heap.size := hX) | (have hz := zb_3 hb hW.size; (try have hXv := hV.size); have hXz : w.heap.size + 1 < wq.heap.size := hX) | skip); clear own3; replace hW := bthen hW hbq; replace hA := hA.below hbq; replace hS := hS.below hbq; (try replace h4 := h4.below hbq); (try replace h5 := h5.below hbq); (try replace h6 := h6.below hbq); (try replace h7 := h7.below hbq); (try replace own5 := own_below own5 hbq); (try replace own6 := own_below own6 hbq); (try replace own7 := own_below own7 hbq); (try replace hr1 := (hr1.below hbq).more (Below.size hbq)); (try replace hr2 := (hr2.below hbq).more (Below.size hbq)); (try replace hz := hz.below hbq); (try replace hX := Nat.le_trans hX (Below.size hbq)); (try replace hV := bthen hV hbq); (try replace hs7 := Nat.le_trans hs7 (Below.size hbq)); clear a0 a1 s0 s1; have a0 := hA.c0; have a1 := hA.c1; have s0 := hS.c0; have s1 := hS.c1; clear hb hbq; obtain ⟨wq, hwq⟩ : ∃ x, x = wn := ⟨_, rfl⟩; subst hwq; (first | (have z0 := hz.z0; have z1 := hz.z1; have zf0 := hz.zf 0; have zf1 := hz.zf 1) | skip)))
              all_goals (
                go_wp2_with fail
                go_meet
                case rel =>
                  first
                    | exact ⟨rfl, _, _, _, _, rfl, put_rel2 hV hXv hz hr3 hgX⟩
                    | exact ⟨rfl, _, _, _, _, rfl, put_rel2 hV.drew hXv (hz.below (by go_grown)) (hr3.below (by go_grown)) hgX⟩
                    | exact ⟨rfl, _, _, _, _, rfl, new_rel2 hV hr3⟩
                    | exact ⟨rfl, _, _, _, _, rfl, new_rel2 hV.drew (hr3.below (by go_grown))⟩)
--END 4
            case rest =>
              clear hW hA hS hV hX a0 a1 s0 s1
              obtain ⟨rfl, X8, A8, c8, g8, rfl, hbc, h6⟩ := hcut
              have hW := bthen hW31 hbc
              replace h4 := h4.below hbc
              replace h5 := h5.below hbc
              clear hW31 hbc
              have i40 := h4.c0
              have i41 := h4.c1
              have i60 := h6.c0
              have i61 := h6.c1
              go_upto_region 35 with (go_at_call 73; go_fit (eqState_yes q.now q.done A8 A2 g8 0 c8 g2 0 c2 _ _ hql (Nat.le_refl _) h6.rd h4.rd); rintro e w32 ⟨rfl, hb32⟩; replace hW := bthen hW hb32; replace h5 := h5.below hb32)
              clear i40 i41 i60 i61 hb32 h4 h6
              have i70 := h5.c0
              have i71 := h5.c1
              rw [markI_length] at i71
              go_wp2_with (go_at_call 75; go_fit (heldState_c q.now 1 A5 gm 0 c5 q.done.length _ _ (by omega) hql (Nat.le_refl _) h5.rd); rintro e w36 ⟨rfl, hb36⟩; replace hW := bthen hW hb36)
              go_ret
              exact ⟨rfl, hW⟩
end Go.Proofs.Ytjlaljnffmncpaa
