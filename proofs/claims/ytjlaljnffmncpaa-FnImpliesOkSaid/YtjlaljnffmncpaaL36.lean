/-
  impl: EndedFrom with one time, BothPlans.
-/
import Derived.Test.YtjlaljnffmncpaaL26a
import Derived.Test.YtjlaljnffmncpaaP20
import Derived.Test.YtjlaljnffmncpaaL1b
import Derived.Test.YtjlaljnffmncpaaL11a
namespace Go.Proofs.Ytjlaljnffmncpaa
set_option linter.unusedVariables false
set_option linter.unusedSimpArgs false
open Go.RowKit Pp

set_option maxHeartbeats 2000000 in
set_option maxRecDepth 100000 in
theorem startOk1_c (p : Pl) (v : Int) (hv : 0 ≤ v ∧ v ≤ 99) (A' : Option Addr) (b' o' c' : Nat) (A : Option Addr) (b o c B : Nat) (w : World) (hn : p.bs.length ≤ 2000000) (hB : B ≤ w.heap.size) (hR : BdsR w B b o A p.bs) (hX : IntsR w B b' o' A' [v]) :
    Calls Try.prog 124 #[.agg #[.int .i64 p.n, .slice A p.bs.length c], .slice A' 1 c'] w fun e w' => e = .returned (.bool (fits p)) ∧ Below w.heap.size w w' := by
  have hD := po_new (t := 25) (n := p.n) (c := c) (Below.refl w.heap.size w) (hR.more hB)
  have hXW := (hX.below ((show Below w.heap.size w (w.alloc (.cells #[.int .i64 p.n, .slice A p.bs.length c] 25)) by go_grown).mono hB)).more (Nat.le_trans hB hD.bel.size)
  obtain rfl := hX.addr (by simp)
  clear hR hB hX
  cases hf : fits p
  · have Hf := hide hf
    clear hf
    go_enter Try.func124, Try.ntmps124
    go_upto_region 1 with fail
    generalize w.alloc (.cells #[.int .i64 p.n, .slice A p.bs.length c] 25) = W at hD hXW ⊢
    have p0 := hD.c0
    have p1 := hD.c1
    go_wp2_with (go_at_call 81; go_fit (closed_no p A b o c _ _ hn (Nat.le_refl _) hD.rd Hf.out); rintro e w2 ⟨rfl, hb⟩; replace hD := hD.below hb)
    go_ret
    exact ⟨rfl, hD.bel⟩
  · have hn1 := (nn_ok (planOk_of_fits hf))
    have hz : ¬ p.n < 1 := by have := (planOk_iff.1 (planOk_of_fits hf)).1; omega
    have Hin : Hid (([v].all fun x => inB x (-99) 99) = true) := by unfold Hid; simp only [List.all_cons, List.all_nil, Bool.and_true]; exact inB_iff.2 ⟨by omega, hv.2⟩
    have Hf := hide hf
    clear hf hn1
    go_enter Try.func124, Try.ntmps124
    go_upto_region 1 with fail
    generalize w.alloc (.cells #[.int .i64 p.n, .slice A p.bs.length c] 25) = W at hD hXW ⊢
    have p0 := hD.c0
    have p1 := hD.c1
    go_upto_region 5 with (first
      | (go_at_call 81; go_fit (closed_yes p A b o c _ _ (Nat.le_refl _) hD.rd Hf.out); rintro e w2 ⟨ob, rb, rfl, _, _, _, hb⟩; replace hD := hD.below hb; replace hXW := (hXW.below hb).more hb.size; clear p0 p1; have p0 := hD.c0; have p1 := hD.c1)
      | (go_at_call 136; go_fit (allIn_c [v] (-99) 99 _ b' o' c' _ _ (by simp) (Nat.le_refl _) hXW); rintro e w3 ⟨rfl, hb⟩; rw [Hin.out]; replace hD := hD.below hb; replace hXW := (hXW.below hb).more hb.size))
    go_loopg [32] 1 (fun gh s wr => ∃ k : Nat, k ≤ 1 ∧ gh = 1 - k ∧ s = .int .i64 k ∧ Below w.heap.size w wr ∧ IntsR wr wr.heap.size b' o' (some ⟨b', o', none⟩) [v])
    case atStart => exact ⟨0, by omega, rfl, rfl, hD.bel, hXW⟩
    case round =>
      obtain ⟨k, hk, rfl, rfl, hW, hX⟩ := hrel
      rcases Nat.lt_or_ge k 1 with h1 | h1
      · obtain rfl : k = 0 := by omega
        have x0 := hX.cell 0 (by simp)
        simp only [Nat.add_zero, List.getD_cons_zero] at x0
        go_wp2_with fail
        go_loopg [41] 0 (fun gh s wr2 => s = .int .i64 0 ∧ wr = wr2)
        case atStart => exact ⟨rfl, rfl⟩
        case round =>
          obtain ⟨rfl, rfl⟩ := hrel
          go_wp2_with fail
          go_roundg 0
          case measure => go_light; omega
          case rel => go_light; exact ⟨1, by omega, rfl, rfl, hW, hX⟩
      · obtain rfl : k = 1 := by omega
        go_wp2_with fail
        go_ret
        exact ⟨rfl, hW⟩

set_option maxHeartbeats 2000000 in
set_option maxRecDepth 100000 in
theorem endedOne_q (p : Pl) (v0 : Int) (hv0 : 0 ≤ v0 ∧ v0 ≤ 99) (ys : List Int) (r : Bool) (h : endedOne p v0 = (ys, r)) (A' : Option Addr) (b' o' c' : Nat) (A : Option Addr) (b o c B : Nat) (w : World) (hn : p.bs.length ≤ 2000000) (hB : B ≤ w.heap.size) (hR : BdsR w B b o A p.bs) (hX : IntsR w B b' o' A' [v0]) :
    Calls Try.prog 58 #[.agg #[.int .i64 p.n, .slice A p.bs.length c], .slice A' 1 c'] w fun e w' => ∃ A1 c1, e = .returned (.tuple #[.slice A1 ys.length c1, .bool r]) ∧ OwnI w.heap.size w' (.slice A1 ys.length c1) ys ∧ Below w.heap.size w w' := by
  have hD := po_new (t := 25) (n := p.n) (c := c) (Below.refl w.heap.size w) (hR.more hB)
  have hXW := (hX.below ((show Below w.heap.size w (w.alloc (.cells #[.int .i64 p.n, .slice A p.bs.length c] 25)) by go_grown).mono hB)).more (Nat.le_trans hB hD.bel.size)
  clear hR hB hX
  cases hf : fits p
  · have hq : ys = [] ∧ r = false := by unfold endedOne at h; rw [hf] at h; simpa [eq_comm] using h
    obtain ⟨rfl, rfl⟩ := hq
    have Hf := hide hf
    clear hf h
    go_enter Try.func58, Try.ntmps58
    go_upto_region 1 with fail
    generalize w.alloc (.cells #[.int .i64 p.n, .slice A p.bs.length c] 25) = W at hD hXW ⊢
    have p0 := hD.c0
    have p1 := hD.c1
    go_wp2_with (go_at_call 124; go_fit (startOk1_c p v0 hv0 A' b' o' c' A b o c _ _ hn (Nat.le_refl _) hD.rd hXW); rintro e w2 ⟨rfl, hb⟩; rw [Hf.out]; replace hD := hD.below hb)
    go_ret2
    exact ⟨none, 0, rfl, World.ownsRow_nil _ _ _ _, hD.bel⟩
  · have hp := planOk_of_fits hf
    obtain ⟨hn6, hn1, hnn⟩ := nn_ok hp
    have hS := small_clT hf
    have hq : endT (clT p) (nn p - 1) [v0] = ys ∧ r = true := by unfold endedOne at h; rw [hf, if_pos rfl] at h; exact ⟨(Prod.mk.inj h).1, (Prod.mk.inj h).2.symm⟩
    obtain ⟨hys, rfl⟩ := hq
    obtain ⟨i0, hi0, hz0, hz1, hz2⟩ := info_parts infoI
    have Hf := hide hf
    have Hys := hide hys
    have Hnn : Hid (p.n = (nn p : Int)) := by unfold Hid; omega
    clear hf h hp hys
    go_enter Try.func58, Try.ntmps58
    go_upto_region 1 with fail
    generalize w.alloc (.cells #[.int .i64 p.n, .slice A p.bs.length c] 25) = W at hD hXW ⊢
    have p0 := hD.c0
    have p1 := hD.c1
    go_upto_region 4 with (first
      | (go_at_call 124; go_fit (startOk1_c p v0 hv0 A' b' o' c' A b o c _ _ hn (Nat.le_refl _) hD.rd hXW); rintro e w2 ⟨rfl, hb⟩; rw [Hf.out]; replace hD := hD.below hb; replace hXW := (hXW.below hb).more hb.size; clear p0 p1; have p0 := hD.c0; have p1 := hD.c1)
      | (go_at_call 81; go_fit (closed_yes p A b o c _ _ (Nat.le_refl _) hD.rd Hf.out); rintro e w3 ⟨ob, rb, rfl, hT0, hob, hrb, hb⟩; replace hD := hD.below hb; replace hXW := (hXW.below hb).more hb.size))
    obtain ⟨rc, hT⟩ : ∃ rc, TabR w3 w3.heap.size ob rb rc (nn p) (clT p) := ⟨_, hT0.reads⟩
    clear hT0 hob hrb hb p0 p1
    have hws := hD.bel.size
    have hDl := hD.ex
    go_upto_region 5 with (at_builtin; refine app_list _ rfl (.const (.slice none 0 0)) (.tmp 18) _ rfl w3.heap.size 3 i0 _ 1 8 Try.underlying44 hi0 hz0 hz1 hz2 rfl (by omega) (.slice none 0 0) 0 [] rfl (World.ownsRow_nil _ _ _ _) A' 1 c' [.int .i64 v0] rfl rfl hXW.news (by simp [Value.oneCell']) (by omega) (by omega) (Nat.le_refl _) ?_; intro A4 c4 w4 hown4 hg4 hat4)
    simp only [Nat.zero_add, List.nil_append] at hown4
    have hWb : Below w3.heap.size w3 w4 := below_app (Below.refl _ _) (World.ownsRow_nil w3 w3.heap.size 3 1) hg4 (Nat.le_refl _) (Nat.le_refl _)
    clear hg4 hat4
    have hn6' : [v0].length ≤ nn p := by simp; omega
    go_loopg [8] (nn p - 1) (fun gh s wr => ∃ (xs : List Int) (A1 : Option Addr) (c1 : Nat), xs.length ≤ nn p ∧ gh = nn p - xs.length ∧ s = .slice A1 xs.length c1 ∧ Hid (endT (clT p) (nn p - xs.length) xs = ys) ∧ Hid (AbsTo xs (600 * xs.length)) ∧ Below w3.heap.size w3 wr ∧ OwnI w3.heap.size wr (.slice A1 xs.length c1) xs)
    case atStart => exact ⟨[v0], A4, c4, hn6', rfl, rfl, Hys, fun i => by cases i <;> simp <;> omega, hWb, hown4⟩
    case round =>
      clear hWb hown4
      obtain ⟨xs, A1, c1, hk, rfl, rfl, HE, Hx, hW, hown⟩ := hrel
      have p0 := ((bcell hW).1 _ 0 hDl).trans hD.c0
      by_cases hlt : xs.length < nn p
      · have hz : (xs.length : Int) < p.n := by have := Hnn.out; omega
        obtain ⟨v, hv⟩ : ∃ v, nextT (clT p) xs = v := ⟨_, rfl⟩
        have Hv := hide hv
        have hva := nextT_abs hS Hx.out (by omega) (by omega) hlt
        rw [hv] at hva
        have hl2 : (xs ++ [v]).length = xs.length + 1 := by simp
        have HE2 : Hid (endT (clT p) (nn p - (xs.length + 1)) (xs ++ [v]) = ys) := by
          unfold Hid
          rw [← HE.out, show nn p - xs.length = (nn p - (xs.length + 1)) + 1 by omega, endT, hv]
        have Hx2 : Hid (AbsTo (xs ++ [v]) (600 * (xs.length + 1 : Nat))) := by
          have h := absTo_next Hx.out (by omega) hva
          intro i
          have := h i
          omega
        have Hl2 := hide hl2
        clear hv hl2
        obtain ⟨g1, hrd⟩ := own_IntsR hown
        have hTr := (hT.below hW).more hW.size
        have hM : (0 : Int) ≤ 600 * (xs.length : Int) ∧ 600 * (xs.length : Int) ≤ 10000 := by omega
        have hWs := hW.size
        go_wp2_with (first
          | (go_at_call 125; go_fit (next_c (nn p) ob (clT p) rb rc (nn p) xs (600 * xs.length) A1 g1 0 c1 _ _ (by omega) hlt (Nat.le_refl _) hrd hTr hS Hx.out hM.1 hM.2); rintro e w5 ⟨rfl, rfl⟩; rw [Hv.out])
          | (at_builtin; refine app_list _ rfl (.tmp 25) (.tmp 29) _ rfl w3.heap.size 3 i0 _ 1 8 Try.underlying44 hi0 hz0 hz1 hz2 rfl (by omega) (.slice A1 xs.length c1) xs.length (xs.map (Value.int .i64)) rfl (hown.alloc _) _ 1 _ [.int .i64 v] rfl rfl (NewsAt.block (cs := #[.int .i64 v]) (at_new rfl)) (by simp [Value.oneCell']) (by omega) (by omega) (by simp only [World.size_alloc]; omega) ?_; intro A5 c5 w5 hown5 hg5 hat5))
        have hW5 : Below w3.heap.size w3 w5 := below_app (bthen hW (show Below wr.heap.size wr (wr.alloc (.cells #[.int .i64 v] 3)) by go_grown)) (hown.alloc (.cells #[.int .i64 v] 3)) hg5 (Nat.le_refl _) (by simp only [World.size_alloc]; omega)
        go_roundg (nn p - (xs.length + 1))
        case measure => go_light; omega
        case rel =>
          go_light
          have hl2 := Hl2.out
          exact ⟨xs ++ [v], A5, c5, by omega, by rw [hl2], by rw [hl2], by rw [hl2]; exact HE2, by rw [hl2]; exact Hx2, hW5, by unfold OwnI; rw [hl2, List.map_append]; exact hown5⟩
      · have he : Hid (xs = ys) := by
          unfold Hid
          rw [← HE.out, show nn p - xs.length = 0 by omega]; rfl
        have hz : ¬ (xs.length : Int) < p.n := by have := Hnn.out; omega
        go_wp2_with fail
        go_ret2
        have e := he.out
        subst e
        exact ⟨A1, c1, rfl, own_less hown hws, hD.bel.trans (hW.mono hws)⟩


set_option maxHeartbeats 2000000 in
set_option maxRecDepth 100000 in
theorem bothYes_q (n : Int) (bs bs' : List Bd) (x : Pl) (r : Bool) (hp : planOk ⟨n, bs⟩ = true) (hp' : planOk ⟨n, bs'⟩ = true) (hx : toldP (bothP ⟨n, bs⟩ ⟨n, bs'⟩) = x) (hr : planOk (bothP ⟨n, bs⟩ ⟨n, bs'⟩) = r) (A A' : Option Addr) (b o c b' o' c' B : Nat) (w : World) (hn : bs.length ≤ 16) (hn' : bs'.length ≤ 16) (hB : B ≤ w.heap.size) (hR : BdsR w B b o A bs) (hR' : BdsR w B b' o' A' bs') :
    Calls Try.prog 59 #[.agg #[.int .i64 n, .slice A bs.length c], .agg #[.int .i64 n, .slice A' bs'.length c']] w fun e w' => ∃ A1 c1 g1, e = .returned (.tuple #[.agg #[.int .i64 x.n, .slice A1 x.bs.length c1], .bool r]) ∧ BdsR w' w'.heap.size g1 0 A1 x.bs ∧ Below w.heap.size w w' := by
  have hP := ((po_new (t := 25) (n := n) (c := c) (Below.refl w.heap.size w) (hR.more hB)).alloc (.cells #[.int .i64 n, .slice A' bs'.length c'] 25)).alloc (.cells #[.int .i64 0, .slice none 0 0] 25)
  have hw1 : Below w.heap.size w (w.alloc (.cells #[.int .i64 n, .slice A bs.length c] 25)) := by go_grown
  have hQ := (po_new (t := 25) (n := n) (c := c') hw1 ((hR'.below (hw1.mono hB)).more (Nat.le_trans hB hw1.size))).alloc (.cells #[.int .i64 0, .slice none 0 0] 25)
  have hZ : ZB w (((w.alloc (.cells #[.int .i64 n, .slice A bs.length c] 25)).alloc (.cells #[.int .i64 n, .slice A' bs'.length c'] 25)).alloc (.cells #[.int .i64 0, .slice none 0 0] 25)) (w.heap.size + 2) := by
    have h := zb_new (w0 := w) (W := (w.alloc (.cells #[.int .i64 n, .slice A bs.length c] 25)).alloc (.cells #[.int .i64 n, .slice A' bs'.length c'] 25)) (t := 25) (by simp; omega)
    simpa using h
  simp only [World.size_alloc] at hQ
  obtain ⟨L, hL⟩ : ∃ L, bs ++ bs' = L := ⟨_, rfl⟩
  have hlL : L.length ≤ 2000000 := by rw [← hL, List.length_append]; omega
  unfold bothP at hx hr
  dsimp only at hx hr
  rw [hL] at hx hr
  have HL := hide hL
  have Hx := hide hx
  have Hr := hide hr
  have Hp := hide hp
  have Hp' := hide hp'
  clear hx hr hp hp' hL
  go_enter Try.func59, Try.ntmps59
  go_upto_region 1 with fail
  generalize ((w.alloc (.cells #[.int .i64 n, .slice A bs.length c] 25)).alloc (.cells #[.int .i64 n, .slice A' bs'.length c'] 25)).alloc (.cells #[.int .i64 0, .slice none 0 0] 25) = W at hP hQ hZ ⊢
  clear hR hR' hw1 hB
  generalize w.heap.size + 2 = Z at hZ ⊢
  generalize w.heap.size + 1 = Q at hQ ⊢
  have p0 := hP.c0
  have p1 := hP.c1
  have hl : bs.length ≤ 2000000 := by omega
  have hl' : bs'.length ≤ 2000000 := by omega
  go_wp2_with (first
    | (go_at_call 86; first
        | (go_fit (planOk_c ⟨n, bs⟩ A b o c _ _ hl (Nat.le_refl _) hP.rd); rintro e w1 ⟨rfl, hb1⟩; rw [Hp.out]; have hP2 := hP.below hb1; have hQ2 := hQ.below hb1; have hZ2 := hZ.below hb1; have q0 := hQ2.c0; have q1 := hQ2.c1)
        | (go_fit (planOk_c ⟨n, bs'⟩ A' b' o' c' _ _ hl' (Nat.le_refl _) hQ2.rd); rintro e w2 ⟨rfl, hb2⟩; rw [Hp'.out]; have hP3 := hP2.below hb2; have hQ3 := hQ2.below hb2; have hZ3 := hZ2.below hb2; have r0 := hP3.c0; have r1 := hP3.c1; have s0 := hQ3.c0; have s1 := hQ3.c1))
    | (go_at_call 96; go_fit (with_q ⟨n, bs⟩ bs' L HL.out A A' b o c b' o' c' _ _ (by dsimp only; omega) (by omega) (Nat.le_refl _) hP3.rd hQ3.rd); rintro e w3 ⟨A1, c1, g1, rfl, hr1, hown1, hb3⟩; have hP4 := hP3.below hb3; have hZ4 := hZ3.below hb3)
    | (go_at_call 95; go_fit (told_q ⟨n, L⟩ x r Hx.out Hr.out A1 g1 0 c1 _ _ hlL (Nat.le_refl _) hr1); rintro e w4 ⟨A2, c2, g2, rfl, hr2, hown2, hb4⟩; have hP5 := hP4.below hb4; have hZ5 := hZ4.below hb4; have z0 := hZ5.z0; have z1 := hZ5.z1; have zf0 := hZ5.zf 0; have zf1 := hZ5.zf 1; have hzx := hZ4.ex))
  have hws := hP4.bel.size
  obtain ⟨u0, u1, hown7, hb7⟩ := hZ5.fin (n := x.n) (A := A2) (c := c2) (bs := x.bs) hP5.bel (own_less hown2 hws) (fun e => by have := (hown2.lt _ e).1; omega)
  refine bodyPost_ret (v := .tuple #[.agg #[.int .i64 x.n, .slice A2 x.bs.length c2], .bool r]) (by simp [results, Try.results59, go_sem, u0, u1]) rfl ?_
  obtain ⟨g, hrd⟩ := OwnB.readsA hown7
  exact ⟨_, _, g, rfl, hrd, hb7⟩
end Go.Proofs.Ytjlaljnffmncpaa
