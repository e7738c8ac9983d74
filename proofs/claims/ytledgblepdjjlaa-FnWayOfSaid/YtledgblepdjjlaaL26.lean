/-
  impl: StartOk and EndedFrom without times, TimesFor.
-/
import Derived.Test.YtledgblepdjjlaaL26a
namespace Go.Proofs.Ytledgblepdjjlaa
set_option linter.unusedVariables false
set_option linter.unusedSimpArgs false
open Go.RowKit Pp

set_option maxHeartbeats 2000000 in
set_option maxRecDepth 100000 in
theorem startOk0_c (p : Pl) (A : Option Addr) (b o c B : Nat) (w : World) (hn : p.bs.length ≤ 2000000) (hB : B ≤ w.heap.size) (hR : BdsR w B b o A p.bs) :
    Calls Try.prog 120 #[.agg #[.int .i64 p.n, .slice A p.bs.length c], .slice none 0 0] w fun e w' => e = .returned (.bool (fits p)) ∧ Below w.heap.size w w' := by
  have hD := po_new (t := 32) (n := p.n) (c := c) (Below.refl w.heap.size w) (hR.more hB)
  clear hR hB
  cases hf : fits p
  · have Hf := hide hf
    clear hf
    go_enter Try.func120, Try.ntmps120
    go_upto_region 1 with fail
    generalize w.alloc (.cells #[.int .i64 p.n, .slice A p.bs.length c] 32) = W at hD ⊢
    have p0 := hD.c0
    have p1 := hD.c1
    go_wp2_with (go_at_call 82; go_fit (closed_no p A b o c _ _ hn (Nat.le_refl _) hD.rd Hf.out); rintro e w2 ⟨rfl, hb⟩; replace hD := hD.below hb)
    go_ret
    exact ⟨rfl, hD.bel⟩
  · have hn1 := (nn_ok (planOk_of_fits hf))
    have hz : ¬ p.n < 0 := by have := (planOk_iff.1 (planOk_of_fits hf)).1; omega
    have Hf := hide hf
    clear hf hn1
    go_enter Try.func120, Try.ntmps120
    go_upto_region 1 with fail
    generalize w.alloc (.cells #[.int .i64 p.n, .slice A p.bs.length c] 32) = W at hD ⊢
    have p0 := hD.c0
    have p1 := hD.c1
    go_upto_region 5 with (first
      | (go_at_call 82; go_fit (closed_yes p A b o c _ _ (Nat.le_refl _) hD.rd Hf.out); rintro e w2 ⟨ob, rb, rfl, _, _, _, hb⟩; replace hD := hD.below hb; clear p0 p1; have p0 := hD.c0; have p1 := hD.c1)
      | (go_at_call 118; go_fit (allIn_c [] (-99) 99 none 0 0 0 _ _ (by simp) (Nat.le_refl _) (IntsR.nil _ _ _)); rintro e w3 ⟨rfl, hb⟩; simp only [List.all_nil]; replace hD := hD.below hb))
    go_loopg [32] 0 (fun gh s wr => s = .int .i64 0 ∧ Below w.heap.size w wr)
    case atStart => exact ⟨rfl, hD.bel⟩
    case round =>
      obtain ⟨rfl, hW⟩ := hrel
      go_wp2_with fail
      go_ret
      exact ⟨rfl, hW⟩

set_option maxHeartbeats 2000000 in
set_option maxRecDepth 100000 in
theorem endedFrom0_q (p : Pl) (ys : List Int) (r : Bool) (h : timesFor p = (ys, r)) (A : Option Addr) (b o c B : Nat) (w : World) (hn : p.bs.length ≤ 2000000) (hB : B ≤ w.heap.size) (hR : BdsR w B b o A p.bs) :
    Calls Try.prog 90 #[.agg #[.int .i64 p.n, .slice A p.bs.length c], .slice none 0 0] w fun e w' => ∃ A1 c1, e = .returned (.tuple #[.slice A1 ys.length c1, .bool r]) ∧ OwnI w.heap.size w' (.slice A1 ys.length c1) ys ∧ Below w.heap.size w w' := by
  have hD := po_new (t := 32) (n := p.n) (c := c) (Below.refl w.heap.size w) (hR.more hB)
  clear hR hB
  cases hf : fits p
  · have hq : ys = [] ∧ r = false := by unfold timesFor at h; rw [hf] at h; simpa [eq_comm] using h
    obtain ⟨rfl, rfl⟩ := hq
    have Hf := hide hf
    clear hf h
    go_enter Try.func90, Try.ntmps90
    go_upto_region 1 with fail
    generalize w.alloc (.cells #[.int .i64 p.n, .slice A p.bs.length c] 32) = W at hD ⊢
    have p0 := hD.c0
    have p1 := hD.c1
    go_wp2_with (go_at_call 120; go_fit (startOk0_c p A b o c _ _ hn (Nat.le_refl _) hD.rd); rintro e w2 ⟨rfl, hb⟩; rw [Hf.out]; replace hD := hD.below hb)
    go_ret2
    exact ⟨none, 0, rfl, World.ownsRow_nil _ _ _ _, hD.bel⟩
  · have hp := planOk_of_fits hf
    obtain ⟨hn6, hn1, hnn⟩ := nn_ok hp
    have hS := small_clT hf
    have hq : endT (clT p) (nn p) [] = ys ∧ r = true := by unfold timesFor at h; rw [hf, if_pos rfl] at h; exact ⟨(Prod.mk.inj h).1, (Prod.mk.inj h).2.symm⟩
    obtain ⟨hys, rfl⟩ := hq
    obtain ⟨i0, hi0, hz0, hz1, hz2⟩ := info_parts infoI
    have Hf := hide hf
    have Hys := hide hys
    have Hnn : Hid (p.n = (nn p : Int)) := by unfold Hid; omega
    clear hf h hp hys
    go_enter Try.func90, Try.ntmps90
    go_upto_region 1 with fail
    generalize w.alloc (.cells #[.int .i64 p.n, .slice A p.bs.length c] 32) = W at hD ⊢
    have p0 := hD.c0
    have p1 := hD.c1
    go_upto_region 4 with (first
      | (go_at_call 120; go_fit (startOk0_c p A b o c _ _ hn (Nat.le_refl _) hD.rd); rintro e w2 ⟨rfl, hb⟩; rw [Hf.out]; replace hD := hD.below hb; clear p0 p1; have p0 := hD.c0; have p1 := hD.c1)
      | (go_at_call 82; go_fit (closed_yes p A b o c _ _ (Nat.le_refl _) hD.rd Hf.out); rintro e w3 ⟨ob, rb, rfl, hT0, hob, hrb, hb⟩; replace hD := hD.below hb))
    obtain ⟨rc, hT⟩ : ∃ rc, TabR w3 w3.heap.size ob rb rc (nn p) (clT p) := ⟨_, hT0.reads⟩
    clear hT0 hob hrb hb p0 p1
    have hws := hD.bel.size
    have hDl := hD.ex
    go_upto_region 5 with (at_builtin; refine app_list _ rfl (.const (.slice none 0 0)) (.tmp 18) _ rfl w3.heap.size 3 i0 _ 1 8 Try.underlying28 hi0 hz0 hz1 hz2 rfl (by omega) (.slice none 0 0) 0 [] rfl (World.ownsRow_nil _ _ _ _) none 0 0 [] rfl rfl (by intro h; omega) (by simp) (by omega) (by omega) (Nat.le_refl _) ?_; intro A4 c4 w4 hown4 hg4 hat4)
    simp only [Nat.add_zero, List.append_nil] at hown4
    have hWb : Below w3.heap.size w3 w4 := below_app (Below.refl _ _) (World.ownsRow_nil w3 w3.heap.size 3 1) hg4 (Nat.le_refl _) (Nat.le_refl _)
    clear hg4 hat4
    go_loopg [8] (nn p) (fun gh s wr => ∃ (xs : List Int) (A1 : Option Addr) (c1 : Nat), xs.length ≤ nn p ∧ gh = nn p - xs.length ∧ s = .slice A1 xs.length c1 ∧ Hid (endT (clT p) (nn p - xs.length) xs = ys) ∧ Hid (AbsTo xs (600 * xs.length)) ∧ Below w3.heap.size w3 wr ∧ OwnI w3.heap.size wr (.slice A1 xs.length c1) xs)
    case atStart => exact ⟨[], A4, c4, Nat.zero_le _, rfl, rfl, Hys, fun i => by simp, hWb, hown4⟩
    case round =>
      clear hWb hown4
      obtain ⟨xs, A1, c1, hk, rfl, rfl, HE, Hx, hW, hown⟩ := hrel
      have p0 := ((bcell hW).1 _ 0 hDl).trans hD.c0
      by_cases hlt : xs.length < nn p
      · have hz : (xs.length : Int) < p.n := by have := Hnn.out; omega
        obtain ⟨v, hv⟩ : ∃ v, nextT (clT p) xs = v := ⟨_, rfl⟩
        have Hv := hide hv
        have hva := nextT_abs hS Hx.out (by omega) (by omega) hlt
        rw [hv] at hva
        have hl2 : (xs ++ [v]).length = xs.length + 1 := by simp
        have HE2 : Hid (endT (clT p) (nn p - (xs.length + 1)) (xs ++ [v]) = ys) := by
          unfold Hid
          rw [← HE.out, show nn p - xs.length = (nn p - (xs.length + 1)) + 1 by omega, endT, hv]
        have Hx2 : Hid (AbsTo (xs ++ [v]) (600 * (xs.length + 1 : Nat))) := by
          have h := absTo_next Hx.out (by omega) hva
          intro i
          have := h i
          omega
        have Hl2 := hide hl2
        clear hv hl2
        obtain ⟨g1, hrd⟩ := own_IntsR hown
        have hTr := (hT.below hW).more hW.size
        have hM : (0 : Int) ≤ 600 * (xs.length : Int) ∧ 600 * (xs.length : Int) ≤ 10000 := by omega
        have hWs := hW.size
        go_wp2_with (first
          | (go_at_call 121; go_fit (next_c (nn p) ob (clT p) rb rc (nn p) xs (600 * xs.length) A1 g1 0 c1 _ _ (by omega) hlt (Nat.le_refl _) hrd hTr hS Hx.out hM.1 hM.2); rintro e w5 ⟨rfl, rfl⟩; rw [Hv.out])
          | (at_builtin; refine app_list _ rfl (.tmp 25) (.tmp 29) _ rfl w3.heap.size 3 i0 _ 1 8 Try.underlying28 hi0 hz0 hz1 hz2 rfl (by omega) (.slice A1 xs.length c1) xs.length (xs.map (Value.int .i64)) rfl (hown.alloc _) _ 1 _ [.int .i64 v] rfl rfl (NewsAt.block (cs := #[.int .i64 v]) (at_new rfl)) (by simp [Value.oneCell']) (by omega) (by omega) (by simp only [World.size_alloc]; omega) ?_; intro A5 c5 w5 hown5 hg5 hat5))
        have hW5 : Below w3.heap.size w3 w5 := below_app (bthen hW (show Below wr.heap.size wr (wr.alloc (.cells #[.int .i64 v] 3)) by go_grown)) (hown.alloc (.cells #[.int .i64 v] 3)) hg5 (Nat.le_refl _) (by simp only [World.size_alloc]; omega)
        go_roundg (nn p - (xs.length + 1))
        case measure => go_light; omega
        case rel =>
          go_light
          have hl2 := Hl2.out
          exact ⟨xs ++ [v], A5, c5, by omega, by rw [hl2], by rw [hl2], by rw [hl2]; exact HE2, by rw [hl2]; exact Hx2, hW5, by unfold OwnI; rw [hl2, List.map_append]; exact hown5⟩
      · have he : Hid (xs = ys) := by
          unfold Hid
          rw [← HE.out, show nn p - xs.length = 0 by omega]; rfl
        have hz : ¬ (xs.length : Int) < p.n := by have := Hnn.out; omega
        go_wp2_with fail
        go_ret2
        have e := he.out
        subst e
        exact ⟨A1, c1, rfl, own_less hown hws, hD.bel.trans (hW.mono hws)⟩

set_option maxHeartbeats 1000000 in
set_option maxRecDepth 100000 in
theorem timesFor_q (p : Pl) (ys : List Int) (r : Bool) (h : timesFor p = (ys, r)) (A : Option Addr) (b o c B : Nat) (w : World) (hn : p.bs.length ≤ 2000000) (hB : B ≤ w.heap.size) (hR : BdsR w B b o A p.bs) :
    Calls Try.prog 37 #[.agg #[.int .i64 p.n, .slice A p.bs.length c]] w fun e w' => ∃ A1 c1, e = .returned (.tuple #[.slice A1 ys.length c1, .bool r]) ∧ OwnI w.heap.size w' (.slice A1 ys.length c1) ys ∧ Below w.heap.size w w' := by
  have hD := po_new (t := 32) (n := p.n) (c := c) (Below.refl w.heap.size w) (hR.more hB)
  clear hR hB
  go_enter Try.func37, Try.ntmps37
  go_upto_region 1 with fail
  generalize w.alloc (.cells #[.int .i64 p.n, .slice A p.bs.length c] 32) = W at hD ⊢
  have p0 := hD.c0
  have p1 := hD.c1
  have hws := hD.bel.size
  go_wp2_with (go_at_call 90; go_fit (endedFrom0_q p ys r h A b o c _ _ hn (Nat.le_refl _) hD.rd); rintro e w2 ⟨A1, c1, rfl, hown, hb⟩; replace hD := hD.below hb)
  go_ret2
  exact ⟨A1, c1, rfl, own_less hown hws, hD.bel⟩
end Go.Proofs.Ytledgblepdjjlaa
