/-
  impl: how long a part lasts; LastOf.
-/
import Derived.Test.YtofodhdpppjaoaaL83
namespace Go.Proofs.Ytofodhdpppjaoaa
set_option linter.unusedVariables false
set_option linter.unusedSimpArgs false
open Go Go.RowKit Pp

theorem in_t {n lo hi : Int} {q : Bool} (h : inB n lo hi = q) (w : World) : Calls Try.prog 55 #[.int .i64 n, .int .i64 lo, .int .i64 hi] w fun e w' => e = .returned (.bool q) ∧ w' = w := by
  subst h
  exact (in_c n lo hi w).mono (fun e w' h => ⟨h.1, h.2.symm⟩)
/-- What is told of it. -/
def LastR (w : World) (b2 o2 : Nat) (xs : List Int) (a : Tm) (i : Nat) (v : Value) : Prop := ∃ A3 c3 ys, v = .tuple #[.int .i64 (lastV a xs i).1, .slice A3 (List.length ys) c3, .bool (lastV a xs i).2.1] ∧ ys = xs.drop (i + a.steps) ∧ ys.length ≤ c3 ∧ IntsR w w.heap.size b2 (o2 + a.steps) A3 ys
theorem lastV_small {xs : List Int} (hx : ∀ j : Nat, -100000 ≤ xs.getD j 0 ∧ xs.getD j 0 ≤ 100000) : ∀ (a : Tm) (i : Nat), -100000 * (a.size : Int) ≤ (lastV a xs i).1 ∧ (lastV a xs i).1 ≤ 100000 * (a.size : Int)
  | .step l h, i => by have := hx i; simp only [lastV, Tm.size]; omega
  | .wth a h, i => by have := lastV_small hx a i; simp only [lastV, Tm.size]; omega
  | .thn a b, i => by have := lastV_small hx a i; have := lastV_small hx b (lastV a xs i).2.2; simp only [lastV, Tm.size]; omega
  | .bth a b, i => by have := lastV_small hx a i; simp only [lastV, Tm.size]; omega
theorem IntsR.drop1 {w : World} {B b o : Nat} {A A' : Option Addr} {y : Int} {ys : List Int} (h : IntsR w B b o A (y :: ys)) (hA : 0 < ys.length → A' = some ⟨b, o + 1, none⟩) : IntsR w B b (o + 1) A' ys :=
  ⟨hA, fun hx => h.lt (by simp), fun j hj => by
    have := h.cell (j + 1) (by simp; omega)
    rw [show o + (j + 1) = o + 1 + j by omega] at this
    simpa using this⟩
theorem IntsR.next {w w' : World} {b o : Nat} {A : Option Addr} {xs : List Int} (h : IntsR w w.heap.size b o A xs) (hb : Below w.heap.size w w') : IntsR w' w'.heap.size b o A xs := (h.below hb).more hb.size

theorem LastR.next {w w' : World} {b2 o2 : Nat} {xs : List Int} {a : Tm} {i : Nat} {v : Value} (h : LastR w b2 o2 xs a i v) (hb : Below w.heap.size w w') : LastR w' b2 o2 xs a i v := by
  obtain ⟨A3, c3, ys, h1, h2, h3, h4⟩ := h
  exact ⟨A3, c3, ys, h1, h2, h3, h4.next hb⟩
set_option maxHeartbeats 4000000 in
set_option maxRecDepth 100000 in
theorem last_q (xs : List Int) (hx : ∀ j : Nat, -100000 ≤ xs.getD j 0 ∧ xs.getD j 0 ≤ 100000) : ∀ (a : Tm) (p : Nat) (w : World) (i : Nat) (ys : List Int) (A2 : Option Addr) (b2 o2 c2 : Nat), a.size ≤ 20 → ys = xs.drop i → a.steps ≤ ys.length → ys.length ≤ c2 → IntsR w w.heap.size b2 o2 A2 ys → PtR w w.heap.size a p →
    Calls Try.prog 67 #[.pointer (some ⟨p, 0, none⟩), .slice A2 ys.length c2] w fun e w' => ∃ v, e = .returned v ∧ LastR w' b2 o2 xs a i v ∧ Below w.heap.size w w' := by
  intro a
  induction a with
  | step l h =>
    intro p w i ys A2 b2 o2 c2 hs hys hst hyc hI hP
    obtain ⟨A, c, ⟨hat, c0, c1, c2', c3⟩⟩ := hP
    dsimp only at c0 c1 c2'
    obtain ⟨y, zs, rfl⟩ : ∃ y zs, ys = y :: zs := by
      cases ys with
      | nil => simp [Tm.steps] at hst
      | cons y zs => exact ⟨y, zs, rfl⟩
    have hy : xs.getD i 0 = y := by
      have e : (xs.drop i)[0]? = some y := by rw [← hys]; rfl
      rw [List.getElem?_drop] at e
      rw [List.getD_eq_getElem?_getD]; simpa using congrArg (·.getD 0) e
    have hz : zs = xs.drop (i + 1) := by
      have := congrArg (List.drop 1) hys
      rw [List.drop_drop] at this
      simpa [Nat.add_comm] using this
    obtain rfl := hI.addr (by simp)
    have d0 : w.cell? ⟨b2, o2, none⟩ = some (.int .i64 y) := hI.cell 0 (by simp)
    obtain ⟨r, hr⟩ : ∃ r, inB y l h = r := ⟨_, rfl⟩
    have hlz : (y :: zs).length = zs.length + 1 := rfl
    have hl1 : (1 : Int) ≤ ((zs.length + 1 : Nat) : Int) := by omega
    obtain ⟨A3, hA3⟩ : ∃ A3 : Option Addr, (if c2 = 1 then some (⟨b2, o2, none⟩ : Addr) else some ⟨b2, o2 + 1, none⟩) = A3 := ⟨_, rfl⟩
    have hI3 := hI.drop1 (A' := A3) (fun h0 => by rw [← hA3, if_neg (by rw [hlz] at hyc; omega)])
    have hL : LastR w b2 o2 xs (.step l h) i (.tuple #[.int .i64 y, .slice A3 zs.length (c2 - 1), .bool r]) :=
      ⟨A3, c2 - 1, zs, by simp only [lastV]; rw [hy, hr], hz, by rw [hlz] at hyc; omega, hI3⟩
    have hcz : 0 < zs.length + 1 := by omega
    have hcz' : (0 : Int) < ((zs.length : Int) + 1) := by omega
    rw [hlz] at hyc ⊢
    have HL := hide hL
    have Hr := hide hr
    have HA3 := hide hA3
    clear hL hr hI3 hI hys hz hst hlz hA3
    go_enter Try.func67, Try.ntmps67
    go_upto_region 2 with fail
    go_quiet ((go_at_call 55; exact Calls.quiet_of_same (in_t Hr.out _)))
    rw [HA3.out]
    go_wp2_with fail
    go_ret3
    exact ⟨_, rfl, HL.out.next (bel_drewN _ _), bel_drewN _ _⟩
  | wth a h ih0 =>
    intro p w i ys A2 b2 o2 c2 hs hys0 hst hyc0 hI0 hP
    obtain ⟨A, c, b, o, q, ⟨hat, c0, c1, c2', c3⟩, rfl, hbS, hq, hP0⟩ := hP
    dsimp only at c0 c1 c2'
    dsimp only [ptr] at hq
    obtain ⟨n0, hn0⟩ : ∃ n, (lastV a xs i).1 = n := ⟨_, rfl⟩
    obtain ⟨s0, hs0⟩ : ∃ s, (lastV a xs i).2.1 = s := ⟨_, rfl⟩
    have HL : Hid ((lastV (.wth a h) xs i).1 = n0 ∧ (lastV (.wth a h) xs i).2.1 = (s0 && decide (n0 ≤ h)) ∧ (Tm.wth a h).steps = a.steps) := by
      refine ⟨hn0, ?_, rfl⟩
      simp only [lastV]; rw [hn0, hs0]
    have Hn0 := hide hn0
    have Hs0 := hide hs0
    clear hn0 hs0
    have Hys := hide hys0
    clear hys0
    cases s0
    · go_enter Try.func67, Try.ntmps67
      go_upto_region 5 with ((go_at_call 67; go_fit (ih0 _ w i ys _ b2 o2 _ (by have := hs; simp only [Tm.size] at this; omega) Hys.out (by have := hst; simp only [Tm.steps] at this; omega) hyc0 hI0 hP0); rintro e w2 ⟨v0, rfl, ⟨A5, c5, zs0, rfl, hzs0, hzc0, hJ0⟩, hb0⟩; replace hzs0 := hide hzs0); rw [Hn0.out, Hs0.out]; have e0 := ((bcell hb0).1 _ _ hat).trans c0; have e2 := ((bcell hb0).1 _ _ hat).trans c2'; have e3 := ((bcell hb0).1 _ _ hat).trans c3)
      go_quiet (fail)
      go_wp2_with fail
      go_ret3
      exact ⟨_, rfl, LastR.next ⟨A5, c5, zs0, by rw [HL.out.1, HL.out.2.1]; rfl, by rw [HL.out.2.2]; exact hzs0.out, hzc0, by rw [HL.out.2.2]; exact hJ0⟩ (bel_drewN _ _), bthen hb0 (bel_drewN _ _)⟩
    · go_enter Try.func67, Try.ntmps67
      go_upto_region 5 with ((go_at_call 67; go_fit (ih0 _ w i ys _ b2 o2 _ (by have := hs; simp only [Tm.size] at this; omega) Hys.out (by have := hst; simp only [Tm.steps] at this; omega) hyc0 hI0 hP0); rintro e w2 ⟨v0, rfl, ⟨A5, c5, zs0, rfl, hzs0, hzc0, hJ0⟩, hb0⟩; replace hzs0 := hide hzs0); rw [Hn0.out, Hs0.out]; have e0 := ((bcell hb0).1 _ _ hat).trans c0; have e2 := ((bcell hb0).1 _ _ hat).trans c2'; have e3 := ((bcell hb0).1 _ _ hat).trans c3)
      go_quiet (fail)
      go_wp2_with fail
      go_ret3
      exact ⟨_, rfl, LastR.next ⟨A5, c5, zs0, by rw [HL.out.1, HL.out.2.1]; rfl, by rw [HL.out.2.2]; exact hzs0.out, hzc0, by rw [HL.out.2.2]; exact hJ0⟩ (bel_drewN _ _), bthen hb0 (bel_drewN _ _)⟩
  | thn a b ih0 ih1 =>
    intro p w i ys A2 b2 o2 c2 hs hys0 hst hyc0 hI0 hP
    obtain ⟨A, c, bb, o, q, q', ⟨hat, c0, c1, c2', c3⟩, rfl, hbS, hq, hq', hP0, hP1⟩ := hP
    dsimp only at c0 c1 c2'
    dsimp only [ptr] at hq hq'
    obtain ⟨n0, hn0⟩ : ∃ n, (lastV a xs i).1 = n := ⟨_, rfl⟩
    obtain ⟨s0, hs0⟩ : ∃ s, (lastV a xs i).2.1 = s := ⟨_, rfl⟩
    obtain ⟨n1, hn1⟩ : ∃ n, (lastV b xs (i + a.steps)).1 = n := ⟨_, rfl⟩
    obtain ⟨s1, hs1⟩ : ∃ s, (lastV b xs (i + a.steps)).2.1 = s := ⟨_, rfl⟩
    have HL : Hid ((lastV (.thn a b) xs i).1 = n0 + n1 ∧ (lastV (.thn a b) xs i).2.1 = (s0 && s1) ∧ (Tm.thn a b).steps = a.steps + b.steps) := by
      refine ⟨?_, ?_, rfl⟩
      · simp only [lastV]; rw [lastV_next, hn0, hn1]
      · simp only [lastV]; rw [lastV_next, hs0, hs1]
    have hsm0 := lastV_small hx a i
    have hsm1 := lastV_small hx b (i + a.steps)
    rw [hn0] at hsm0
    rw [hn1] at hsm1
    have hw1 : IntKind.i64.wrap (n0 + n1) = n0 + n1 := IntWalk.i64_in _ (by simp only [Tm.size] at hs; omega)
    have Hst : Hid (a.steps ≤ ys.length ∧ b.steps ≤ (xs.drop (i + a.steps)).length) := by
      have hh : a.steps + b.steps ≤ ys.length := hst
      refine ⟨by omega, ?_⟩
      rw [hys0, List.length_drop] at hh
      rw [List.length_drop]; omega
    have Hn0 := hide hn0
    have Hs0 := hide hs0
    have Hn1 := hide hn1
    have Hs1 := hide hs1
    have Hys := hide hys0
    clear hn0 hs0 hn1 hs1 hsm0 hsm1 hys0
    cases s0
    all_goals
      go_enter Try.func67, Try.ntmps67
      go_upto_region 6 with ((go_at_call 67; go_fit (ih0 _ w i ys _ b2 o2 _ (by have := hs; simp only [Tm.size] at this; omega) Hys.out Hst.out.1 hyc0 hI0 hP0); rintro e w2 ⟨v0, rfl, ⟨A5, c5, zs0, rfl, hzs0, hzc0, hJ0⟩, hb0⟩; replace hzs0 := hide hzs0); rw [Hn0.out, Hs0.out]; have e0 := ((bcell hb0).1 _ _ hat).trans c0; have e2 := ((bcell hb0).1 _ _ hat).trans c2'; have e3 := ((bcell hb0).1 _ _ hat).trans c3)
      have k1 := ((bcell hb0).1 _ _ hbS).trans hq'
      replace hP1 := PtR.next hP1 hb0
      go_wp2_with ((go_at_call 67; go_fit (ih1 _ w2 (i + a.steps) zs0 _ b2 (o2 + a.steps) _ (by have := hs; simp only [Tm.size] at this; omega) hzs0.out (by rw [hzs0.out]; exact Hst.out.2) hzc0 hJ0 hP1); rintro e w3 ⟨v1, rfl, ⟨A6, c6, zs1, rfl, hzs1, hzc1, hJ1⟩, hb1⟩; replace hzs1 := hide hzs1); rw [Hn1.out, Hs1.out]; have f0 := ((bcell hb1).1 _ _ (Nat.lt_of_lt_of_le hat hb0.size)).trans e0)
      go_ret3
      exact ⟨_, rfl, ⟨A6, c6, zs1, by rw [HL.out.1, HL.out.2.1]; rfl, by rw [HL.out.2.2, hzs1.out, Nat.add_assoc], hzc1, by rw [HL.out.2.2, ← Nat.add_assoc]; exact hJ1⟩, bthen hb0 hb1⟩
  | bth a b ih0 ih1 =>
    intro p w i ys A2 b2 o2 c2 hs hys0 hst hyc0 hI0 hP
    obtain ⟨A, c, bb, o, q, q', ⟨hat, c0, c1, c2', c3⟩, rfl, hbS, hq, hq', hP0, hP1⟩ := hP
    dsimp only at c0 c1 c2'
    dsimp only [ptr] at hq hq'
    obtain ⟨n0, hn0⟩ : ∃ n, (lastV a xs i).1 = n := ⟨_, rfl⟩
    obtain ⟨s0, hs0⟩ : ∃ s, (lastV a xs i).2.1 = s := ⟨_, rfl⟩
    obtain ⟨n1, hn1⟩ : ∃ n, (lastV b xs (i + a.steps)).1 = n := ⟨_, rfl⟩
    obtain ⟨s1, hs1⟩ : ∃ s, (lastV b xs (i + a.steps)).2.1 = s := ⟨_, rfl⟩
    have HL : Hid ((lastV (.bth a b) xs i).1 = n0 ∧ (lastV (.bth a b) xs i).2.1 = (s0 && s1 && decide (n0 = n1)) ∧ (Tm.bth a b).steps = a.steps + b.steps) := by
      refine ⟨?_, ?_, rfl⟩
      · simp only [lastV]; rw [hn0]
      · simp only [lastV]; rw [lastV_next, hs0, hs1, hn0, hn1]
    have hsm0 := lastV_small hx a i
    have hsm1 := lastV_small hx b (i + a.steps)
    rw [hn0] at hsm0
    rw [hn1] at hsm1
    have Hst : Hid (a.steps ≤ ys.length ∧ b.steps ≤ (xs.drop (i + a.steps)).length) := by
      have hh : a.steps + b.steps ≤ ys.length := hst
      refine ⟨by omega, ?_⟩
      rw [hys0, List.length_drop] at hh
      rw [List.length_drop]; omega
    have Hn0 := hide hn0
    have Hs0 := hide hs0
    have Hn1 := hide hn1
    have Hs1 := hide hs1
    have Hys := hide hys0
    clear hn0 hs0 hn1 hs1 hsm0 hsm1 hys0
    cases s0
    all_goals cases s1
    all_goals
      go_enter Try.func67, Try.ntmps67
      go_upto_region 6 with ((go_at_call 67; go_fit (ih0 _ w i ys _ b2 o2 _ (by have := hs; simp only [Tm.size] at this; omega) Hys.out Hst.out.1 hyc0 hI0 hP0); rintro e w2 ⟨v0, rfl, ⟨A5, c5, zs0, rfl, hzs0, hzc0, hJ0⟩, hb0⟩; replace hzs0 := hide hzs0); rw [Hn0.out, Hs0.out]; have e0 := ((bcell hb0).1 _ _ hat).trans c0; have e2 := ((bcell hb0).1 _ _ hat).trans c2'; have e3 := ((bcell hb0).1 _ _ hat).trans c3)
      have k1 := ((bcell hb0).1 _ _ hbS).trans hq'
      replace hP1 := PtR.next hP1 hb0
      go_wp2_with ((go_at_call 67; go_fit (ih1 _ w2 (i + a.steps) zs0 _ b2 (o2 + a.steps) _ (by have := hs; simp only [Tm.size] at this; omega) hzs0.out (by rw [hzs0.out]; exact Hst.out.2) hzc0 hJ0 hP1); rintro e w3 ⟨v1, rfl, ⟨A6, c6, zs1, rfl, hzs1, hzc1, hJ1⟩, hb1⟩; replace hzs1 := hide hzs1); rw [Hn1.out, Hs1.out]; have f0 := ((bcell hb1).1 _ _ (Nat.lt_of_lt_of_le hat hb0.size)).trans e0)
      go_ret3
      exact ⟨_, rfl, ⟨A6, c6, zs1, by rw [HL.out.1, HL.out.2.1]; rfl, by rw [HL.out.2.2, hzs1.out, Nat.add_assoc], hzc1, by rw [HL.out.2.2, ← Nat.add_assoc]; exact hJ1⟩, bthen hb0 hb1⟩

def lastOf (t : List Mk) (xs : List Int) : Int × Bool := match termOf t with
  | some a => if a.steps = xs.length ∧ (lastV a xs 0).2.1 = true then ((lastV a xs 0).1, true) else (-1, false)
  | none => (-1, false)
theorem stepsOf_tm {t : List Mk} {a : Tm} (h : termOf t = some a) : stepsOf t = a.steps := by
  obtain ⟨hf, hm, h11⟩ := term_back h
  unfold stepsOf termOk
  rw [h, if_pos (by simp), ← hm, (cntK_marks a).1]
set_option maxHeartbeats 2000000 in
theorem lastOf_c (t : List Mk) (xs : List Int) (hx : ∀ j : Nat, -100000 ≤ xs.getD j 0 ∧ xs.getD j 0 ≤ 100000) (A A2 : Option Addr) (b o c b2 o2 c2 B : Nat) (w : World) (hB : B ≤ w.heap.size) (hR : MkR w B b o A t) (hI : IntsR w B b2 o2 A2 xs) (hn : t.length ≤ 2000000) (hc2 : xs.length ≤ c2) :
    Calls Try.prog 34 #[.slice A t.length c, .slice A2 xs.length c2] w fun e w' => e = .returned (.tuple #[.int .i64 (lastOf t xs).1, .bool (lastOf t xs).2]) ∧ Below w.heap.size w w' := by
  cases ht : termOf t with
  | none =>
    have hl : lastOf t xs = (-1, false) := by unfold lastOf; rw [ht]
    rw [hl]
    have Ht := hide ht
    clear ht hl
    go_enter Try.func34, Try.ntmps34
    go_wp2_with (go_at_call 39; go_fit (build_no t Ht.out A b o c B w hB hR hn); rintro e w2 ⟨rfl, hb⟩)
    go_ret2
    exact ⟨rfl, hb⟩
  | some a =>
    have hl : lastOf t xs = if a.steps = xs.length ∧ (lastV a xs 0).2.1 = true then ((lastV a xs 0).1, true) else (-1, false) := by unfold lastOf; rw [ht]
    have hst := stepsOf_tm ht
    obtain ⟨hf, hm, h11⟩ := term_back ht
    have hsz : a.size ≤ 20 := by rw [← Tm.marks_len, hm]; omega
    have Ht := hide ht
    have Hst := hide hst
    clear ht hm h11 hst
    by_cases hlen : a.steps = xs.length
    · have hz : ((xs.length : Int) != (a.steps : Int)) = false := by simp [hlen]
      obtain ⟨n0, hn0⟩ : ∃ n, (lastV a xs 0).1 = n := ⟨_, rfl⟩
      obtain ⟨s0, hs0⟩ : ∃ s, (lastV a xs 0).2.1 = s := ⟨_, rfl⟩
      rw [hn0, hs0] at hl
      have hl2 : lastOf t xs = if s0 = true then (n0, true) else (-1, false) := by
        rw [hl]
        cases s0
        · rw [if_neg (by simp), if_neg (by simp)]
        · rw [if_pos ⟨hlen, rfl⟩, if_pos rfl]
      rw [hl2]
      have Hn0 := hide hn0
      have Hs0 := hide hs0
      have Hlen := hide hlen
      clear hn0 hs0 hl hl2 hlen
      cases s0
      all_goals
        go_enter Try.func34, Try.ntmps34
        go_wp2_with (first
          | (go_at_call 39; go_fit (build_yes t Ht.out A b o c B w hB hR hn); rintro e w2 ⟨p, rfl, hP, hb⟩; dsimp only [ptr])
          | (go_at_call 26; go_fit (stepsOf_c t A b o c _ _ hb.size (hR.more hB |>.below hb) hn); rintro e w3 ⟨rfl, hb3⟩; rw [Hst.out]; have hb4 := bthen hb hb3; have hP4 := PtR.next hP hb3)
          | (go_at_call 67; go_fit (last_q xs hx a _ _ 0 xs A2 b2 o2 c2 hsz rfl (Nat.le_of_eq Hlen.out) hc2 (((hI.more hB).below hb4).more hb4.size) hP4); rintro e w5 ⟨v, rfl, ⟨A5, c5, ys, rfl, hys, hyc, hJ⟩, hb5⟩; rw [Hn0.out, Hs0.out]; clear hys))
        go_ret2
        exact ⟨rfl, bthen hb4 hb5⟩
    · have hl2 : lastOf t xs = (-1, false) := by rw [hl, if_neg (fun h => hlen h.1)]
      rw [hl2]
      have hz : ((xs.length : Int) != (a.steps : Int)) = true := by simp; omega
      clear hl hl2 hlen
      go_enter Try.func34, Try.ntmps34
      go_wp2_with (first
        | (go_at_call 39; go_fit (build_yes t Ht.out A b o c B w hB hR hn); rintro e w2 ⟨p, rfl, hP, hb⟩; dsimp only [ptr])
        | (go_at_call 26; go_fit (stepsOf_c t A b o c _ _ hb.size (hR.more hB |>.below hb) hn); rintro e w3 ⟨rfl, hb3⟩; rw [Hst.out]))
      go_ret2
      exact ⟨rfl, bthen hb hb3⟩
end Go.Proofs.Ytofodhdpppjaoaa
