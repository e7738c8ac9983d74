/-
  (impl.Deal).comings: the iterator's contract.
-/
import Derived.Test.YtdijfkpccbkdfaaZ1
import Derived.Test.YtdijfkpccbkdfaaZ2
import Derived.Test.YtdijfkpccbkdfaaL24
import Derived.Test.YtdijfkpccbkdfaaI3
namespace Go.Proofs.Ytdijfkpccbkdfaa
set_option linter.unusedVariables false
set_option linter.unusedSimpArgs false
open Go.RowKit Go.Shelf Pp

namespace Pp
/-- All ways in which the promises may last, in the order in which they come. -/
def comeF (ps : List Pr) : Nat → List Int → List (List Int)
  | 0, ls => [ls]
  | m + 1, ls => match ps[ls.length]? with
    | none => []
    | some x => (List.range (x.h - x.l + 1).toNat).flatMap fun (i : Nat) => comeF ps m (ls ++ [x.l + (i : Int)])
/-- .. those of the first k numbers. -/
def comeK (ps : List Pr) (m : Nat) (ls : List Int) (x : Pr) (k : Nat) : List (List Int) := (List.range k).flatMap fun (i : Nat) => comeF ps m (ls ++ [x.l + (i : Int)])
theorem comeK_succ (ps : List Pr) (m : Nat) (ls : List Int) (x : Pr) (k : Nat) : comeK ps m ls x (k + 1) = comeK ps m ls x k ++ comeF ps m (ls ++ [x.l + (k : Int)]) := by
  simp [comeK, List.range_succ]
theorem comeK_le (ps : List Pr) (m : Nat) (ls : List Int) (x : Pr) (k N : Nat) (h : k ≤ N) : comeK ps m ls x k <+: comeK ps m ls x N := by
  induction N with
  | zero => obtain rfl : k = 0 := by omega
            exact List.prefix_refl _
  | succ N ih =>
    by_cases e : k = N + 1
    · subst e; exact List.prefix_refl _
    · rw [comeK_succ]; exact (ih (by omega)).trans (List.prefix_append _ _)
end Pp

/-- The boxes of the iterator: the deal's, yield's, the walk's. -/
structure IB (W : World) (D Y V l b2 o2 : Nat) (A2 : Option Addr) (c2 : Nat) (ps : List Pr) : Prop where
  d2 : W.cell? ⟨D, 2, none⟩ = some (.slice A2 ps.length c2)
  y0 : W.cell? ⟨Y, 0, none⟩ = some (.func (.yield l) #[] #[])
  v0 : W.cell? ⟨V, 0, none⟩ = some (.func (.func 104) #[] #[.pointer (some ⟨D, 0, none⟩), .pointer (some ⟨Y, 0, none⟩), .pointer (some ⟨V, 0, none⟩)])
  rp : CsR W W.heap.size b2 o2 A2 ps.length (prCs ps)
theorem CsR.kx {X : Nat} {W W' : World} {b o n : Nat} {A : Option Addr} {cs : List Value} (h : CsR W W.heap.size b o A n cs) (hk : KX X W W') (hb : 0 < n → b ≠ X) : CsR W' W'.heap.size b o A n cs :=
  ⟨h.addr, fun hx => Nat.lt_of_lt_of_le (h.lt hx) hk.size, fun j u hu => hk.cell (h.cell j u hu) (hb (h.pos hu)), h.none⟩
theorem IB.kx {X : Nat} {W W' : World} {D Y V l b2 o2 : Nat} {A2 : Option Addr} {c2 : Nat} {ps : List Pr} (h : IB W D Y V l b2 o2 A2 c2 ps) (hk : KX X W W') (h1 : D ≠ X ∧ Y ≠ X ∧ V ≠ X) (hb : 0 < ps.length → b2 ≠ X) : IB W' D Y V l b2 o2 A2 c2 ps :=
  ⟨hk.cell h.d2 h1.1, hk.cell h.y0 h1.2.1, hk.cell h.v0 h1.2.2, h.rp.kx hk hb⟩

set_option maxHeartbeats 2000000 in
set_option maxRecDepth 100000 in
theorem walk0_c (ps : List Pr) (ls : List Int) (hm : ls.length = ps.length) (h2 : ps.length ≤ 2) (l X B0 n : Nat) (Inv Stop : List (List Int) → World → Prop) (hY : YieldR n l X Inv Stop) (pre : List (List Int)) (D Y V b2 o2 : Nat) (A A2 : Option Addr) (b o c c2 : Nat) (W : World)
    (hB : IB W D Y V l b2 o2 A2 c2 ps) (hI : Inv pre W) (hR : IntsR W W.heap.size b o A ls) (hbX : 0 < ls.length → b ≠ X) :
    Calls Try.prog 104 #[.slice A ls.length c, .pointer (some ⟨D, 0, none⟩), .pointer (some ⟨Y, 0, none⟩), .pointer (some ⟨V, 0, none⟩)] W fun e W' =>
      (e = .returned (.bool true) ∧ Inv (pre ++ comeF ps 0 ls) W' ∧ KX X W W') ∨ (e = .returned (.bool false) ∧ (∃ pre', Stop pre' W' ∧ pre' <+: pre ++ comeF ps 0 ls) ∧ KX X W W') := by
  refine (callsIn_wide (n := 2)).1 ?_
  obtain ⟨fn, tmps, assign, body, hy, hRd⟩ := yieldAt_any 1 (hY pre ls A b o c W hI hR hbX (by omega))
  have d2 := hB.d2
  have y0 := hB.y0
  rw [hm] at hy ⊢
  refine callsIn_of_wp Try.func104 rfl trivial ?_ rfl
  simp only [Try.ntmps104, List.size_toArray, List.length_cons, List.length_nil, Nat.reduceAdd, Nat.reduceSub, Array.replicate_succ, Array.replicate_zero, List.push_toArray, List.append_toArray, List.nil_append, List.cons_append]
  gi_wp2
  refine hRd.mono ?_
  rintro e W' (⟨rfl, hi, hk⟩ | ⟨rfl, hs, hk⟩)
  · gi_wp2
    go_ret
    exact .inl ⟨rfl, by simpa [comeF] using hi, hk⟩
  · gi_wp2
    go_ret
    exact .inr ⟨rfl, ⟨_, hs, by simp [comeF]⟩, hk⟩

set_option maxHeartbeats 4000000 in
set_option maxRecDepth 100000 in
theorem walk_c (ps : List Pr) (h2 : ps.length ≤ 2) (hok : ∀ (i : Nat) (x : Pr), ps[i]? = some x → 0 ≤ x.l ∧ x.l ≤ x.h ∧ x.h ≤ 12) (l X B0 n : Nat) (Inv Stop : List (List Int) → World → Prop) (hY : YieldR n l X Inv Stop) (hst : ∀ pre A B, Inv pre A → Below B0 A B → Inv pre B) (D Y V b2 o2 : Nat) (A2 : Option Addr) (c2 : Nat)
    (hX3 : D ≠ X ∧ Y ≠ X ∧ V ≠ X) (hX2 : 0 < ps.length → b2 ≠ X) (hX0 : X < B0) : ∀ (m : Nat) (ls : List Int) (pre : List (List Int)) (A : Option Addr) (b o c : Nat) (W : World), ls.length + m = ps.length →
    IB W D Y V l b2 o2 A2 c2 ps → Inv pre W → IntsR W W.heap.size b o A ls → (0 < ls.length → b ≠ X) → B0 ≤ W.heap.size →
    Calls Try.prog 104 #[.slice A ls.length c, .pointer (some ⟨D, 0, none⟩), .pointer (some ⟨Y, 0, none⟩), .pointer (some ⟨V, 0, none⟩)] W fun e W' =>
      (e = .returned (.bool true) ∧ Inv (pre ++ comeF ps m ls) W' ∧ KX X W W') ∨ (e = .returned (.bool false) ∧ (∃ pre', Stop pre' W' ∧ pre' <+: pre ++ comeF ps m ls) ∧ KX X W W') := by
  intro m
  induction m with
  | zero =>
    intro ls pre A b o c W hm hB hI hR hbX _
    exact walk0_c ps ls (by omega) h2 l X B0 n Inv Stop hY pre D Y V b2 o2 A A2 b o c c2 W hB hI hR hbX
  | succ m ih =>
    intro ls pre A b o c W hm hB hI hR hbX hBW
    obtain ⟨i0, hi0, hz0, hz1, hz2⟩ := info_parts infoI
    have hlt : ls.length < ps.length := by omega
    have hz : ¬ (ls.length : Int) = (ps.length : Int) := by omega
    have hlt' : (ls.length : Int) < (ps.length : Int) := by omega
    have hl0 : (0 : Int) ≤ (ls.length : Int) := by omega
    obtain rfl := hB.rp.addr (by omega)
    have hx := List.getElem?_eq_getElem hlt
    have hxo := hok _ _ hx
    obtain ⟨d0, d1, d2', d3⟩ := pr_cells hB.rp hx
    have hcF : Hid (comeF ps (m + 1) ls = comeK ps m ls ps[ls.length] (ps[ls.length].h - ps[ls.length].l + 1).toNat) := by unfold Hid comeK; rw [comeF, hx]
    generalize ps[ls.length] = x at hx hxo d0 d1 d2' d3 hcF
    obtain ⟨hx1, hx2, hx3⟩ := hxo
    clear hx
    have p2 := hB.d2
    have hal : Below W.heap.size W (W.alloc (.cells #[.int .i64 x.f, .int .i64 x.t, .int .i64 x.l, .int .i64 x.h] 40)) := by go_grown
    have hQ := cb_new W [.int .i64 x.f, .int .i64 x.t, .int .i64 x.l, .int .i64 x.h] 40
    have hk0 : KX X W (W.alloc (.cells #[.int .i64 x.f, .int .i64 x.t, .int .i64 x.l, .int .i64 x.h] 40)) := KX.below hal
    have hB1 := hB.kx hk0 hX3 hX2
    have hI1 := hst _ _ _ hI (hal.mono hBW)
    have hR1 := hR.kx hk0 hbX
    have hXb : W.heap.size ≠ X := by omega
    go_enter Try.func104, Try.ntmps104
    go_upto_region 5 with fail
    try (rename ((ls.length : Int) == (ps.length : Int)) = false => hee; clear hee)
    clear hz
    have hW1s := hal.size
    generalize W.alloc (.cells #[.int .i64 x.f, .int .i64 x.t, .int .i64 x.l, .int .i64 x.h] 40) = W1 at hQ hk0 hB1 hI1 hR1 hW1s ⊢
    generalize W.heap.size = Xb at hQ hXb hW1s hBW ⊢
    clear hB hI hR hal d0 d1 d2' d3 p2
    obtain ⟨N, hN⟩ : ∃ N, (x.h - x.l + 1).toNat = N := ⟨_, rfl⟩
    rw [hN] at hcF
    have hN2 : (N : Int) = x.h - x.l + 1 := by omega
    clear hN
    go_loopg [7] N (fun gh s wr => ∃ k : Nat, k ≤ N ∧ gh = N - k ∧ s = .int .i64 (x.l + k) ∧ Inv (pre ++ comeK ps m ls x k) wr ∧ KX X W1 wr ∧ IB wr D Y V l b2 o2 (some ⟨b2, o2, none⟩) c2 ps ∧ IntsR wr wr.heap.size b o A ls ∧ CB wr Xb [.int .i64 x.f, .int .i64 x.t, .int .i64 x.l, .int .i64 x.h])
    case atStart => exact ⟨0, Nat.zero_le _, rfl, by simp, by simpa [comeK] using hI1, KX.below (Below.refl _ _), hB1, hR1, hQ⟩
    case round =>
      clear hQ hB1 hI1 hR1
      obtain ⟨k, hk, rfl, rfl, hI, hkx, hB, hR, hQ⟩ := hrel
      have q3 := hQ.c 3 _ rfl
      have v0 := hB.v0
      have hVl := World.block_lt_of_cell? _ _ v0
      have hBw : B0 ≤ wr.heap.size := by have := hkx.size; omega
      by_cases hlk : k < N
      · have hc : x.l + (k : Int) ≤ x.h := by omega
        obtain ⟨v, hv⟩ : ∃ v : Int, x.l + (k : Int) = v := ⟨_, rfl⟩
        have Hv := hide hv
        have Hv2 : Hid (v + 1 = x.l + ((k + 1 : Nat) : Int)) := by unfold Hid; omega
        rw [hv] at hc ⊢
        have hv1 : 0 ≤ v ∧ v ≤ 12 := by omega
        obtain ⟨hv2, hv3⟩ := hv1
        clear hv
        go_upto_region 7 with fail
        refine wp_regionE (fun w' => w'.cell? ⟨V, 0, none⟩ = some (.func (.func 104) #[] #[.pointer (some ⟨D, 0, none⟩), .pointer (some ⟨Y, 0, none⟩), .pointer (some ⟨V, 0, none⟩)])) 6 (by kernel_rfl) ?_
        change wpE _ _ _ _ _ _ 8 #[false, false, false, false, false, false, false, false] _ _
        have hS0 : wr.drew.cell? ⟨V, 0, none⟩ = some (.func (.func 104) #[] #[.pointer (some ⟨D, 0, none⟩), .pointer (some ⟨Y, 0, none⟩), .pointer (some ⟨V, 0, none⟩)]) := v0
        refine wpE_take' (v := ?_) 0 [6] (of_decide_eq_true (by kernel_rfl)) (by kernel_rfl) (by kernel_rfl) (by kernel_rfl) (by kernel_rfl) (fun _ _ _ h => h) (by kernel_rfl) ?_ hS0 ?_
        rotate_left
        · intro w' hSw
          simp only [List.getElem_toArray, List.getElem_cons_succ, List.getElem_cons_zero]
          go_simp
          all_goals with_reducible rfl
        simp only [List.getElem_toArray, List.getElem_cons_succ, List.getElem_cons_zero, Act.put, List.setIfInBounds_toArray, List.set_cons_zero, List.set_cons_succ]
        refine wpE_take' (v := ?_) 1 [2, 5, 6] (of_decide_eq_true (by kernel_rfl)) (by kernel_rfl) (by kernel_rfl) (by kernel_rfl) (by kernel_rfl) (fun _ _ _ h => h) (by kernel_rfl) ?_ hS0 ?_
        rotate_left
        · intro w' hSw
          simp only [List.getElem_toArray, List.getElem_cons_succ, List.getElem_cons_zero]
          go_simp
          all_goals with_reducible rfl
        simp only [List.getElem_toArray, List.getElem_cons_succ, List.getElem_cons_zero, Act.put, List.setIfInBounds_toArray, List.set_cons_zero, List.set_cons_succ]
        refine wpE_take' (v := ?_) 3 [4, 5, 6] (of_decide_eq_true (by kernel_rfl)) (by kernel_rfl) (by kernel_rfl) (by kernel_rfl) (by kernel_rfl) (fun _ _ _ h => h) (by kernel_rfl) ?_ hS0 ?_
        rotate_left
        · intro w' hSw
          simp only [List.getElem_toArray, List.getElem_cons_succ, List.getElem_cons_zero]
          go_simp
          all_goals with_reducible rfl
        simp only [List.getElem_toArray, List.getElem_cons_succ, List.getElem_cons_zero, Act.put, List.setIfInBounds_toArray, List.set_cons_zero, List.set_cons_succ]
        refine wpE_two 2 4 (of_decide_eq_true (by kernel_rfl)) (of_decide_eq_true (by kernel_rfl)) (by kernel_rfl) (by kernel_rfl) (by kernel_rfl) (fun K hK => ?_) (fun K hK => ?_)
        · simp only [List.getElem_toArray, List.getElem_cons_succ, List.getElem_cons_zero]
          refine app_wp _ (.const (.slice none 0 0)) (.tmp 32) _ rfl wr.heap.size 3 i0 _ 1 8 Try.underlying29 hi0 hz0 hz1 hz2 rfl (by omega) (.slice none 0 0) 0 [] rfl (World.ownsRow_nil _ _ _ _) A ls.length c (ls.map (Value.int .i64)) rfl (by simp) ((hR.below (show Below wr.heap.size wr wr.drew by go_grown)).news) (ints_one ls) (by omega) (by omega) (Nat.le_refl _) ?_
          intro A4 c4 w4 hown4 hg4 hat4
          simp only [Nat.zero_add, List.nil_append] at hown4 ⊢
          have hb40 : Below wr.heap.size wr w4 := below_app (show Below wr.heap.size wr wr.drew by go_grown) (World.ownsRow_nil wr.drew wr.heap.size 3 1) hg4 (Nat.le_refl _) (Nat.le_refl _)
          refine hK.out _ _ (.inr (((bcell hb40).1 _ 0 hVl).trans v0)) ?_
          clear hK K
          simp only [Act.put, List.setIfInBounds_toArray, List.set_cons_zero, List.set_cons_succ]
          refine wpE_step' 4 (of_decide_eq_true (by kernel_rfl)) (by kernel_rfl) (by kernel_rfl) (fun K hK => ?_)
          simp only [List.getElem_toArray, List.getElem_cons_succ, List.getElem_cons_zero]
          go_simp
          have hb4 : Below wr.heap.size wr (w4.alloc (.cells #[.int .i64 v] 3)) := bthen hb40 (by go_grown)
          have hownB := hown4.alloc (.cells #[.int .i64 v] 3)
          have hs4 := hb4.size
          refine hK.out _ _ (.inr (((bcell hb4).1 _ 0 hVl).trans v0)) ?_
          clear hK K
          simp only [Act.put, List.setIfInBounds_toArray, List.set_cons_zero, List.set_cons_succ]
          refine wpE_step' 5 (of_decide_eq_true (by kernel_rfl)) (by kernel_rfl) (by kernel_rfl) (fun K hK => ?_)
          simp only [List.getElem_toArray, List.getElem_cons_succ, List.getElem_cons_zero]
          refine app_wp _ (.tmp 33) (.tmp 35) _ rfl wr.heap.size 3 i0 _ 1 8 Try.underlying29 hi0 hz0 hz1 hz2 rfl (by omega) (.slice A4 ls.length c4) ls.length (ls.map (Value.int .i64)) rfl hownB _ 1 _ [.int .i64 v] rfl rfl (NewsAt.block (cs := #[.int .i64 v]) (at_new rfl)) (by simp [Value.oneCell']) (by omega) (by omega) hs4 ?_
          intro A5 c5 w5 hown5 hg5 hat5
          have hb5 : Below wr.heap.size wr w5 := below_app hb4 hownB hg5 (Nat.le_refl _) hs4
          have hlen5 : (ls ++ [v]).length = ls.length + 1 := by simp
          have hI9 : OwnI wr.heap.size w5 (.slice A5 (ls ++ [v]).length c5) (ls ++ [v]) := by unfold OwnI; rw [hlen5, List.map_append]; exact hown5
          obtain ⟨g5, hr5⟩ := own_IntsR hI9
          have hg5b : wr.heap.size ≤ g5 := by obtain rfl := hr5.addr (by simp); exact (hI9.lt g5 rfl).1
          have hk5 : KX X wr w5 := KX.below hb5
          have hB5 := hB.kx hk5 hX3 hX2
          have hI5 := hst _ _ _ hI (hb5.mono hBw)
          have hv5 := hB5.v0
          refine hK.out _ _ (.inr hv5) ?_
          clear hK K
          simp only [Act.put, List.setIfInBounds_toArray, List.set_cons_zero, List.set_cons_succ]
          refine wpE_step' 6 (of_decide_eq_true (by kernel_rfl)) (by kernel_rfl) (by kernel_rfl) (fun K hK => ?_)
          simp only [List.getElem_toArray, List.getElem_cons_succ, List.getElem_cons_zero]
          go_simp
          go_at_call 104
          have hcall := ih (ls ++ [v]) (pre ++ comeK ps m ls x k) A5 g5 0 c5 w5 (by simp; omega) hB5 hI5 hr5 (fun _ e => by have := hg5b; omega) (by have := hb5.size; omega)
          rw [hlen5] at hcall
          refine hcall.mono ?_
          clear hcall
          rintro e W6 (⟨rfl, hi6, hk6⟩ | ⟨rfl, ⟨pre', hs6, hp6⟩, hk6⟩)
          · have hB6 := hB5.kx hk6 hX3 hX2
            have hv6 := hB6.v0
            refine hK.out _ _ (.inl rfl) ?_
            clear hK K
            simp only [Act.put, List.setIfInBounds_toArray, List.set_cons_zero, List.set_cons_succ]
            refine wpE_step' 7 (of_decide_eq_true (by kernel_rfl)) (by kernel_rfl) (by kernel_rfl) (fun K hK => ?_)
            simp only [List.getElem_toArray, List.getElem_cons_succ, List.getElem_cons_zero]
            go_simp
            refine hK.out _ _ (.inr hv6) ?_
            clear hK K
            simp only [Act.put, List.setIfInBounds_toArray, List.set_cons_zero, List.set_cons_succ]
            refine wpE_done (by kernel_rfl) ?_ _
            have hk7 := hk5.trans hk6
            have hR6 := hR.kx hk7 hbX
            have hQ6 : CB W6 Xb [.int .i64 x.f, .int .i64 x.t, .int .i64 x.l, .int .i64 x.h] := ⟨Nat.lt_of_lt_of_le hQ.ex hk7.size, fun i u hu => hk7.cell (hQ.c i u hu) hXb⟩
            have hI6 : Inv (pre ++ comeK ps m ls x (k + 1)) W6 := by rw [comeK_succ, Hv.out, ← List.append_assoc]; exact hi6
            have hk8 := hkx.trans hk7
            clear hB5 hI5 hr5 hi6
            go_wp2_with fail
            go_roundg (N - (k + 1))
            case measure => go_light; omega
            case rel => go_light; exact ⟨k + 1, by omega, rfl, by rw [← Hv2.out], hI6, hk8, hB6, hR6, hQ6⟩
          · have hB6 := hB5.kx hk6 hX3 hX2
            have hv6 := hB6.v0
            refine hK.out _ _ (.inl rfl) ?_
            clear hK K
            simp only [Act.put, List.setIfInBounds_toArray, List.set_cons_zero, List.set_cons_succ]
            refine wpE_step' 7 (of_decide_eq_true (by kernel_rfl)) (by kernel_rfl) (by kernel_rfl) (fun K hK => ?_)
            simp only [List.getElem_toArray, List.getElem_cons_succ, List.getElem_cons_zero]
            go_simp
            refine hK.out _ _ (.inr hv6) ?_
            clear hK K
            simp only [Act.put, List.setIfInBounds_toArray, List.set_cons_zero, List.set_cons_succ]
            refine wpE_done (by kernel_rfl) ?_ _
            have hk8 := (hkx.trans hk5).trans hk6
            have hp7 : pre' <+: pre ++ comeK ps m ls x N := by
              rw [← Hv.out, List.append_assoc, ← comeK_succ] at hp6
              exact hp6.trans ((List.prefix_append_right_inj pre).2 (comeK_le ps m ls x (k + 1) N (by omega)))
            clear hp6
            clear hB5 hI5 hr5
            go_wp2_with fail
            go_ret
            exact .inr ⟨rfl, ⟨pre', hs6, by rw [hcF.out]; exact hp7⟩, hk0.trans hk8⟩
        · simp only [List.getElem_toArray, List.getElem_cons_succ, List.getElem_cons_zero]
          go_simp
          have hb40 : Below wr.heap.size wr (wr.alloc (.cells #[.int .i64 v] 3)).drew := by go_grown
          refine hK.out _ _ (.inr (((bcell hb40).1 _ 0 hVl).trans v0)) ?_
          clear hK K
          simp only [Act.put, List.setIfInBounds_toArray, List.set_cons_zero, List.set_cons_succ]
          refine wpE_step' 2 (of_decide_eq_true (by kernel_rfl)) (by kernel_rfl) (by kernel_rfl) (fun K hK => ?_)
          simp only [List.getElem_toArray, List.getElem_cons_succ, List.getElem_cons_zero]
          refine app_wp _ (.const (.slice none 0 0)) (.tmp 32) _ rfl wr.heap.size 3 i0 _ 1 8 Try.underlying29 hi0 hz0 hz1 hz2 rfl (by omega) (.slice none 0 0) 0 [] rfl (World.ownsRow_nil _ _ _ _) A ls.length c (ls.map (Value.int .i64)) rfl (by simp) ((hR.below hb40).news) (ints_one ls) (by omega) (by omega) hb40.size ?_
          intro A4 c4 w4 hown4 hg4 hat4
          simp only [Nat.zero_add, List.nil_append] at hown4 ⊢
          have hb4 : Below wr.heap.size wr w4 := below_app hb40 (World.ownsRow_nil _ wr.heap.size 3 1) hg4 (Nat.le_refl _) hb40.size
          have hownB := hown4
          have hs4 := hb4.size
          have hnew : w4.heap[wr.heap.size]? = some (.cells #[.int .i64 v] 3 (0, 0)) := (hg4.block _ (by simp) (by simp [Value.ownBlock])).trans (at_new (w := wr) rfl)
          refine hK.out _ _ (.inr (((bcell hb4).1 _ 0 hVl).trans v0)) ?_
          clear hK K
          simp only [Act.put, List.setIfInBounds_toArray, List.set_cons_zero, List.set_cons_succ]
          refine wpE_step' 5 (of_decide_eq_true (by kernel_rfl)) (by kernel_rfl) (by kernel_rfl) (fun K hK => ?_)
          simp only [List.getElem_toArray, List.getElem_cons_succ, List.getElem_cons_zero]
          refine app_wp _ (.tmp 33) (.tmp 35) _ rfl wr.heap.size 3 i0 _ 1 8 Try.underlying29 hi0 hz0 hz1 hz2 rfl (by omega) (.slice A4 ls.length c4) ls.length (ls.map (Value.int .i64)) rfl hownB _ 1 _ [.int .i64 v] rfl rfl (NewsAt.block (cs := #[.int .i64 v]) hnew) (by simp [Value.oneCell']) (by omega) (by omega) hs4 ?_
          intro A5 c5 w5 hown5 hg5 hat5
          have hb5 : Below wr.heap.size wr w5 := below_app hb4 hownB hg5 (Nat.le_refl _) hs4
          have hlen5 : (ls ++ [v]).length = ls.length + 1 := by simp
          have hI9 : OwnI wr.heap.size w5 (.slice A5 (ls ++ [v]).length c5) (ls ++ [v]) := by unfold OwnI; rw [hlen5, List.map_append]; exact hown5
          obtain ⟨g5, hr5⟩ := own_IntsR hI9
          have hg5b : wr.heap.size ≤ g5 := by obtain rfl := hr5.addr (by simp); exact (hI9.lt g5 rfl).1
          have hk5 : KX X wr w5 := KX.below hb5
          have hB5 := hB.kx hk5 hX3 hX2
          have hI5 := hst _ _ _ hI (hb5.mono hBw)
          have hv5 := hB5.v0
          refine hK.out _ _ (.inr hv5) ?_
          clear hK K
          simp only [Act.put, List.setIfInBounds_toArray, List.set_cons_zero, List.set_cons_succ]
          refine wpE_step' 6 (of_decide_eq_true (by kernel_rfl)) (by kernel_rfl) (by kernel_rfl) (fun K hK => ?_)
          simp only [List.getElem_toArray, List.getElem_cons_succ, List.getElem_cons_zero]
          go_simp
          go_at_call 104
          have hcall := ih (ls ++ [v]) (pre ++ comeK ps m ls x k) A5 g5 0 c5 w5 (by simp; omega) hB5 hI5 hr5 (fun _ e => by have := hg5b; omega) (by have := hb5.size; omega)
          rw [hlen5] at hcall
          refine hcall.mono ?_
          clear hcall
          rintro e W6 (⟨rfl, hi6, hk6⟩ | ⟨rfl, ⟨pre', hs6, hp6⟩, hk6⟩)
          · have hB6 := hB5.kx hk6 hX3 hX2
            have hv6 := hB6.v0
            refine hK.out _ _ (.inl rfl) ?_
            clear hK K
            simp only [Act.put, List.setIfInBounds_toArray, List.set_cons_zero, List.set_cons_succ]
            refine wpE_step' 7 (of_decide_eq_true (by kernel_rfl)) (by kernel_rfl) (by kernel_rfl) (fun K hK => ?_)
            simp only [List.getElem_toArray, List.getElem_cons_succ, List.getElem_cons_zero]
            go_simp
            refine hK.out _ _ (.inr hv6) ?_
            clear hK K
            simp only [Act.put, List.setIfInBounds_toArray, List.set_cons_zero, List.set_cons_succ]
            refine wpE_done (by kernel_rfl) ?_ _
            have hk7 := hk5.trans hk6
            have hR6 := hR.kx hk7 hbX
            have hQ6 : CB W6 Xb [.int .i64 x.f, .int .i64 x.t, .int .i64 x.l, .int .i64 x.h] := ⟨Nat.lt_of_lt_of_le hQ.ex hk7.size, fun i u hu => hk7.cell (hQ.c i u hu) hXb⟩
            have hI6 : Inv (pre ++ comeK ps m ls x (k + 1)) W6 := by rw [comeK_succ, Hv.out, ← List.append_assoc]; exact hi6
            have hk8 := hkx.trans hk7
            clear hB5 hI5 hr5 hi6
            go_wp2_with fail
            go_roundg (N - (k + 1))
            case measure => go_light; omega
            case rel => go_light; exact ⟨k + 1, by omega, rfl, by rw [← Hv2.out], hI6, hk8, hB6, hR6, hQ6⟩
          · have hB6 := hB5.kx hk6 hX3 hX2
            have hv6 := hB6.v0
            refine hK.out _ _ (.inl rfl) ?_
            clear hK K
            simp only [Act.put, List.setIfInBounds_toArray, List.set_cons_zero, List.set_cons_succ]
            refine wpE_step' 7 (of_decide_eq_true (by kernel_rfl)) (by kernel_rfl) (by kernel_rfl) (fun K hK => ?_)
            simp only [List.getElem_toArray, List.getElem_cons_succ, List.getElem_cons_zero]
            go_simp
            refine hK.out _ _ (.inr hv6) ?_
            clear hK K
            simp only [Act.put, List.setIfInBounds_toArray, List.set_cons_zero, List.set_cons_succ]
            refine wpE_done (by kernel_rfl) ?_ _
            have hk8 := (hkx.trans hk5).trans hk6
            have hp7 : pre' <+: pre ++ comeK ps m ls x N := by
              rw [← Hv.out, List.append_assoc, ← comeK_succ] at hp6
              exact hp6.trans ((List.prefix_append_right_inj pre).2 (comeK_le ps m ls x (k + 1) N (by omega)))
            clear hp6
            clear hB5 hI5 hr5
            go_wp2_with fail
            go_ret
            exact .inr ⟨rfl, ⟨pre', hs6, by rw [hcF.out]; exact hp7⟩, hk0.trans hk8⟩
      · obtain rfl : k = N := by omega
        have hc : ¬ x.l + (k : Int) ≤ x.h := by omega
        rw [← hcF.out] at hI
        go_wp2_with fail
        go_ret
        exact .inl ⟨rfl, hI, hk0.trans hkx⟩
end Go.Proofs.Ytdijfkpccbkdfaa
