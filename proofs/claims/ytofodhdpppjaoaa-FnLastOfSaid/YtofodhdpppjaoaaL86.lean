/-
  impl: slices.Reverse of two parts, back, BackTerm.
-/
import Derived.Test.YtofodhdpppjaoaaR71
import Derived.Test.YtofodhdpppjaoaaL85
namespace Go.Proofs.Ytofodhdpppjaoaa
set_option linter.unusedVariables false
set_option linter.unusedSimpArgs false
open Go Go.RowKit Pp

theorem own_two {base : Nat} {w : World} {e : TypeId} {g c : Nat} {u v u' v' : Value} (h : w.ownsRow base e 1 (.slice (some ⟨g, 0, none⟩) 2 c) 2 [u, v]) :
    (w.cell? ⟨g, 0, none⟩ = some u ∧ w.cell? ⟨g, 1, none⟩ = some v ∧ w.frozen? ⟨g, 0, none⟩ = false ∧ w.frozen? ⟨g, 1, none⟩ = false) ∧
    ((w.setCell ⟨g, 0, none⟩ u').setCell ⟨g, 1, none⟩ v').ownsRow base e 1 (.slice (some ⟨g, 0, none⟩) 2 c) 2 [u', v'] := by
  obtain ⟨f, hf, hxx, hb, hnc, hcm⟩ := own_row h
  have f0 := hxx 0 (by omega)
  have f1 := hxx 1 (by omega)
  simp at f0 f1
  have c0 := hf.cell (i := 0) (by omega)
  have c1 := hf.cell (i := 1) (by omega)
  rw [← f0] at c0
  rw [← f1] at c1
  refine ⟨⟨c0, c1, hf.frozen 0, hf.frozen 1⟩, row_own ((hf.set 0 u').set 1 v') (fun j hj => ?_) rfl hb hnc hcm⟩
  match j with
  | 0 => simp
  | 1 => simp
  | j + 2 => omega
set_option maxHeartbeats 2000000 in
set_option maxRecDepth 100000 in
theorem reverse2_c {base : Nat} (q q' : Nat) (g c : Nat) (w : World) (h : w.ownsRow base 60 1 (.slice (some ⟨g, 0, none⟩) 2 c) 2 [.pointer (some ⟨q, 0, none⟩), .pointer (some ⟨q', 0, none⟩)]) :
    Calls Try.prog 77 #[.slice (some ⟨g, 0, none⟩) 2 c] w fun e w' => e = .returned (.tuple #[]) ∧ w'.ownsRow base 60 1 (.slice (some ⟨g, 0, none⟩) 2 c) 2 [.pointer (some ⟨q', 0, none⟩), .pointer (some ⟨q, 0, none⟩)] ∧ w.grownBy w' (some g) := by
  obtain ⟨⟨c0, c1, f0, f1⟩, ho⟩ := own_two (u' := .pointer (some ⟨q', 0, none⟩)) (v' := .pointer (some ⟨q, 0, none⟩)) h
  have hgr : w.grownBy ((w.setCell ⟨g, 0, none⟩ (.pointer (some ⟨q', 0, none⟩))).setCell ⟨g, 1, none⟩ (.pointer (some ⟨q, 0, none⟩))) (some g) := by
    have h1 := grown_set w ⟨g, 0, none⟩ (.pointer (some ⟨q', 0, none⟩))
    have h2 := grown_set (w.setCell ⟨g, 0, none⟩ (.pointer (some ⟨q', 0, none⟩))) ⟨g, 1, none⟩ (.pointer (some ⟨q, 0, none⟩))
    exact ⟨h1.os.trans h2.os, h1.tape.trans h2.tape, h1.output.trans h2.output, Nat.le_trans h1.size h2.size, fun k hk hne => (h2.block k (Nat.lt_of_lt_of_le hk h1.size) hne).trans (h1.block k hk hne)⟩
  have Hx := hide (And.intro ho hgr)
  clear h ho hgr
  go_enter Try.func77, Try.ntmps77
  go_wp2_with fail
  go_loopg [2, 3] 2 (fun gh s2 s3 wr => (gh = 2 ∧ s2 = .int .i64 0 ∧ s3 = .int .i64 1 ∧ wr = w) ∨ (gh = 1 ∧ s2 = .int .i64 1 ∧ s3 = .int .i64 0 ∧ wr.ownsRow base 60 1 (.slice (some ⟨g, 0, none⟩) 2 c) 2 [.pointer (some ⟨q', 0, none⟩), .pointer (some ⟨q, 0, none⟩)] ∧ w.grownBy wr (some g)))
  case atStart => exact .inl ⟨rfl, rfl, rfl, rfl⟩
  case round =>
    rcases hrel with ⟨rfl, rfl, rfl, rfl⟩ | ⟨rfl, rfl, rfl, hx, hg⟩
    · go_upto_region 3 with fail
      go_region
      go_wp2_with fail
      go_roundg 1
      case measure => go_light; omega
      case rel =>
        go_light
        have h1 := Hx.out.1
        have h2 := Hx.out.2
        exact .inr ⟨rfl, rfl, rfl, own_below h1 (by go_grown), ⟨h2.os, h2.tape, h2.output, h2.size, h2.block⟩⟩
    · go_wp2_with fail
      go_end0
      exact ⟨rfl, hx, hg⟩
theorem OKP.rev {w0 wr w' : World} {X g c : Nat} {x : Mk} {k k' : Tm} {q q' : Nat} (h : OKP w0 wr X x (some ⟨g, 0, none⟩) c [k, k'] [q, q'])
    (hown : w'.ownsRow w0.heap.size 60 1 (.slice (some ⟨g, 0, none⟩) 2 c) 2 [.pointer (some ⟨q', 0, none⟩), .pointer (some ⟨q, 0, none⟩)]) (hg : wr.grownBy w' (some g)) : OKP w0 w' X x (some ⟨g, 0, none⟩) c [k', k] [q', q] := by
  have hb : (Value.slice (some ⟨g, 0, none⟩) [q, q'].length c).ownBlock = some g := by simp [Value.ownBlock]
  have hlo := h.own.lt g hb
  have neX : some X ≠ some g := fun e => h.ne (hb.trans e.symm)
  have cX : ∀ i v, wr.cell? ⟨X, i, none⟩ = some v → w'.cell? ⟨X, i, none⟩ = some v := fun i v hv => hg.cell (a := ⟨X, i, none⟩) hv neX
  have keep : ∀ (kk : Tm) (qq : Nat), PartAt wr (fun b => (w0.heap.size ≤ b ∧ b < wr.heap.size) ∧ (Value.slice (some ⟨g, 0, none⟩) [q, q'].length c).ownBlock ≠ some b ∧ b ≠ X) kk qq → PartAt w' (fun b => (w0.heap.size ≤ b ∧ b < w'.heap.size) ∧ (Value.slice (some ⟨g, 0, none⟩) [q', q].length c).ownBlock ≠ some b ∧ b ≠ X) kk qq := fun kk qq hp =>
    hp.kept (fun b hx => ⟨⟨hx.1.1, Nat.lt_of_lt_of_le hx.1.2 hg.size⟩, hx.2⟩) (fun b o v hx hv => hg.cell (a := ⟨b, o, none⟩) hv (fun e => hx.2.1 (hb.trans e.symm)))
  refine ⟨h.bel.grown hg h.bel.size (fun k hk => by injection hk with hk; omega), h.lo, Nat.lt_of_lt_of_le h.ex hg.size, cX 0 _ h.c0, cX 1 _ h.c1, cX 2 _ h.c2, cX 3 _ h.c3, fun i => (hg.frozen_far ⟨X, i, none⟩ h.ex neX).trans (h.cf i), hown, h.ne, rfl, fun j k2 hj => ?_⟩
  obtain ⟨r0, e0, p0⟩ := h.kid 0 k rfl
  obtain ⟨r1, e1, p1⟩ := h.kid 1 k' rfl
  simp at e0 e1
  subst e0; subst e1
  match j with
  | 0 => simp at hj; subst hj; exact ⟨q', rfl, keep _ _ p1⟩
  | 1 => simp at hj; subst hj; exact ⟨q, rfl, keep _ _ p0⟩
  | j + 2 => simp at hj
namespace Pp
theorem back_step {a k : Tm} {j : Nat} (h : a.kids[j]? = some k) : (a.kids.take (j + 1)).map Tm.back = (a.kids.take j).map Tm.back ++ [k.back] := by
  obtain ⟨hj, rfl⟩ := List.getElem?_eq_some_iff.1 h
  rw [List.take_succ_eq_append_getElem hj, List.map_append]
  rfl
theorem back_mark (a : Tm) : a.back.mark = a.mark := by cases a <;> rfl
theorem back_kids {a : Tm} (h : a.mark.k ≠ 1) : a.back.kids = a.kids.map Tm.back := by
  cases a with
  | thn a b => exact absurd rfl h
  | _ => rfl
end Pp
set_option maxHeartbeats 4000000 in
set_option maxRecDepth 100000 in
theorem back_q : ∀ (n : Nat) (a : Tm), a.size ≤ n → n ≤ 20 → ∀ (p : Nat) (w : World), PtR w w.heap.size a p →
    Calls Try.prog 52 #[.pointer (some ⟨p, 0, none⟩)] w fun e w' => ∃ q, e = .returned (.pointer (some ⟨q, 0, none⟩)) ∧ NwR w.heap.size w' a.back q ∧ Below w.heap.size w w' := by
  intro n
  induction n with
  | zero => intro a hs; cases a <;> simp [Tm.size] at hs
  | succ n ih =>
    intro a hs hn20 p w hP
    obtain ⟨i0, hi0, hz0, hz1, hz2⟩ := info_parts infoP
    obtain ⟨A, c, b, o, ⟨hat, c0, c1, c2, c3⟩, hA, hk⟩ := hP.opened
    have hkl := a.kids_len
    obtain ⟨m, hm⟩ : ∃ m, a.kids.length = m := ⟨_, rfl⟩
    obtain ⟨x, hxm⟩ : ∃ x, a.mark = x := ⟨_, rfl⟩
    rw [hm] at hA hkl c3
    rw [hxm] at c0 c1 c2
    have Hm := hide hm
    have Hx := hide hxm
    have Hk := hide hk
    have hO := okp_new (Below.refl w.heap.size w) x 101
    clear hm hxm hk hP
    go_enter Try.func52, Try.ntmps52
    go_upto_region 2 with fail
    generalize w.alloc (.cells #[.int .i64 x.k, .int .i64 x.l, .int .i64 x.h, .slice none 0 0] 101) = W at hO ⊢
    obtain ⟨X, hX⟩ : ∃ X, X = w.heap.size := ⟨_, rfl⟩
    rw [← hX] at hO ⊢
    have HX := hide hX
    clear hX
    have e0 := ((bcell hO.bel).1 _ _ hat).trans c0
    have e3 := ((bcell hO.bel).1 _ _ hat).trans c3
    go_wp2_with fail
    go_loopg [17] m (fun gh s17 wr => ∃ (k : Nat) (A1 : Option Addr) (c1 : Nat) (qs : List Nat), k ≤ m ∧ gh = m - k ∧ s17 = .int .i64 k ∧ OKP w wr X x A1 c1 ((a.kids.take k).map Tm.back) qs)
    case atStart => exact ⟨0, none, 0, [], Nat.zero_le _, rfl, rfl, hO⟩
    case round =>
      clear e0 e3 hO
      obtain ⟨k, A1, c1', qs, hkm, rfl, rfl, hO⟩ := hrel
      by_cases hlt : k < m
      · obtain ⟨rfl, hbS⟩ := hA (by omega)
        have hkid : a.kids[k]? = some (a.kids[k]'(by rw [Hm.out]; exact hlt)) := List.getElem?_eq_getElem _
        obtain ⟨q, hq, hPq⟩ := Hk.out _ _ hkid
        have hsz := Tm.kid_size hkid
        have hbs := back_step hkid
        generalize a.kids[k]'(by rw [Hm.out]; exact hlt) = kt at hkid hPq hsz hbs
        have hqs : qs.length ≤ 2 := by rw [hO.len, List.length_map, List.length_take]; omega
        have hkz : (k : Int) < (m : Int) := by omega
        obtain ⟨ks, hks⟩ : ∃ ks, (a.kids.take k).map Tm.back = ks := ⟨_, rfl⟩
        rw [hks] at hO hbs
        have Hbs := hide hbs
        replace hq := ((bcell hO.bel).1 _ _ hbS).trans hq
        dsimp only [ptr] at hq
        have hal : Below wr.heap.size wr wr.drew := by go_grown
        have hPq' := (PtR.below hPq hO.bel).more hO.bel.size
        replace hPq' := PtR.next hPq' hal
        have hcall := ih kt (by omega) (by omega) q wr.drew hPq'
        clear hbs hks hkid hPq hPq'
        go_upto_region 5 with fail
        refine wp_regionE (fun w' => w'.cell? ⟨X, 3, none⟩ = some (.slice A1 qs.length c1')) 11 (by kernel_rfl) ?_
        change wpE _ _ _ _ _ _ 12 #[false, false, false, false, false, false, false, false, false, false, false, false] _ _
        replace hO := hO.below hal
        clear hal
        generalize wr.drew = wd at hO hcall ⊢
        have hcf := hO.cf
        have hS0 : wd.cell? ⟨X, 3, none⟩ = some (.slice A1 qs.length c1') := hO.c3
        refine wpE_take' (v := ?_) 0 [11] (of_decide_eq_true (by kernel_rfl)) (by kernel_rfl) (by kernel_rfl) (by kernel_rfl) (by kernel_rfl) (fun _ _ _ h => h) (by kernel_rfl) ?_ hS0 ?_
        rotate_left
        · intro w' hSw
          simp only [List.getElem_toArray, List.getElem_cons_succ, List.getElem_cons_zero]
          go_simp
          all_goals with_reducible rfl
        simp only [List.getElem_toArray, List.getElem_cons_succ, List.getElem_cons_zero, Act.put, List.setIfInBounds_toArray, List.set_cons_zero, List.set_cons_succ]
        refine wpE_take' (v := ?_) 1 [11] (of_decide_eq_true (by kernel_rfl)) (by kernel_rfl) (by kernel_rfl) (by kernel_rfl) (by kernel_rfl) (fun _ _ _ h => h) (by kernel_rfl) ?_ hS0 ?_
        rotate_left
        · intro w' hSw
          simp only [List.getElem_toArray, List.getElem_cons_succ, List.getElem_cons_zero]
          go_simp
          all_goals with_reducible rfl
        simp only [List.getElem_toArray, List.getElem_cons_succ, List.getElem_cons_zero, Act.put, List.setIfInBounds_toArray, List.set_cons_zero, List.set_cons_succ]
        refine wpE_take' (v := ?_) 5 [11] (of_decide_eq_true (by kernel_rfl)) (by kernel_rfl) (by kernel_rfl) (by kernel_rfl) (by kernel_rfl) (fun _ _ _ h => h) (by kernel_rfl) ?_ hS0 ?_
        rotate_left
        · intro w' hSw
          simp only [List.getElem_toArray, List.getElem_cons_succ, List.getElem_cons_zero]
          go_simp
          all_goals with_reducible rfl
        simp only [List.getElem_toArray, List.getElem_cons_succ, List.getElem_cons_zero, Act.put, List.setIfInBounds_toArray, List.set_cons_zero, List.set_cons_succ]
        refine wpE_take' (v := ?_) 2 [11] (of_decide_eq_true (by kernel_rfl)) (by kernel_rfl) (by kernel_rfl) (by kernel_rfl) (by kernel_rfl) (fun _ _ _ h => h) (by kernel_rfl) ?_ hS0 ?_
        rotate_left
        · intro w' hSw
          simp only [List.getElem_toArray, List.getElem_cons_succ, List.getElem_cons_zero]
          go_simp
          all_goals with_reducible rfl
        simp only [List.getElem_toArray, List.getElem_cons_succ, List.getElem_cons_zero, Act.put, List.setIfInBounds_toArray, List.set_cons_zero, List.set_cons_succ]
        refine wpE_take' (v := ?_) 3 [11] (of_decide_eq_true (by kernel_rfl)) (by kernel_rfl) (by kernel_rfl) (by kernel_rfl) (by kernel_rfl) (fun _ _ _ h => h) (by kernel_rfl) ?_ hS0 ?_
        rotate_left
        · intro w' hSw
          simp only [List.getElem_toArray, List.getElem_cons_succ, List.getElem_cons_zero]
          go_simp
          all_goals with_reducible rfl
        simp only [List.getElem_toArray, List.getElem_cons_succ, List.getElem_cons_zero, Act.put, List.setIfInBounds_toArray, List.set_cons_zero, List.set_cons_succ]
        refine wpE_take' (v := ?_) 4 [11] (of_decide_eq_true (by kernel_rfl)) (by kernel_rfl) (by kernel_rfl) (by kernel_rfl) (by kernel_rfl) (fun _ _ _ h => h) (by kernel_rfl) ?_ hS0 ?_
        rotate_left
        · intro w' hSw
          simp only [List.getElem_toArray, List.getElem_cons_succ, List.getElem_cons_zero]
          go_simp
          all_goals with_reducible rfl
        simp only [List.getElem_toArray, List.getElem_cons_succ, List.getElem_cons_zero, Act.put, List.setIfInBounds_toArray, List.set_cons_zero, List.set_cons_succ]
        refine wpE_step' 6 (of_decide_eq_true (by kernel_rfl)) (by kernel_rfl) (by kernel_rfl) (fun K hK => ?_)
        simp only [List.getElem_toArray, List.getElem_cons_succ, List.getElem_cons_zero]
        go_simp
        go_at_call 52
        refine hcall.mono ?_
        clear hcall
        rintro e w2 ⟨q2, rfl, hN, hb2⟩
        have hO2 := hO.below hb2
        refine hK.out _ _ (.inr hO2.c3) ?_
        clear hK K hS0
        simp only [Act.put, List.setIfInBounds_toArray, List.set_cons_zero, List.set_cons_succ]
        have hb3 : Below w2.heap.size w2 (w2.alloc (.cells #[.pointer (some ⟨q2, 0, none⟩)] 60)) := by go_grown
        have hnew : (w2.alloc (.cells #[.pointer (some ⟨q2, 0, none⟩)] 60)).heap[w2.heap.size]? = some (.cells #[.pointer (some ⟨q2, 0, none⟩)] 60 (0, 0)) := at_new rfl
        have hO3 := hO2.below hb3
        refine wpE_step' 7 (of_decide_eq_true (by kernel_rfl)) (by kernel_rfl) (by kernel_rfl) (fun K hK => ?_)
        simp only [List.getElem_toArray, List.getElem_cons_succ, List.getElem_cons_zero]
        go_simp
        refine hK.out _ _ (.inr hO3.c3) ?_
        clear hK K
        simp only [Act.put, List.setIfInBounds_toArray, List.set_cons_zero, List.set_cons_succ]
        refine wpE_step' 8 (of_decide_eq_true (by kernel_rfl)) (by kernel_rfl) (by kernel_rfl) (fun K hK => ?_)
        simp only [List.getElem_toArray, List.getElem_cons_succ, List.getElem_cons_zero]
        refine app_wp _ (.tmp 25) (.tmp 28) _ rfl w.heap.size 60 i0 _ 1 8 Try.underlying97 hi0 hz0 hz1 hz2 rfl (by omega) (.slice A1 qs.length c1') qs.length (qs.map ptr) rfl hO3.own (some ⟨w2.heap.size, 0, none⟩) 1 _ [.pointer (some ⟨q2, 0, none⟩)] rfl rfl (NewsAt.block (cs := #[.pointer (some ⟨q2, 0, none⟩)]) hnew) (by simp [Value.oneCell']) (by omega) (by omega) hO3.bel.size ?_
        intro A5 c5 w5 hown5 hg5 hat5
        obtain ⟨⟨x3, xf⟩, hO5⟩ := hO.push hb2 hN hb3 hg5 hown5 hat5
        refine hK.out _ _ (.inr x3) ?_
        clear hK K
        simp only [Act.put, List.setIfInBounds_toArray, List.set_cons_zero, List.set_cons_succ]
        have hS0 : w5.cell? ⟨X, 3, none⟩ = some (.slice A1 qs.length c1') := x3
        refine wpE_take' (v := ?_) 9 [10, 11] (of_decide_eq_true (by kernel_rfl)) (by kernel_rfl) (by kernel_rfl) (by kernel_rfl) (by kernel_rfl) (fun _ _ _ h => h) (by kernel_rfl) ?_ hS0 ?_
        rotate_left
        · intro w' hSw
          simp only [List.getElem_toArray, List.getElem_cons_succ, List.getElem_cons_zero]
          go_simp
          all_goals with_reducible rfl
        simp only [List.getElem_toArray, List.getElem_cons_succ, List.getElem_cons_zero, Act.put, List.setIfInBounds_toArray, List.set_cons_zero, List.set_cons_succ]
        refine wpE_take' (v := ?_) 10 [11] (of_decide_eq_true (by kernel_rfl)) (by kernel_rfl) (by kernel_rfl) (by kernel_rfl) (by kernel_rfl) (fun _ _ _ h => h) (by kernel_rfl) ?_ hS0 ?_
        rotate_left
        · intro w' hSw
          simp only [List.getElem_toArray, List.getElem_cons_succ, List.getElem_cons_zero]
          go_simp
          all_goals with_reducible rfl
        simp only [List.getElem_toArray, List.getElem_cons_succ, List.getElem_cons_zero, Act.put, List.setIfInBounds_toArray, List.set_cons_zero, List.set_cons_succ]
        refine wpE_step' 11 (of_decide_eq_true (by kernel_rfl)) (by kernel_rfl) (by kernel_rfl) (fun K hK => ?_)
        simp only [List.getElem_toArray, List.getElem_cons_succ, List.getElem_cons_zero]
        go_simp
        refine hK.out _ _ (.inl rfl) ?_
        clear hK K
        simp only [Act.put, List.setIfInBounds_toArray, List.set_cons_zero, List.set_cons_succ]
        refine wpE_done (by kernel_rfl) ?_ _
        clear hS0 x3 xf hown5 hg5 hat5 hO3 hnew hb3 hO2 hb2 hN hO hcf
        rw [← Hbs.out] at hO5
        generalize w5.setCell ⟨X, 3, none⟩ (.slice A5 (qs.length + 1) c5) = w6 at hO5 ⊢
        generalize qs ++ [q2] = qs2 at hO5
        go_wp2_with fail
        go_roundg (m - (k + 1))
        case measure => go_light; omega
        case rel => go_light; exact ⟨k + 1, A5, c5, qs2, by omega, rfl, by go_num, hO5⟩
      · obtain rfl : k = m := by omega
        have hO' := hO
        rw [show (a.kids.take k).map Tm.back = a.kids.map Tm.back by rw [← Hm.out, List.take_length]] at hO'
        clear hO
        have e0 := ((bcell hO'.bel).1 _ _ hat).trans c0
        by_cases hx1 : x.k = 1
        · obtain ⟨a1, a2, rfl⟩ : ∃ a1 a2, a = .thn a1 a2 := by
            have h1 := Hx.out
            cases a with
            | thn a1 a2 => exact ⟨a1, a2, rfl⟩
            | _ => rw [← h1] at hx1; simp [Tm.mark] at hx1
          have hl := hO'.len
          obtain ⟨q0, q1, rfl⟩ : ∃ q0 q1, qs = [q0, q1] := by
            match qs, hl with
            | [], h => simp [Tm.kids] at h
            | [_], h => simp [Tm.kids] at h
            | [q0, q1], _ => exact ⟨q0, q1, rfl⟩
            | _ :: _ :: _ :: _, h => simp [Tm.kids] at h
          obtain ⟨A3', g3, c3', hv3, g1, g2, g3c⟩ := own_form hO'.own
          injection hv3 with r1 r2 r3
          subst r1; subst r3
          obtain rfl := g1 (by simp)
          have o3 := hO'.c3
          have hown := hO'.own
          have hcall := reverse2_c q0 q1 g3 _ wr hown
          rw [hx1] at e0
          clear hl
          go_wp2_with (go_at_call 77; refine hcall.mono ?_; clear hcall; rintro e w7 ⟨rfl, hown7, hg7⟩)
          have hO7 := OKP.rev hO' hown7 hg7
          go_ret
          refine ⟨X, rfl, hO7.fin (a := (Tm.thn a1 a2).back) ?_ rfl, hO7.bel⟩
          rw [back_mark]; exact Hx.out
        · have hx1' : (x.k == 1) = false := by simpa using hx1
          have Hbk : Hid (a.back.kids = a.kids.map Tm.back) := back_kids (by rw [Hx.out]; exact hx1)
          clear hx1
          go_wp2_with fail
          go_ret
          exact ⟨X, rfl, hO'.fin (by rw [back_mark]; exact Hx.out) Hbk.out, hO'.bel⟩
end Go.Proofs.Ytofodhdpppjaoaa
