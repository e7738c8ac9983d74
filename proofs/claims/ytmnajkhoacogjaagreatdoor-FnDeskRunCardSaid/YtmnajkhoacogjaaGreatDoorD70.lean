/-
 The draws of the reference: l20Term.
-/
import Derived.Test.YtmnajkhoacogjaaGreatDoorR75
import Derived.Test.YtmnajkhoacogjaaGreatDoorZ1
import Derived.Test.YtmnajkhoacogjaaGreatDoorL11a
import Derived.Deep.CutBlock
namespace Go.Proofs.YtmnajkhoacogjaaGreatDoor
set_option linter.unusedVariables false
set_option linter.unusedSimpArgs false
open Go Go.RowKit Pp

theorem mk_news1 {w : World} {g : Nat} {x : Mk} {t : TypeId} (h : w.heap[g]? = some (.cells #[.int .i64 x.k, .int .i64 x.l, .int .i64 x.h] t (0, 0))) : NewsAt w (some ⟨g, 0, none⟩) 1 (mkCs [x]) :=
 NewsAt.block (cs := #[.int .i64 x.k, .int .i64 x.l, .int .i64 x.h]) h
theorem own_blk0 {w : World} {base g n : Nat} {e : TypeId} {size : Nat} {cs : Array Value} (h : w.heap[g]? = some (.cells cs e (0, 0))) (hb : base ≤ g) (hs : cs.size = n * size) (hn : n ≤ maxLen) : w.ownsRow base e size (.slice (some ⟨g, 0, none⟩) n n) n cs.toList :=
 ⟨by simpa using hs, .inr ⟨g, n, cs, rfl, hb, h, Nat.le_refl _, hn, hs, by rw [List.take_of_length_le]; simp [hs]⟩⟩
theorem rows_one {lo : Nat} {wx : World} {M : Nat} {vs : List Value} (h : ∀ u ∈ vs, MRow lo wx M u) : ∀ u ∈ vs, u.oneCell' = true := fun u hu => by
 obtain ⟨A, c, t, rfl, _⟩ := h u hu
 rfl
theorem own_set1 {base : Nat} {w : World} {e : TypeId} {g c k : Nat} {vs : List Value} (u : Value) (h : w.ownsRow base e 1 (.slice (some ⟨g, 0, none⟩) vs.length c) vs.length vs) (hk : k < vs.length) :
  (w.setCell ⟨g, k, none⟩ u).ownsRow base e 1 (.slice (some ⟨g, 0, none⟩) vs.length c) vs.length (vs.set k u) ∧ (∃ x, w.cell? ⟨g, k, none⟩ = some x) ∧ w.frozen? ⟨g, k, none⟩ = false := by
 obtain ⟨f, hf, hx, hb, hnc, hcm⟩ := own_row h
 refine ⟨row_own (n := vs.length) (base := base) (size := 1) (xs := vs.set k u) (hf.set k u) (fun j hj => ?_) (by simp) hb hnc hcm, ⟨_, hf.cell (i := k) (by omega)⟩, hf.frozen k⟩
 rw [List.getElem?_set]
 by_cases e : k = j
 ·subst e; rw [if_pos rfl, if_pos hk, if_pos rfl]
 ·rw [if_neg e, if_neg (fun e' => e e'.symm)]; exact hx j hj
theorem csr_news1 {w : World} {B b o n : Nat} {A : Option Addr} {cs : List Value} (h : CsR w B b o A n cs) : NewsAt w A n cs := fun hm =>
 ⟨_, h.addr hm, fun j u hu => by rw [add_zero_off]; exact h.cell j u hu⟩

theorem mkCs_set : ∀ (t : List Mk) (k : Nat) (x : Mk), k < t.length → mkCs (t.set k x) = (((mkCs t).set (k * 3) (.int .i64 x.k)).set (k * 3 + 1) (.int .i64 x.l)).set (k * 3 + 2) (.int .i64 x.h)
 | [], k, x, h => by simp at h
 | y :: t, 0, x, h => by simp [mkCs]
 | y :: t, k + 1, x, h => by
   have ih := mkCs_set t k x (by simpa using h)
   have e : (k + 1) * 3 = k * 3 + 1 + 1 + 1 := by omega
   rw [e]
   simp only [List.set_cons_succ, mkCs]
   rw [ih]
theorem own_setK {base : Nat} {w : World} {g c k : Nat} {t : List Mk} (x : Mk) (h : OwnM base w (.slice (some ⟨g, 0, none⟩) t.length c) t) (hk : k < t.length) :
  OwnM base (((w.setCell ⟨g, k * 3, none⟩ (.int .i64 x.k)).setCell ⟨g, k * 3 + 1, none⟩ (.int .i64 x.l)).setCell ⟨g, k * 3 + 2, none⟩ (.int .i64 x.h)) (.slice (some ⟨g, 0, none⟩) (t.set k x).length c) (t.set k x) ∧ (∃ a b d, w.cell? ⟨g, k * 3, none⟩ = some a ∧ w.cell? ⟨g, k * 3 + 1, none⟩ = some b ∧ w.cell? ⟨g, k * 3 + 2, none⟩ = some d) ∧ w.frozen? ⟨g, k * 3, none⟩ = false ∧ w.frozen? ⟨g, k * 3 + 1, none⟩ = false ∧ w.frozen? ⟨g, k * 3 + 2, none⟩ = false := by
 obtain ⟨f, hf, hx, hb, hnc, hcm⟩ := own_row h
 have hl : (t.set k x).length = t.length := List.length_set
 refine ⟨?_, ⟨_, _, _, hf.cell (i := k * 3) (by omega), hf.cell (i := k * 3 + 1) (by omega), hf.cell (i := k * 3 + 2) (by omega)⟩, hf.frozen _, hf.frozen _, hf.frozen _⟩
 unfold OwnM
 rw [hl]
 refine row_own (((hf.set (k * 3) (.int .i64 x.k)).set (k * 3 + 1) (.int .i64 x.l)).set (k * 3 + 2) (.int .i64 x.h)) (fun j hj => ?_) (by rw [mkCs_length, hl]) hb hnc hcm
 have hlen : (mkCs t).length = t.length * 3 := mkCs_length t
 rw [mkCs_set t k x hk, List.getElem?_set, List.getElem?_set, List.getElem?_set]
 simp only [List.length_set]
 by_cases e2 : k * 3 + 2 = j
 ·subst e2; rw [if_pos rfl, if_pos (by omega), if_pos rfl]
 ·rw [if_neg e2, if_neg (show ¬ j = k * 3 + 2 from fun e => e2 e.symm)]
  by_cases e1 : k * 3 + 1 = j
  ·subst e1; rw [if_pos rfl, if_pos (by omega), if_pos rfl]
  ·rw [if_neg e1, if_neg (show ¬ j = k * 3 + 1 from fun e => e1 e.symm)]
   by_cases e0 : k * 3 = j
   ·subst e0; rw [if_pos rfl, if_pos (by omega), if_pos rfl]
   ·rw [if_neg e0, if_neg (show ¬ j = k * 3 from fun e => e0 e.symm)]; exact hx j hj
set_option maxHeartbeats 8000000 in
set_option maxRecDepth 100000 in
theorem term_c (g : Nat) (K n : Int) (w : World) (hK : 0 ≤ K ∧ K ≤ 1000000) (hn : 0 ≤ n ∧ n ≤ 1000) (hR : RdO w g K) :
  Calls Tryz.prog 94 #[.pointer (some ⟨g, 0, none⟩), .int .i64 n] w fun e w' => ∃ A c, ∃ t : List Mk, e = .returned (.slice A t.length c) ∧ t.length ≤ 200000 ∧ OwnM w.heap.size w' (.slice A t.length c) t ∧ RdO w' g (K + 100) ∧ w.grownBy w' (some g) := by
 obtain ⟨hK0, hK1⟩ := hK
 obtain ⟨hn0, hn1⟩ := hn
 obtain ⟨i0, hi0, hz0, hz1, hz2⟩ := info_parts infoM
 obtain ⟨j0, hj0, hy0, hy1, hy2⟩ := info_parts infoMS
 have hg := hR.lt
 have hal : Below w.heap.size w (w.alloc (.cells #[] 99)) := by go_grown
 have hT : TR w (w.alloc (.cells #[] 99)) g K (.slice (some ⟨w.heap.size, 0, none⟩) 0 0) [] (bnd 8) :=
  ⟨hR.below hal, gr_below (World.grownBy.refl w _) hal, hg, own_empty (at_new rfl) (Nat.le_refl _), fun u hu => by simp at hu⟩
 clear hR hal
 go_enter Tryz.func94, Tryz.ntmps94
 go_upto_region 2 with fail
 generalize w.alloc (.cells #[] 99) = W at hT ⊢
 generalize w.heap.size = E0 at hT ⊢
 go_upto_block 0 with (go_at_call 88; go_fit (pick_tr 4 _ hT (by omega) (by omega)); rintro e w1 ⟨k0, rfl, x0, x1, x2, hT', G, hsz⟩)
 have hT1 := hT'
 have hk4 := x1 (by omega)
 clear hT hT' G hsz x1 x2
 clear W
 go_cut [5] (fun s wx => ∃ (A1 : Option Addr) (c1 : Nat) (vs : List Value), s = .slice A1 vs.length c1 ∧ 1 ≤ vs.length ∧ vs.length ≤ 4 ∧ TR w wx g (K + 20) (.slice A1 vs.length c1) vs (bnd 8))
 case first =>
  go_wp2_with fail
  go_loopg [5, 6] (1 + k0).toNat (fun gh s5 s6 wr => ∃ (k : Nat) (A1 : Option Addr) (c1 : Nat) (vs : List Value), gh = k ∧ s6 = .int .i64 (k : Int) ∧ s5 = .slice A1 vs.length c1 ∧ vs.length + k ≤ 4 ∧ 1 ≤ vs.length + k ∧ TR w wr g (K + 2 + 2 * (vs.length : Int)) (.slice A1 vs.length c1) vs (bnd 8))
  case atStart =>
   obtain ⟨k, hk⟩ : ∃ k : Nat, 1 + k0 = (k : Int) := ⟨(1 + k0).toNat, by omega⟩
   exact ⟨k, some ⟨E0, 0, none⟩, 0, [], by omega, by rw [hk], rfl, by simp; omega, by simp; omega, hT1.more (by simp <;> omega)⟩
  case round =>
   clear hT1
   obtain ⟨k, A1, c1, vs, hgh, rfl, rfl, hvk, hv1, hT⟩ := hrel
   cases k with
   | zero =>
     go_wp2_with fail
     go_meet
     case rel => exact ⟨A1, c1, vs, rfl, by omega, by omega, hT.more (by omega)⟩
   | succ k =>
     have hkz : (0 : Int) < ((k + 1 : Nat) : Int) := by omega
     have hw1 : IntKind.i64.wrap (((k + 1 : Nat) : Int) - 1) = (k : Int) := by rw [IntWalk.i64_in _ (by omega)]; omega
     obtain ⟨kk, hkk⟩ : ∃ kk : Int, ((k + 1 : Nat) : Int) = kk := ⟨_, rfl⟩
     rw [hkk] at hkz hw1 ⊢
     have Hkk := hide hkk
     clear hkk
     go_upto_region 6 with (go_at_call 88; go_fit (pick_tr 8 _ hT (by omega) (by omega)); rintro e w2 ⟨v1, rfl, x0, x1, x2, hT2, G, hsz⟩)
     have hv8 := x1 (by omega)
     have hv0 := x0
     clear x0 x1 x2 G hsz hT
     go_wp2_with (first
      | (go_at_call 88; go_fit (pick_tr 6 _ hT2 (by omega) (by omega)); rintro e w3 ⟨v2, rfl, x0, x1, x2, hT3, G, hsz⟩
         have hv6 := x1 (by omega)
         have hw2 : IntKind.i64.wrap (v1 + v2) = v1 + v2 := IntWalk.i64_in _ (by omega)
         clear x1 x2 G hsz
         have hb4 : Below w3.heap.size w3 (w3.alloc (.cells #[.int .i64 0, .int .i64 v1, .int .i64 (v1 + v2)] 139)) := by go_grown
         have hT4 := hT3.below hb4
         have hr4 : MRow w.heap.size (w3.alloc (.cells #[.int .i64 0, .int .i64 v1, .int .i64 (v1 + v2)] 139)) (bnd 8) (.slice (some ⟨w3.heap.size, 0, none⟩) 1 1) :=
          ⟨some ⟨w3.heap.size, 0, none⟩, 1, [⟨0, v1, v1 + v2⟩], rfl, own_blk0 (n := 1) (at_new rfl) hT3.gr.size rfl (by unfold maxLen; omega), Nat.le_refl _, by show 1 ≤ bnd 8; decide⟩
         have hb5 : Below (w3.alloc (.cells #[.int .i64 0, .int .i64 v1, .int .i64 (v1 + v2)] 139)).heap.size (w3.alloc (.cells #[.int .i64 0, .int .i64 v1, .int .i64 (v1 + v2)] 139)) ((w3.alloc (.cells #[.int .i64 0, .int .i64 v1, .int .i64 (v1 + v2)] 139)).alloc (.cells #[.slice (some ⟨w3.heap.size, 0, none⟩) 1 1] 99)) := by go_grown
         have hT5 := hT4.below hb5
         have hr5 := hr4.below hb5
         have hnew : ((w3.alloc (.cells #[.int .i64 0, .int .i64 v1, .int .i64 (v1 + v2)] 139)).alloc (.cells #[.slice (some ⟨w3.heap.size, 0, none⟩) 1 1] 99)).heap[w3.heap.size + 1]? = some (.cells #[.slice (some ⟨w3.heap.size, 0, none⟩) 1 1] 99 (0, 0)) := at_new (by simp)
         have hown5 := hT5.own
         have hsz5 := hT5.gr.size)
      | (at_builtin; refine app_list _ rfl (.tmp 23) (.tmp 31) _ rfl w.heap.size 99 j0 _ 1 24 Tryz.underlying137 hj0 hy0 hy1 hy2 rfl (by omega) (.slice A1 vs.length c1) vs.length vs rfl hown5 (some ⟨w3.heap.size + 1, 0, none⟩) 1 _ [.slice (some ⟨w3.heap.size, 0, none⟩) 1 1] rfl rfl (NewsAt.block (cs := #[.slice (some ⟨w3.heap.size, 0, none⟩) 1 1]) hnew) (by simp [Value.oneCell']) (by omega) (by omega) hsz5 ?_; intro A6 c6 w6 hown6 hg6 hat6))
     obtain ⟨vs2, hvs2⟩ : ∃ vs2, vs ++ [Value.slice (some ⟨w3.heap.size, 0, none⟩) 1 1] = vs2 := ⟨_, rfl⟩
     have hl2 : vs2.length = vs.length + 1 := by rw [← hvs2]; simp
     have hT6 : TR w w6 g (K + 2 + 2 * (vs.length : Int) + 1 + 1) (.slice A6 vs2.length c6) vs2 (bnd 8) := by
      refine hT5.app hg6 (by rw [hl2, ← hvs2]; exact hown6) (by rw [hl2]; exact hat6) (fun u hu => ?_)
      rw [← hvs2] at hu
      rcases List.mem_append.1 hu with hu | hu
      ·exact hT5.each u hu
      ·obtain rfl := List.mem_singleton.1 hu
       refine ⟨hr5, fun k hk e => ?_⟩
       have h1 := (hT3.own.lt k e).2
       injection hk with hk
       subst hk
       dsimp only at h1
       omega
     have Hl2 := hide hl2
     clear hl2 hvs2 hown6 hg6 hat6 hnew hown5 hsz5 hr4 hr5 hT5 hT4 hT3 hb4 hb5 hT2 hw2
     go_roundg k
     case measure => go_light; omega
     case rel => go_light; exact ⟨k, A6, c6, vs2, rfl, rfl, by rw [Hl2.out], by rw [Hl2.out]; omega, by rw [Hl2.out]; omega, hT6.more (by rw [Hl2.out]; omega)⟩
 case rest =>
  clear hT1
  obtain ⟨A1, c1, vs, rfl, hv1, hv4, hT⟩ := hcut
  go_upto_block 2 with fail
  go_cut [5] (fun s wx => ∃ (A1 : Option Addr) (c1 : Nat) (vs : List Value), s = .slice A1 vs.length c1 ∧ vs.length = 1 ∧ TR w wx g (K + 60) (.slice A1 vs.length c1) vs 65536)
  case first =>
   go_wp2_with fail
   go_loopg [5, 8] (3 + vs.length) (fun gh s5 s8 wr => ∃ (lf : Nat) (A1 : Option Addr) (c1 : Nat) (vs : List Value), gh = lf + vs.length ∧ s8 = .int .i64 (lf : Int) ∧ s5 = .slice A1 vs.length c1 ∧ 1 ≤ vs.length ∧ lf + vs.length ≤ 7 ∧ TR w wr g (K + 50 - 4 * ((lf + vs.length : Nat) : Int)) (.slice A1 vs.length c1) vs (bnd (lf + vs.length)))
   case atStart => exact ⟨3, A1, c1, vs, rfl, rfl, rfl, hv1, by omega, (hT.more (by omega)).moreM (bnd_anti (by omega))⟩
   case round =>
    clear hT hv1 hv4
    clear vs A1 c1
    obtain ⟨lf, A1, c1, vs, rfl, rfl, rfl, hv1, hs7, hT⟩ := hrel
    by_cases h1 : vs.length = 1
    ·have hz : ¬ (1 : Int) < (vs.length : Int) := by omega
     have H1 := hide h1
     have Hb := hide (bnd_ok (s := lf + vs.length) (by omega)).2
     clear h1
     go_wp2_with fail
     go_meet
     case rel => exact ⟨A1, c1, vs, rfl, H1.out, (hT.more (by omega)).moreM Hb.out⟩
    ·have hz : (1 : Int) < (vs.length : Int) := by omega
     have hwl : IntKind.i64.wrap ((vs.length : Int) - 1) = (vs.length : Int) - 1 := IntWalk.i64_in _ (by omega)
     have hstp := bnd_step (s := lf + vs.length) (by omega) (by omega)
     have Hstp := hide hstp
     obtain ⟨M, hM⟩ : ∃ M, bnd (lf + vs.length) = M := ⟨_, rfl⟩
     have hM6 := (bnd_ok (s := lf + vs.length) (by omega)).2
     rw [hM] at hT hM6
     have HM := hide hM
     clear h1 hstp hM
     go_upto_region 10 with (go_at_call 88; go_fit (pick_tr ((vs.length : Int) - 1) _ hT (by omega) (by omega)); rintro e w2 ⟨x, rfl, x0, x1, x2, hT2, G, hsz⟩)
     have hx1 := x1 (by omega)
     obtain ⟨at_, rfl⟩ : ∃ a : Nat, x = (a : Int) := ⟨x.toNat, by omega⟩
     have hat1 : at_ + 1 < vs.length := by omega
     clear hT G hsz x1 x2 x0 hx1
     rcases Nat.eq_zero_or_pos lf with hlf | hlf
     ·subst hlf
      go_upto_region 13 with fail
      replace hT2 := hT2.more (K' := K + 50 - 4 * ((0 + vs.length : Nat) : Int) + 2) (by omega)
      obtain ⟨q, hq⟩ := own_csR hT2.own
      obtain rfl := hq.addr (by omega)
      obtain ⟨u, hu⟩ : ∃ u, vs[at_]? = some u := ⟨_, List.getElem?_eq_getElem (by omega)⟩
      obtain ⟨u', hu'⟩ : ∃ u, vs[at_ + 1]? = some u := ⟨_, List.getElem?_eq_getElem (by omega)⟩
      have q0 := hq.cell at_ u hu
      have q1 := hq.cell (at_ + 1) u' hu'
      rw [Nat.zero_add] at q0 q1
      have hqlt := hq.lt (by omega)
      obtain ⟨⟨B1, d1, t1, rfl, ho1, hl1⟩, -⟩ := hT2.each u (List.mem_of_getElem? hu)
      obtain ⟨⟨B2, d2, t2, rfl, ho2, hl2⟩, -⟩ := hT2.each u' (List.mem_of_getElem? hu')
      obtain ⟨g1, hr1⟩ := OwnM.reads ho1
      obtain ⟨g2, hr2⟩ := OwnM.reads ho2
      have hatz : (at_ : Int) < (vs.length : Int) := by omega
      have hatz1 : (at_ : Int) + 1 < (vs.length : Int) := by omega
      have hat0 : (0 : Int) ≤ (at_ : Int) + 1 := by omega
      have hwat : IntKind.i64.wrap ((at_ : Int) + 1) = (at_ : Int) + 1 := IntWalk.i64_in _ (by omega)
      have hql : w.heap.size ≤ q := (hT2.own.lt q (by simp [Value.ownBlock])).1
      clear ho1 ho2 hq
      refine wp_regionE (fun w' => w'.cell? ⟨q, at_, none⟩ = some (.slice B1 t1.length d1) ∧ w'.cell? ⟨q, at_ + 1, none⟩ = some (.slice B2 t2.length d2)) 19 (by kernel_rfl) ?_
      change wpE _ _ _ _ _ _ 20 #[false, false, false, false, false, false, false, false, false, false, false, false, false, false, false, false, false, false, false, false] _ _
      have hdr : Below w2.heap.size w2 w2.drew := by go_grown
      replace hT2 := (hT2).below hdr
      replace hr1 := (CsR.below hr1 hdr).more hdr.size
      replace hr2 := (CsR.below hr2 hdr).more hdr.size
      replace q0 := ((bcell hdr).1 _ _ hqlt).trans q0
      replace q1 := ((bcell hdr).1 _ _ hqlt).trans q1
      replace hqlt := Nat.lt_of_lt_of_le hqlt hdr.size
      clear hdr
      generalize (w2).drew = wd at hT2 hr1 hr2 q0 q1 hqlt ⊢
      have hold := fun k (hk : wd.heap.size ≤ k) => (hT2).old hk
      have hltd := (hT2).lt
      have hS0 := And.intro q0 q1
      have HS := hide (fun wq (hb : Below wd.heap.size wd wq) => And.intro (((bcell hb).1 _ _ hqlt).trans q0) (((bcell hb).1 _ _ hqlt).trans q1))
      refine wpE_tk (v := ?_) 1 [19] (hy := ?_) (hS := hS0) (h := ?_)
      rotate_left
      ·intro w' hSw
       obtain ⟨hs0, hs1⟩ := hSw
       simp only [xg0, xg1, xg2]
       go_simp
       all_goals with_reducible rfl
      simp only [xg0, xg1, xg2, Act.put, xs0, xs1, xs2]
      refine wpE_tk (v := ?_) 2 [19] (hy := ?_) (hS := hS0) (h := ?_)
      rotate_left
      ·intro w' hSw
       obtain ⟨hs0, hs1⟩ := hSw
       simp only [xg0, xg1, xg2]
       go_simp
       all_goals with_reducible rfl
      simp only [xg0, xg1, xg2, Act.put, xs0, xs1, xs2]
      refine wpE_tk (v := ?_) 3 [19] (hy := ?_) (hS := hS0) (h := ?_)
      rotate_left
      ·intro w' hSw
       obtain ⟨hs0, hs1⟩ := hSw
       simp only [xg0, xg1, xg2]
       go_simp
       all_goals with_reducible rfl
      simp only [xg0, xg1, xg2, Act.put, xs0, xs1, xs2]
      refine wpE_tk (v := ?_) 4 [19] (hy := ?_) (hS := hS0) (h := ?_)
      rotate_left
      ·intro w' hSw
       obtain ⟨hs0, hs1⟩ := hSw
       simp only [xg0, xg1, xg2]
       go_simp
       all_goals with_reducible rfl
      simp only [xg0, xg1, xg2, Act.put, xs0, xs1, xs2]
      refine wpE_tk (v := ?_) 6 [19] (hy := ?_) (hS := hS0) (h := ?_)
      rotate_left
      ·intro w' hSw
       obtain ⟨hs0, hs1⟩ := hSw
       simp only [xg0, xg1, xg2]
       go_simp
       all_goals with_reducible rfl
      simp only [xg0, xg1, xg2, Act.put, xs0, xs1, xs2]
      refine wpE_tk (v := ?_) 7 [19] (hy := ?_) (hS := hS0) (h := ?_)
      rotate_left
      ·intro w' hSw
       obtain ⟨hs0, hs1⟩ := hSw
       simp only [xg0, xg1, xg2]
       go_simp
       all_goals with_reducible rfl
      simp only [xg0, xg1, xg2, Act.put, xs0, xs1, xs2]
      refine wpE_tk (v := ?_) 8 [19] (hy := ?_) (hS := hS0) (h := ?_)
      rotate_left
      ·intro w' hSw
       obtain ⟨hs0, hs1⟩ := hSw
       simp only [xg0, xg1, xg2]
       go_simp
       all_goals with_reducible rfl
      simp only [xg0, xg1, xg2, Act.put, xs0, xs1, xs2]
      refine wpE_tk (v := ?_) 9 [19] (hy := ?_) (hS := hS0) (h := ?_)
      rotate_left
      ·intro w' hSw
       obtain ⟨hs0, hs1⟩ := hSw
       simp only [xg0, xg1, xg2]
       go_simp
       all_goals with_reducible rfl
      simp only [xg0, xg1, xg2, Act.put, xs0, xs1, xs2]
      refine wpE_tk (v := ?_) 10 [19] (hy := ?_) (hS := hS0) (h := ?_)
      rotate_left
      ·intro w' hSw
       obtain ⟨hs0, hs1⟩ := hSw
       simp only [xg0, xg1, xg2]
       go_simp
       all_goals with_reducible rfl
      simp only [xg0, xg1, xg2, Act.put, xs0, xs1, xs2]
      refine wpE_tk (v := ?_) 12 [19] (hy := ?_) (hS := hS0) (h := ?_)
      rotate_left
      ·intro w' hSw
       obtain ⟨hs0, hs1⟩ := hSw
       simp only [xg0, xg1, xg2]
       go_simp
       all_goals with_reducible rfl
      simp only [xg0, xg1, xg2, Act.put, xs0, xs1, xs2]
      clear hS0 q0 q1
      have hal4 : Below wd.heap.size wd (wd.alloc (.cells #[] 139)) := by go_grown
      have own4 : (wd.alloc (.cells #[] 139)).ownsRow wd.heap.size 139 3 (.slice (some ⟨wd.heap.size, 0, none⟩) 0 0) 0 [] := own_empty (at_new rfl) (Nat.le_refl _)
      refine wpE_step' 0 (of_decide_eq_true (by kernel_rfl)) (by kernel_rfl) (by kernel_rfl) (fun K hK => ?_)
      simp only [xg0, xg1, xg2]
      go_simp
      refine hK.out _ _ (.inr (HS.out _ hal4)) ?_
      clear hK K
      simp only [Act.put, xs0, xs1, xs2]
      refine wpE_step' 5 (of_decide_eq_true (by kernel_rfl)) (by kernel_rfl) (by kernel_rfl) (fun K hK => ?_)
      simp only [xg0, xg1, xg2]
      refine app_wp _ (.tmp 65) (.tmp 69) _ rfl wd.heap.size 139 i0 _ 3 24 Tryz.underlying99 hi0 hz0 hz1 hz2 rfl (by omega) (.slice (some ⟨wd.heap.size, 0, none⟩) 0 0) 0 [] rfl own4 B1 t1.length d1 (mkCs t1) rfl (mkCs_length t1) (csr_news1 (CsR.below hr1 hal4)) (mkCs_one t1) (by omega) (by omega) hal4.size ?_
      intro A5 c5 w5 hown5 hg5 hat5
      simp only [Nat.zero_add, List.nil_append] at hown5 hat5 ⊢
      have hb5 : Below wd.heap.size wd w5 := below_app hal4 own4 hg5 (Nat.le_refl _) hal4.size
      refine hK.out _ _ (.inr (HS.out _ hb5)) ?_
      clear hK K hg5 hat5 own4 hal4
      simp only [Act.put, xs0, xs1, xs2]
      refine wpE_step' 11 (of_decide_eq_true (by kernel_rfl)) (by kernel_rfl) (by kernel_rfl) (fun K hK => ?_)
      simp only [xg0, xg1, xg2]
      refine app_wp _ (.tmp 70) (.tmp 75) _ rfl wd.heap.size 139 i0 _ 3 24 Tryz.underlying99 hi0 hz0 hz1 hz2 rfl (by omega) (.slice A5 t1.length c5) t1.length (mkCs t1) rfl hown5 B2 t2.length d2 (mkCs t2) rfl (mkCs_length t2) (csr_news1 (CsR.below hr2 hb5)) (mkCs_one t2) (by omega) (by omega) hb5.size ?_
      intro A6 c6 w6 hown6 hg6 hat6
      have hb6 : Below wd.heap.size wd w6 := below_app hb5 hown5 hg6 (Nat.le_refl _) hb5.size
      refine hK.out _ _ (.inr (HS.out _ hb6)) ?_
      clear hK K hg6 hat6 hown5 hb5
      simp only [Act.put, xs0, xs1, xs2]
      have hT6 := (hT2).below hb6
      obtain ⟨s0, s1⟩ := HS.out _ hb6
      refine wpE_step' 13 (of_decide_eq_true (by kernel_rfl)) (by kernel_rfl) (by kernel_rfl) (fun K hK => ?_)
      simp only [xg0, xg1, xg2]
      go_simp
      go_at_call 88
      refine (pick_tr 3 _ hT6 (by omega) (by omega)).mono ?_
      rintro e w7 ⟨v2, rfl, x0, x1, x2, hT7, G7, hsz7⟩
      have hv3 := x1 (by omega)
      have hS0 : w7.cell? ⟨q, at_, none⟩ = some (.slice B1 t1.length d1) ∧ w7.cell? ⟨q, at_ + 1, none⟩ = some (.slice B2 t2.length d2) := ⟨far_cell (x := .slice B1 t1.length d1) G7 s0 (by omega), far_cell (x := .slice B2 t2.length d2) G7 s1 (by omega)⟩
      refine hK.out _ _ (.inr hS0) ?_
      clear hK K s0 s1
      simp only [Act.put, xs0, xs1, xs2]
      have own7 := own_far hown6 G7 hltd
      obtain ⟨x, hx⟩ : ∃ x, 1 + Int.tdiv v2 2 = x := ⟨_, rfl⟩
      have htd : 0 ≤ Int.tdiv v2 2 ∧ Int.tdiv v2 2 ≤ 2 := by rw [Int.tdiv_eq_ediv_of_nonneg (by omega)]; omega
      have hwx : IntKind.i64.wrap (1 + Int.tdiv v2 2) = x := by rw [IntWalk.i64_in _ (by omega)]; exact hx
      have hwx0 : IntKind.i64.wrap (Int.tdiv v2 2) = Int.tdiv v2 2 := IntWalk.i64_in _ (by omega)
      clear x1 x2 hx
      refine wpE_tk (v := ?_) 14 [19] (hy := ?_) (hS := hS0) (h := ?_)
      rotate_left
      ·intro w' hSw
       obtain ⟨hs0, hs1⟩ := hSw
       simp only [xg0, xg1, xg2]
       go_simp
       all_goals with_reducible rfl
      simp only [xg0, xg1, xg2, Act.put, xs0, xs1, xs2]
      refine wpE_tk (v := ?_) 15 [19] (hy := ?_) (hS := hS0) (h := ?_)
      rotate_left
      ·intro w' hSw
       obtain ⟨hs0, hs1⟩ := hSw
       simp only [xg0, xg1, xg2]
       go_simp
       all_goals with_reducible rfl
      simp only [xg0, xg1, xg2, Act.put, xs0, xs1, xs2]
      refine wpE_tk (v := ?_) 16 [19] (hy := ?_) (hS := hS0) (h := ?_)
      rotate_left
      ·intro w' hSw
       obtain ⟨hs0, hs1⟩ := hSw
       simp only [xg0, xg1, xg2]
       go_simp
       all_goals with_reducible rfl
      simp only [xg0, xg1, xg2, Act.put, xs0, xs1, xs2]
      have hal8 : Below w7.heap.size w7 (w7.alloc (.cells #[.int .i64 x, .int .i64 0, .int .i64 0] 139)) := by go_grown
      have own8 := own_below own7 hal8
      have hT8 := hT7.below hal8
      have hnew8 : (w7.alloc (.cells #[.int .i64 x, .int .i64 0, .int .i64 0] 139)).heap[w7.heap.size]? = some (.cells #[.int .i64 x, .int .i64 0, .int .i64 0] 139 (0, 0)) := at_new rfl
      have hsz8 : wd.heap.size ≤ (w7.alloc (.cells #[.int .i64 x, .int .i64 0, .int .i64 0] 139)).heap.size := Nat.le_trans hb6.size (Nat.le_trans (Nat.le_of_eq hsz7.symm) hal8.size)
      have hq7 : q < w7.heap.size := Nat.lt_of_lt_of_le hqlt (Nat.le_trans hb6.size (Nat.le_of_eq hsz7.symm))
      have hS8 := And.intro (((bcell hal8).1 _ _ hq7).trans hS0.1) (((bcell hal8).1 _ _ hq7).trans hS0.2)
      clear hS0 hsz7
      refine wpE_step' 17 (of_decide_eq_true (by kernel_rfl)) (by kernel_rfl) (by kernel_rfl) (fun K hK => ?_)
      simp only [xg0, xg1, xg2]
      go_simp
      refine hK.out _ _ (.inr hS8) ?_
      clear hK K
      simp only [Act.put, xs0, xs1, xs2]
      refine wpE_step' 18 (of_decide_eq_true (by kernel_rfl)) (by kernel_rfl) (by kernel_rfl) (fun K hK => ?_)
      simp only [xg0, xg1, xg2]
      refine app_wp _ (.tmp 76) (.tmp 82) _ rfl wd.heap.size 139 i0 _ 3 24 Tryz.underlying99 hi0 hz0 hz1 hz2 rfl (by omega) (.slice A6 (t1.length + t2.length) c6) (t1.length + t2.length) (mkCs t1 ++ mkCs t2) rfl own8 (some ⟨w7.heap.size, 0, none⟩) 1 _ (mkCs [⟨x, 0, 0⟩]) rfl rfl (mk_news1 hnew8) (mkCs_one _) (by omega) (by omega) hsz8 ?_
      intro A9 c9 w9 hown9 hg9 hat9
      have hT9 := hT8.aside hg9 (fun k hk => hold k (own8.lt k hk).1)
      have hqo : some q ≠ (Value.slice A6 (t1.length + t2.length) c6).ownBlock := fun e => by have := (own8.lt q e.symm).1; omega
      have hS9 := And.intro (hg9.cell (a := ⟨q, at_, none⟩) hS8.1 hqo) (hg9.cell (a := ⟨q, at_ + 1, none⟩) hS8.2 hqo)
      refine hK.out _ _ (.inr hS9) ?_
      clear hK K
      simp only [Act.put, xs0, xs1, xs2]
      refine wpE_step' 19 (of_decide_eq_true (by kernel_rfl)) (by kernel_rfl) (by kernel_rfl) (fun K hK => ?_)
      simp only [xg0, xg1, xg2]
      go_simp
      refine hK.out _ _ (.inl rfl) ?_
      clear hK K
      simp only [Act.put, xs0, xs1, xs2]
      refine wpE_done (by kernel_rfl) ?_ _
      have hM2 : 2 * M + 1 ≤ bnd (0 + vs.length - 1) ∧ M ≤ bnd (0 + vs.length - 1) := by
       have h := Hstp.out
       rw [HM.out] at h
       exact h
      have hu9 : MRow w.heap.size w9 (bnd (0 + vs.length - 1)) (.slice A9 (t1.length + t2.length + 1) c9) :=
       ⟨A9, c9, t1 ++ t2 ++ [⟨x, 0, 0⟩], by rw [List.length_append, List.length_append]; rfl, by
        unfold OwnM
        rw [List.length_append, List.length_append, mkCs_append, mkCs_append]
        exact own_less hown9 (Nat.le_trans (hT2).gr.size (Nat.le_refl _)), by rw [List.length_append, List.length_append, List.length_singleton]; omega, by rw [List.length_append, List.length_append, List.length_singleton]; omega⟩
      replace hT9 := hT9.moreM hM2.2
      clear hS8 hS9 hqo hown9 hg9 hat9 hnew8 hsz8 hal8 own8 hT8 own7 hT7 G7 hT6 hown6 hb6 HS hr1 hr2 hold hltd hT2 hq7 hwx hwx0 htd hM2
      obtain ⟨q9, hq9⟩ := own_csR hT9.own
      have hqe := hq9.addr (by omega)
      injection hqe with hqe
      injection hqe with hqe _ _
      subst hqe
      have hq9lt := hq9.lt (by omega)
      have hcap := own_capM hT9.own
      obtain ⟨m9, hm9⟩ : ∃ m9, t1.length + t2.length + 1 = m9 := ⟨_, rfl⟩
      rw [hm9] at hu9 ⊢
      have Hm9 := hide hm9
      clear hm9
      have hone := rows_one (fun u hu => (hT9.each u hu).1)
      have hal10 : Below w9.heap.size w9 (w9.alloc (.cells #[] 99)) := by go_grown
      have own10 : (w9.alloc (.cells #[] 99)).ownsRow w9.heap.size 99 1 (.slice (some ⟨w9.heap.size, 0, none⟩) 0 0) 0 [] := own_empty (at_new rfl) (Nat.le_refl _)
      have hnews10 : NewsAt (w9.alloc (.cells #[] 99)) (some ⟨q, 0, none⟩) at_ (vs.take at_) := fun _ => ⟨_, rfl, fun j u hu => by
       rw [List.getElem?_take] at hu
       split at hu
       ·rw [add_zero_off]; exact (CsR.below hq9 hal10).cell j u hu
       ·cases hu⟩
      have htl : (vs.take at_).length = at_ * 1 := by rw [List.length_take]; omega
      have hatc : (at_ : Int) ≤ (c1 : Int) := by omega
      have hat00 : (0 : Int) ≤ (at_ : Int) := by omega
      go_upto_region 15 with (at_builtin; refine app_list _ rfl (.tmp 84) (.tmp 87) _ rfl w9.heap.size 99 j0 _ 1 24 Tryz.underlying137 hj0 hy0 hy1 hy2 rfl (by omega) (.slice (some ⟨w9.heap.size, 0, none⟩) 0 0) 0 [] rfl own10 (some ⟨q, 0, none⟩) at_ c1 (vs.take at_) rfl htl hnews10 (fun u hu => hone u (List.mem_of_mem_take hu)) (by omega) (by omega) hal10.size ?_; intro A11 c11 w11 hown11 hg11 hat11; simp only [Nat.zero_add, List.nil_append] at hown11 hat11 ⊢)
      have hb11 : Below w9.heap.size w9 w11 := below_app hal10 own10 hg11 (Nat.le_refl _) hal10.size
      clear own10 hg11 hat11 hnews10 hal10
      have hal12 : Below w11.heap.size w11 (w11.alloc (.cells #[.slice A9 m9 c9] 99)) := by go_grown
      have own12 := own_below hown11 hal12
      have hnew12 : (w11.alloc (.cells #[.slice A9 m9 c9] 99)).heap[w11.heap.size]? = some (.cells #[.slice A9 m9 c9] 99 (0, 0)) := at_new rfl
      have hb12 := bthen hb11 hal12
      go_upto_region 16 with (at_builtin; refine app_list _ rfl (.tmp 89) (.tmp 91) _ rfl w9.heap.size 99 j0 _ 1 24 Tryz.underlying137 hj0 hy0 hy1 hy2 rfl (by omega) (.slice A11 at_ c11) at_ (vs.take at_) rfl own12 (some ⟨w11.heap.size, 0, none⟩) 1 _ [.slice A9 m9 c9] rfl rfl (NewsAt.block (cs := #[.slice A9 m9 c9]) hnew12) (by simp [Value.oneCell']) (by omega) (by omega) hb12.size ?_; intro A13 c13 w13 hown13 hg13 hat13)
      have hb13 : Below w9.heap.size w9 w13 := below_app hb12 own12 hg13 (Nat.le_refl _) hb12.size
      clear hg13 hat13 own12 hnew12 hal12 hown11
      have hwa2 : IntKind.i64.wrap ((at_ : Int) + 2) = (at_ : Int) + 2 := IntWalk.i64_in _ (by omega)
      have hlo2 : (0 : Int) ≤ (at_ : Int) + 2 := by omega
      have hhi2 : (at_ : Int) + 2 ≤ (vs.length : Int) := by omega
      have htn : ((at_ : Int) + 2).toNat = at_ + 2 := by omega
      obtain ⟨A', hA'⟩ : ∃ A' : Option Addr, (if c1 = at_ + 2 then some (⟨q, 0, none⟩ : Addr) else some ⟨q, at_ + 2, none⟩) = A' := ⟨_, rfl⟩
      have hnews16 : NewsAt w13 A' (vs.length - (at_ + 2)) (vs.drop (at_ + 2)) := fun hm => ⟨⟨q, at_ + 2, none⟩, by rw [← hA', if_neg (by omega)], fun j u hu => by
       rw [List.getElem?_drop] at hu
       rw [add_zero_off]
       have := (CsR.below hq9 hb13).cell _ u hu
       rwa [Nat.zero_add] at this⟩
      have hdl : (vs.drop (at_ + 2)).length = (vs.length - (at_ + 2)) * 1 := by rw [List.length_drop]; omega
      go_wp2_with (at_builtin; refine app_list _ rfl (.tmp 93) (.tmp 97) _ rfl w9.heap.size 99 j0 _ 1 24 Tryz.underlying137 hj0 hy0 hy1 hy2 rfl (by omega) (.slice A13 (at_ + 1) c13) (at_ + 1) (vs.take at_ ++ [.slice A9 m9 c9]) rfl hown13 A' (vs.length - (at_ + 2)) (c1 - (at_ + 2)) (vs.drop (at_ + 2)) rfl hdl hnews16 (fun u hu => hone u (List.mem_of_mem_drop hu)) (by omega) (by omega) hb13.size ?_; intro A16 c16 w16 hown16 hg16 hat16)
      have hb16 : Below w9.heap.size w9 w16 := below_app hb13 hown13 hg16 (Nat.le_refl _) hb13.size
      obtain ⟨vs2, hvs2⟩ : ∃ v, vs.take at_ ++ [Value.slice A9 m9 c9] ++ vs.drop (at_ + 2) = v := ⟨_, rfl⟩
      have hl2 : vs2.length = at_ + 1 + (vs.length - (at_ + 2)) := by rw [← hvs2, List.length_append, List.length_append, List.length_take, List.length_drop, List.length_singleton]; omega
      have hT16 : TR w w16 g (K + 50 - 4 * ((0 + vs.length : Nat) : Int) + 2 + 1) (.slice A16 vs2.length c16) vs2 (bnd (0 + vs.length - 1)) := by
       refine hT9.fresh hb16 (by rw [hl2, ← hvs2]; exact hown16) (fun u hu => ?_)
       rw [← hvs2] at hu
       rcases List.mem_append.1 hu with hu | hu
       ·rcases List.mem_append.1 hu with hu | hu
        ·exact .inl (List.mem_of_mem_take hu)
        ·rw [List.mem_singleton.1 hu]; exact .inr hu9
       ·exact .inl (List.mem_of_mem_drop hu)
      have hl3 : vs2.length = vs.length - 1 := by omega
      have Hl2 := hide (And.intro hl2 hl3)
      have HT16 := hide hT16
      clear hl2 hl3 hvs2 hT16 hown16 hg16 hat16 hown13 hb13 hnews16 hA' hT9 hq9 hu9 hone hb16 hwa2 htn
      go_roundg (0 + vs.length - 1)
      case measure => go_light; omega
      case rel =>
       go_light
       refine ⟨0, A16, c16, vs2, by rw [Hl2.out.2]; omega, rfl, by rw [Hl2.out.1], by rw [Hl2.out.2]; omega, by rw [Hl2.out.2]; omega, ?_⟩
       have h9 := HT16.out.more (K' := K + 50 - 4 * ((0 + vs2.length : Nat) : Int)) (by rw [Hl2.out.2]; omega)
       rw [show 0 + vs.length - 1 = 0 + vs2.length by rw [Hl2.out.2]; omega] at h9
       exact h9
     ·have hlz : (0 : Int) < (lf : Int) := by omega
      have hwf : IntKind.i64.wrap ((lf : Int) - 1) = ((lf - 1 : Nat) : Int) := by rw [IntWalk.i64_in _ (by omega)]; omega
      go_upto_if 47 with (go_at_call 88; go_fit (pick_tr 4 _ hT2 (by omega) (by omega)); rintro e w3 ⟨y, rfl, x0, x1, x2, hT3, G, hsz⟩)
      clear hT2 G hsz x1 x2 x0
      by_cases hy : y = 0
      ·subst hy
       -- a part that may last less
       obtain ⟨q, hq⟩ := own_csR hT3.own
       obtain rfl := hq.addr (by omega)
       obtain ⟨u, hu⟩ : ∃ u, vs[at_]? = some u := ⟨_, List.getElem?_eq_getElem (by omega)⟩
       have q0 := hq.cell at_ u hu
       have hqlt := hq.lt (by omega)
       rw [Nat.zero_add] at q0
       obtain ⟨⟨B1, d1, t1, rfl, ho1, hl1⟩, hne1⟩ := hT3.each u (List.mem_of_getElem? hu)
       obtain ⟨g1, hr1⟩ := OwnM.reads ho1
       have hal4 : Below w3.heap.size w3 (w3.alloc (.cells #[] 139)) := by go_grown
       have own4 : (w3.alloc (.cells #[] 139)).ownsRow w.heap.size 139 3 (.slice (some ⟨w3.heap.size, 0, none⟩) 0 0) 0 [] := own_empty (at_new rfl) hT3.gr.size
       have own4b : (w3.alloc (.cells #[] 139)).ownsRow w3.heap.size 139 3 (.slice (some ⟨w3.heap.size, 0, none⟩) 0 0) 0 [] := own_empty (at_new rfl) (Nat.le_refl _)
       have hr4 := (CsR.below hr1 hal4)
       have hsz4 : w.heap.size ≤ (w3.alloc (.cells #[] 139)).heap.size := Nat.le_trans hT3.gr.size hal4.size
       have hatz : (at_ : Int) < (vs.length : Int) := by omega
       clear hq hu ho1
       have hlt3 := hT3.lt
       have hold := fun k (hk : w3.heap.size ≤ k) => hT3.old hk
       have hM2 : 2 * M + 1 ≤ bnd (lf - 1 + vs.length) ∧ M ≤ bnd (lf - 1 + vs.length) := by
        have h := Hstp.out
        rw [HM.out] at h
        rw [show lf - 1 + vs.length = lf + vs.length - 1 by omega]
        exact h
       go_wp2_with (first
        | (at_builtin; refine app_list _ rfl (.tmp 52) (.tmp 56) _ rfl w3.heap.size 139 i0 _ 3 24 Tryz.underlying99 hi0 hz0 hz1 hz2 rfl (by omega) (.slice (some ⟨w3.heap.size, 0, none⟩) 0 0) 0 [] rfl own4b B1 t1.length d1 (mkCs t1) rfl (mkCs_length t1) (csr_news1 hr4) (mkCs_one t1) (by omega) (by omega) hal4.size ?_
           intro A6 c6 w6 hown6 hg6 hat6
           simp only [Nat.zero_add, List.nil_append] at hown6 hat6 ⊢
           have hb6 : Below w3.heap.size w3 w6 := below_app hal4 own4b hg6 (Nat.le_refl _) hal4.size
           have hT6 := hT3.below hb6)
        | (go_at_call 88; go_fit (pick_tr 14 _ hT6 (by omega) (by omega)); rintro e w7 ⟨v2, rfl, x0, x1, x2, hT7, G7, hsz7⟩
           have hv14 := x1 (by omega)
           have hw2 : IntKind.i64.wrap (3 + v2) = 3 + v2 := IntWalk.i64_in _ (by omega)
           clear x1 x2
           have own7 := own_far hown6 G7 hlt3
           have hal8 : Below w7.heap.size w7 (w7.alloc (.cells #[.int .i64 3, .int .i64 0, .int .i64 (3 + v2)] 139)) := by go_grown
           have own8 := own_below own7 hal8
           have hT8 := hT7.below hal8
           have hnew8 : (w7.alloc (.cells #[.int .i64 3, .int .i64 0, .int .i64 (3 + v2)] 139)).heap[w7.heap.size]? = some (.cells #[.int .i64 3, .int .i64 0, .int .i64 (3 + v2)] 139 (0, 0)) := at_new rfl
           have hsz8 : w3.heap.size ≤ (w7.alloc (.cells #[.int .i64 3, .int .i64 0, .int .i64 (3 + v2)] 139)).heap.size := Nat.le_trans hb6.size (Nat.le_trans (Nat.le_of_eq hsz7.symm) hal8.size)
           clear hsz7)
        | (at_builtin; refine app_list _ rfl (.tmp 57) (.tmp 62) _ rfl w3.heap.size 139 i0 _ 3 24 Tryz.underlying99 hi0 hz0 hz1 hz2 rfl (by omega) (.slice A6 t1.length c6) t1.length (mkCs t1) rfl own8 (some ⟨w7.heap.size, 0, none⟩) 1 _ (mkCs [⟨3, 0, 3 + v2⟩]) rfl rfl (mk_news1 hnew8) (mkCs_one _) (by omega) (by omega) hsz8 ?_
           intro A9 c9 w9 hown9 hg9 hat9
           have hT9 := hT8.aside hg9 (fun k hk => hold k (own8.lt k hk).1)
           obtain ⟨hO9, ⟨y9, hy9⟩, hf9⟩ := own_set1 (k := at_) (.slice A9 (t1.length + 1) c9) hT9.own (by omega)))
       have hu9 : MRow w.heap.size w9 (bnd (lf - 1 + vs.length)) (.slice A9 (t1.length + 1) c9) :=
        ⟨A9, c9, t1 ++ [⟨3, 0, 3 + v2⟩], by rw [List.length_append]; rfl, by
         unfold OwnM
         rw [List.length_append, mkCs_append]
         exact own_less hown9 hT3.gr.size, by rw [List.length_append, List.length_singleton]; omega, by rw [List.length_append, List.length_singleton]; omega⟩
       have hne9 : (Value.slice A9 (t1.length + 1) c9).ownBlock ≠ some q := fun e => by
        have h1 := (hown9.lt q e).1
        have h2 := (hT3.own.lt q (by simp [Value.ownBlock])).2
        omega
       have hT10 := (hT9.moreM hM2.2).put hu9 hne9 (by omega) hO9
       obtain ⟨vs2, hvs2⟩ : ∃ v, vs.set at_ (.slice A9 (t1.length + 1) c9) = v := ⟨_, rfl⟩
       have hl2 : vs2.length = vs.length := by rw [← hvs2, List.length_set]
       rw [hvs2] at hT10
       have Hl2 := hide hl2
       have HT10 := hide hT10
       clear hl2 hvs2 hT10 hu9 hne9 hO9 hT9 hown9 hg9 hat9 hy9 hf9 hnew8 hsz8 hal8 own8 hT8 own7 hT7 G7 hT6 hb6 hown6 hg6 hat6 hM2 hold hr4 own4 own4b hal4 hr1 hT3 hne1
       go_roundg (lf - 1 + vs.length)
       case measure => go_light; omega
       case rel => go_light; exact ⟨lf - 1, some ⟨q, 0, none⟩, c1, vs2, by rw [Hl2.out], rfl, by rw [Hl2.out], by rw [Hl2.out]; exact hv1, by rw [Hl2.out]; omega, by rw [Hl2.out]; rw [Hl2.out] at HT10; exact HT10.out.more (by omega)⟩
      ·have hy' : (y == 0) = false := by simpa using hy
       clear hy
       go_upto_region 13 with fail
       replace hT3 := hT3.more (K' := K + 50 - 4 * ((lf + vs.length : Nat) : Int) + 2) (by omega)
       obtain ⟨q, hq⟩ := own_csR hT3.own
       obtain rfl := hq.addr (by omega)
       obtain ⟨u, hu⟩ : ∃ u, vs[at_]? = some u := ⟨_, List.getElem?_eq_getElem (by omega)⟩
       obtain ⟨u', hu'⟩ : ∃ u, vs[at_ + 1]? = some u := ⟨_, List.getElem?_eq_getElem (by omega)⟩
       have q0 := hq.cell at_ u hu
       have q1 := hq.cell (at_ + 1) u' hu'
       rw [Nat.zero_add] at q0 q1
       have hqlt := hq.lt (by omega)
       obtain ⟨⟨B1, d1, t1, rfl, ho1, hl1⟩, -⟩ := hT3.each u (List.mem_of_getElem? hu)
       obtain ⟨⟨B2, d2, t2, rfl, ho2, hl2⟩, -⟩ := hT3.each u' (List.mem_of_getElem? hu')
       obtain ⟨g1, hr1⟩ := OwnM.reads ho1
       obtain ⟨g2, hr2⟩ := OwnM.reads ho2
       have hatz : (at_ : Int) < (vs.length : Int) := by omega
       have hatz1 : (at_ : Int) + 1 < (vs.length : Int) := by omega
       have hat0 : (0 : Int) ≤ (at_ : Int) + 1 := by omega
       have hwat : IntKind.i64.wrap ((at_ : Int) + 1) = (at_ : Int) + 1 := IntWalk.i64_in _ (by omega)
       have hql : w.heap.size ≤ q := (hT3.own.lt q (by simp [Value.ownBlock])).1
       clear ho1 ho2 hq
       refine wp_regionE (fun w' => w'.cell? ⟨q, at_, none⟩ = some (.slice B1 t1.length d1) ∧ w'.cell? ⟨q, at_ + 1, none⟩ = some (.slice B2 t2.length d2)) 19 (by kernel_rfl) ?_
       change wpE _ _ _ _ _ _ 20 #[false, false, false, false, false, false, false, false, false, false, false, false, false, false, false, false, false, false, false, false] _ _
       have hdr : Below w3.heap.size w3 w3.drew := by go_grown
       replace hT3 := (hT3).below hdr
       replace hr1 := (CsR.below hr1 hdr).more hdr.size
       replace hr2 := (CsR.below hr2 hdr).more hdr.size
       replace q0 := ((bcell hdr).1 _ _ hqlt).trans q0
       replace q1 := ((bcell hdr).1 _ _ hqlt).trans q1
       replace hqlt := Nat.lt_of_lt_of_le hqlt hdr.size
       clear hdr
       generalize (w3).drew = wd at hT3 hr1 hr2 q0 q1 hqlt ⊢
       have hold := fun k (hk : wd.heap.size ≤ k) => (hT3).old hk
       have hltd := (hT3).lt
       have hS0 := And.intro q0 q1
       have HS := hide (fun wq (hb : Below wd.heap.size wd wq) => And.intro (((bcell hb).1 _ _ hqlt).trans q0) (((bcell hb).1 _ _ hqlt).trans q1))
       refine wpE_tk (v := ?_) 1 [19] (hy := ?_) (hS := hS0) (h := ?_)
       rotate_left
       ·intro w' hSw
        obtain ⟨hs0, hs1⟩ := hSw
        simp only [xg0, xg1, xg2]
        go_simp
        all_goals with_reducible rfl
       simp only [xg0, xg1, xg2, Act.put, xs0, xs1, xs2]
       refine wpE_tk (v := ?_) 2 [19] (hy := ?_) (hS := hS0) (h := ?_)
       rotate_left
       ·intro w' hSw
        obtain ⟨hs0, hs1⟩ := hSw
        simp only [xg0, xg1, xg2]
        go_simp
        all_goals with_reducible rfl
       simp only [xg0, xg1, xg2, Act.put, xs0, xs1, xs2]
       refine wpE_tk (v := ?_) 3 [19] (hy := ?_) (hS := hS0) (h := ?_)
       rotate_left
       ·intro w' hSw
        obtain ⟨hs0, hs1⟩ := hSw
        simp only [xg0, xg1, xg2]
        go_simp
        all_goals with_reducible rfl
       simp only [xg0, xg1, xg2, Act.put, xs0, xs1, xs2]
       refine wpE_tk (v := ?_) 4 [19] (hy := ?_) (hS := hS0) (h := ?_)
       rotate_left
       ·intro w' hSw
        obtain ⟨hs0, hs1⟩ := hSw
        simp only [xg0, xg1, xg2]
        go_simp
        all_goals with_reducible rfl
       simp only [xg0, xg1, xg2, Act.put, xs0, xs1, xs2]
       refine wpE_tk (v := ?_) 6 [19] (hy := ?_) (hS := hS0) (h := ?_)
       rotate_left
       ·intro w' hSw
        obtain ⟨hs0, hs1⟩ := hSw
        simp only [xg0, xg1, xg2]
        go_simp
        all_goals with_reducible rfl
       simp only [xg0, xg1, xg2, Act.put, xs0, xs1, xs2]
       refine wpE_tk (v := ?_) 7 [19] (hy := ?_) (hS := hS0) (h := ?_)
       rotate_left
       ·intro w' hSw
        obtain ⟨hs0, hs1⟩ := hSw
        simp only [xg0, xg1, xg2]
        go_simp
        all_goals with_reducible rfl
       simp only [xg0, xg1, xg2, Act.put, xs0, xs1, xs2]
       refine wpE_tk (v := ?_) 8 [19] (hy := ?_) (hS := hS0) (h := ?_)
       rotate_left
       ·intro w' hSw
        obtain ⟨hs0, hs1⟩ := hSw
        simp only [xg0, xg1, xg2]
        go_simp
        all_goals with_reducible rfl
       simp only [xg0, xg1, xg2, Act.put, xs0, xs1, xs2]
       refine wpE_tk (v := ?_) 9 [19] (hy := ?_) (hS := hS0) (h := ?_)
       rotate_left
       ·intro w' hSw
        obtain ⟨hs0, hs1⟩ := hSw
        simp only [xg0, xg1, xg2]
        go_simp
        all_goals with_reducible rfl
       simp only [xg0, xg1, xg2, Act.put, xs0, xs1, xs2]
       refine wpE_tk (v := ?_) 10 [19] (hy := ?_) (hS := hS0) (h := ?_)
       rotate_left
       ·intro w' hSw
        obtain ⟨hs0, hs1⟩ := hSw
        simp only [xg0, xg1, xg2]
        go_simp
        all_goals with_reducible rfl
       simp only [xg0, xg1, xg2, Act.put, xs0, xs1, xs2]
       refine wpE_tk (v := ?_) 12 [19] (hy := ?_) (hS := hS0) (h := ?_)
       rotate_left
       ·intro w' hSw
        obtain ⟨hs0, hs1⟩ := hSw
        simp only [xg0, xg1, xg2]
        go_simp
        all_goals with_reducible rfl
       simp only [xg0, xg1, xg2, Act.put, xs0, xs1, xs2]
       clear hS0 q0 q1
       have hal4 : Below wd.heap.size wd (wd.alloc (.cells #[] 139)) := by go_grown
       have own4 : (wd.alloc (.cells #[] 139)).ownsRow wd.heap.size 139 3 (.slice (some ⟨wd.heap.size, 0, none⟩) 0 0) 0 [] := own_empty (at_new rfl) (Nat.le_refl _)
       refine wpE_step' 0 (of_decide_eq_true (by kernel_rfl)) (by kernel_rfl) (by kernel_rfl) (fun K hK => ?_)
       simp only [xg0, xg1, xg2]
       go_simp
       refine hK.out _ _ (.inr (HS.out _ hal4)) ?_
       clear hK K
       simp only [Act.put, xs0, xs1, xs2]
       refine wpE_step' 5 (of_decide_eq_true (by kernel_rfl)) (by kernel_rfl) (by kernel_rfl) (fun K hK => ?_)
       simp only [xg0, xg1, xg2]
       refine app_wp _ (.tmp 65) (.tmp 69) _ rfl wd.heap.size 139 i0 _ 3 24 Tryz.underlying99 hi0 hz0 hz1 hz2 rfl (by omega) (.slice (some ⟨wd.heap.size, 0, none⟩) 0 0) 0 [] rfl own4 B1 t1.length d1 (mkCs t1) rfl (mkCs_length t1) (csr_news1 (CsR.below hr1 hal4)) (mkCs_one t1) (by omega) (by omega) hal4.size ?_
       intro A5 c5 w5 hown5 hg5 hat5
       simp only [Nat.zero_add, List.nil_append] at hown5 hat5 ⊢
       have hb5 : Below wd.heap.size wd w5 := below_app hal4 own4 hg5 (Nat.le_refl _) hal4.size
       refine hK.out _ _ (.inr (HS.out _ hb5)) ?_
       clear hK K hg5 hat5 own4 hal4
       simp only [Act.put, xs0, xs1, xs2]
       refine wpE_step' 11 (of_decide_eq_true (by kernel_rfl)) (by kernel_rfl) (by kernel_rfl) (fun K hK => ?_)
       simp only [xg0, xg1, xg2]
       refine app_wp _ (.tmp 70) (.tmp 75) _ rfl wd.heap.size 139 i0 _ 3 24 Tryz.underlying99 hi0 hz0 hz1 hz2 rfl (by omega) (.slice A5 t1.length c5) t1.length (mkCs t1) rfl hown5 B2 t2.length d2 (mkCs t2) rfl (mkCs_length t2) (csr_news1 (CsR.below hr2 hb5)) (mkCs_one t2) (by omega) (by omega) hb5.size ?_
       intro A6 c6 w6 hown6 hg6 hat6
       have hb6 : Below wd.heap.size wd w6 := below_app hb5 hown5 hg6 (Nat.le_refl _) hb5.size
       refine hK.out _ _ (.inr (HS.out _ hb6)) ?_
       clear hK K hg6 hat6 hown5 hb5
       simp only [Act.put, xs0, xs1, xs2]
       have hT6 := (hT3).below hb6
       obtain ⟨s0, s1⟩ := HS.out _ hb6
       refine wpE_step' 13 (of_decide_eq_true (by kernel_rfl)) (by kernel_rfl) (by kernel_rfl) (fun K hK => ?_)
       simp only [xg0, xg1, xg2]
       go_simp
       go_at_call 88
       refine (pick_tr 3 _ hT6 (by omega) (by omega)).mono ?_
       rintro e w7 ⟨v2, rfl, x0, x1, x2, hT7, G7, hsz7⟩
       have hv3 := x1 (by omega)
       have hS0 : w7.cell? ⟨q, at_, none⟩ = some (.slice B1 t1.length d1) ∧ w7.cell? ⟨q, at_ + 1, none⟩ = some (.slice B2 t2.length d2) := ⟨far_cell (x := .slice B1 t1.length d1) G7 s0 (by omega), far_cell (x := .slice B2 t2.length d2) G7 s1 (by omega)⟩
       refine hK.out _ _ (.inr hS0) ?_
       clear hK K s0 s1
       simp only [Act.put, xs0, xs1, xs2]
       have own7 := own_far hown6 G7 hltd
       obtain ⟨x, hx⟩ : ∃ x, 1 + Int.tdiv v2 2 = x := ⟨_, rfl⟩
       have htd : 0 ≤ Int.tdiv v2 2 ∧ Int.tdiv v2 2 ≤ 2 := by rw [Int.tdiv_eq_ediv_of_nonneg (by omega)]; omega
       have hwx : IntKind.i64.wrap (1 + Int.tdiv v2 2) = x := by rw [IntWalk.i64_in _ (by omega)]; exact hx
       have hwx0 : IntKind.i64.wrap (Int.tdiv v2 2) = Int.tdiv v2 2 := IntWalk.i64_in _ (by omega)
       clear x1 x2 hx
       refine wpE_tk (v := ?_) 14 [19] (hy := ?_) (hS := hS0) (h := ?_)
       rotate_left
       ·intro w' hSw
        obtain ⟨hs0, hs1⟩ := hSw
        simp only [xg0, xg1, xg2]
        go_simp
        all_goals with_reducible rfl
       simp only [xg0, xg1, xg2, Act.put, xs0, xs1, xs2]
       refine wpE_tk (v := ?_) 15 [19] (hy := ?_) (hS := hS0) (h := ?_)
       rotate_left
       ·intro w' hSw
        obtain ⟨hs0, hs1⟩ := hSw
        simp only [xg0, xg1, xg2]
        go_simp
        all_goals with_reducible rfl
       simp only [xg0, xg1, xg2, Act.put, xs0, xs1, xs2]
       refine wpE_tk (v := ?_) 16 [19] (hy := ?_) (hS := hS0) (h := ?_)
       rotate_left
       ·intro w' hSw
        obtain ⟨hs0, hs1⟩ := hSw
        simp only [xg0, xg1, xg2]
        go_simp
        all_goals with_reducible rfl
       simp only [xg0, xg1, xg2, Act.put, xs0, xs1, xs2]
       have hal8 : Below w7.heap.size w7 (w7.alloc (.cells #[.int .i64 x, .int .i64 0, .int .i64 0] 139)) := by go_grown
       have own8 := own_below own7 hal8
       have hT8 := hT7.below hal8
       have hnew8 : (w7.alloc (.cells #[.int .i64 x, .int .i64 0, .int .i64 0] 139)).heap[w7.heap.size]? = some (.cells #[.int .i64 x, .int .i64 0, .int .i64 0] 139 (0, 0)) := at_new rfl
       have hsz8 : wd.heap.size ≤ (w7.alloc (.cells #[.int .i64 x, .int .i64 0, .int .i64 0] 139)).heap.size := Nat.le_trans hb6.size (Nat.le_trans (Nat.le_of_eq hsz7.symm) hal8.size)
       have hq7 : q < w7.heap.size := Nat.lt_of_lt_of_le hqlt (Nat.le_trans hb6.size (Nat.le_of_eq hsz7.symm))
       have hS8 := And.intro (((bcell hal8).1 _ _ hq7).trans hS0.1) (((bcell hal8).1 _ _ hq7).trans hS0.2)
       clear hS0 hsz7
       refine wpE_step' 17 (of_decide_eq_true (by kernel_rfl)) (by kernel_rfl) (by kernel_rfl) (fun K hK => ?_)
       simp only [xg0, xg1, xg2]
       go_simp
       refine hK.out _ _ (.inr hS8) ?_
       clear hK K
       simp only [Act.put, xs0, xs1, xs2]
       refine wpE_step' 18 (of_decide_eq_true (by kernel_rfl)) (by kernel_rfl) (by kernel_rfl) (fun K hK => ?_)
       simp only [xg0, xg1, xg2]
       refine app_wp _ (.tmp 76) (.tmp 82) _ rfl wd.heap.size 139 i0 _ 3 24 Tryz.underlying99 hi0 hz0 hz1 hz2 rfl (by omega) (.slice A6 (t1.length + t2.length) c6) (t1.length + t2.length) (mkCs t1 ++ mkCs t2) rfl own8 (some ⟨w7.heap.size, 0, none⟩) 1 _ (mkCs [⟨x, 0, 0⟩]) rfl rfl (mk_news1 hnew8) (mkCs_one _) (by omega) (by omega) hsz8 ?_
       intro A9 c9 w9 hown9 hg9 hat9
       have hT9 := hT8.aside hg9 (fun k hk => hold k (own8.lt k hk).1)
       have hqo : some q ≠ (Value.slice A6 (t1.length + t2.length) c6).ownBlock := fun e => by have := (own8.lt q e.symm).1; omega
       have hS9 := And.intro (hg9.cell (a := ⟨q, at_, none⟩) hS8.1 hqo) (hg9.cell (a := ⟨q, at_ + 1, none⟩) hS8.2 hqo)
       refine hK.out _ _ (.inr hS9) ?_
       clear hK K
       simp only [Act.put, xs0, xs1, xs2]
       refine wpE_step' 19 (of_decide_eq_true (by kernel_rfl)) (by kernel_rfl) (by kernel_rfl) (fun K hK => ?_)
       simp only [xg0, xg1, xg2]
       go_simp
       refine hK.out _ _ (.inl rfl) ?_
       clear hK K
       simp only [Act.put, xs0, xs1, xs2]
       refine wpE_done (by kernel_rfl) ?_ _
       have hM2 : 2 * M + 1 ≤ bnd (lf + vs.length - 1) ∧ M ≤ bnd (lf + vs.length - 1) := by
        have h := Hstp.out
        rw [HM.out] at h
        exact h
       have hu9 : MRow w.heap.size w9 (bnd (lf + vs.length - 1)) (.slice A9 (t1.length + t2.length + 1) c9) :=
        ⟨A9, c9, t1 ++ t2 ++ [⟨x, 0, 0⟩], by rw [List.length_append, List.length_append]; rfl, by
         unfold OwnM
         rw [List.length_append, List.length_append, mkCs_append, mkCs_append]
         exact own_less hown9 (Nat.le_trans (hT3).gr.size (Nat.le_refl _)), by rw [List.length_append, List.length_append, List.length_singleton]; omega, by rw [List.length_append, List.length_append, List.length_singleton]; omega⟩
       replace hT9 := hT9.moreM hM2.2
       clear hS8 hS9 hqo hown9 hg9 hat9 hnew8 hsz8 hal8 own8 hT8 own7 hT7 G7 hT6 hown6 hb6 HS hr1 hr2 hold hltd hT3 hq7 hwx hwx0 htd hM2
       obtain ⟨q9, hq9⟩ := own_csR hT9.own
       have hqe := hq9.addr (by omega)
       injection hqe with hqe
       injection hqe with hqe _ _
       subst hqe
       have hq9lt := hq9.lt (by omega)
       have hcap := own_capM hT9.own
       obtain ⟨m9, hm9⟩ : ∃ m9, t1.length + t2.length + 1 = m9 := ⟨_, rfl⟩
       rw [hm9] at hu9 ⊢
       have Hm9 := hide hm9
       clear hm9
       have hone := rows_one (fun u hu => (hT9.each u hu).1)
       have hal10 : Below w9.heap.size w9 (w9.alloc (.cells #[] 99)) := by go_grown
       have own10 : (w9.alloc (.cells #[] 99)).ownsRow w9.heap.size 99 1 (.slice (some ⟨w9.heap.size, 0, none⟩) 0 0) 0 [] := own_empty (at_new rfl) (Nat.le_refl _)
       have hnews10 : NewsAt (w9.alloc (.cells #[] 99)) (some ⟨q, 0, none⟩) at_ (vs.take at_) := fun _ => ⟨_, rfl, fun j u hu => by
        rw [List.getElem?_take] at hu
        split at hu
        ·rw [add_zero_off]; exact (CsR.below hq9 hal10).cell j u hu
        ·cases hu⟩
       have htl : (vs.take at_).length = at_ * 1 := by rw [List.length_take]; omega
       have hatc : (at_ : Int) ≤ (c1 : Int) := by omega
       have hat00 : (0 : Int) ≤ (at_ : Int) := by omega
       go_upto_region 15 with (at_builtin; refine app_list _ rfl (.tmp 84) (.tmp 87) _ rfl w9.heap.size 99 j0 _ 1 24 Tryz.underlying137 hj0 hy0 hy1 hy2 rfl (by omega) (.slice (some ⟨w9.heap.size, 0, none⟩) 0 0) 0 [] rfl own10 (some ⟨q, 0, none⟩) at_ c1 (vs.take at_) rfl htl hnews10 (fun u hu => hone u (List.mem_of_mem_take hu)) (by omega) (by omega) hal10.size ?_; intro A11 c11 w11 hown11 hg11 hat11; simp only [Nat.zero_add, List.nil_append] at hown11 hat11 ⊢)
       have hb11 : Below w9.heap.size w9 w11 := below_app hal10 own10 hg11 (Nat.le_refl _) hal10.size
       clear own10 hg11 hat11 hnews10 hal10
       have hal12 : Below w11.heap.size w11 (w11.alloc (.cells #[.slice A9 m9 c9] 99)) := by go_grown
       have own12 := own_below hown11 hal12
       have hnew12 : (w11.alloc (.cells #[.slice A9 m9 c9] 99)).heap[w11.heap.size]? = some (.cells #[.slice A9 m9 c9] 99 (0, 0)) := at_new rfl
       have hb12 := bthen hb11 hal12
       go_upto_region 16 with (at_builtin; refine app_list _ rfl (.tmp 89) (.tmp 91) _ rfl w9.heap.size 99 j0 _ 1 24 Tryz.underlying137 hj0 hy0 hy1 hy2 rfl (by omega) (.slice A11 at_ c11) at_ (vs.take at_) rfl own12 (some ⟨w11.heap.size, 0, none⟩) 1 _ [.slice A9 m9 c9] rfl rfl (NewsAt.block (cs := #[.slice A9 m9 c9]) hnew12) (by simp [Value.oneCell']) (by omega) (by omega) hb12.size ?_; intro A13 c13 w13 hown13 hg13 hat13)
       have hb13 : Below w9.heap.size w9 w13 := below_app hb12 own12 hg13 (Nat.le_refl _) hb12.size
       clear hg13 hat13 own12 hnew12 hal12 hown11
       have hwa2 : IntKind.i64.wrap ((at_ : Int) + 2) = (at_ : Int) + 2 := IntWalk.i64_in _ (by omega)
       have hlo2 : (0 : Int) ≤ (at_ : Int) + 2 := by omega
       have hhi2 : (at_ : Int) + 2 ≤ (vs.length : Int) := by omega
       have htn : ((at_ : Int) + 2).toNat = at_ + 2 := by omega
       obtain ⟨A', hA'⟩ : ∃ A' : Option Addr, (if c1 = at_ + 2 then some (⟨q, 0, none⟩ : Addr) else some ⟨q, at_ + 2, none⟩) = A' := ⟨_, rfl⟩
       have hnews16 : NewsAt w13 A' (vs.length - (at_ + 2)) (vs.drop (at_ + 2)) := fun hm => ⟨⟨q, at_ + 2, none⟩, by rw [← hA', if_neg (by omega)], fun j u hu => by
        rw [List.getElem?_drop] at hu
        rw [add_zero_off]
        have := (CsR.below hq9 hb13).cell _ u hu
        rwa [Nat.zero_add] at this⟩
       have hdl : (vs.drop (at_ + 2)).length = (vs.length - (at_ + 2)) * 1 := by rw [List.length_drop]; omega
       go_wp2_with (at_builtin; refine app_list _ rfl (.tmp 93) (.tmp 97) _ rfl w9.heap.size 99 j0 _ 1 24 Tryz.underlying137 hj0 hy0 hy1 hy2 rfl (by omega) (.slice A13 (at_ + 1) c13) (at_ + 1) (vs.take at_ ++ [.slice A9 m9 c9]) rfl hown13 A' (vs.length - (at_ + 2)) (c1 - (at_ + 2)) (vs.drop (at_ + 2)) rfl hdl hnews16 (fun u hu => hone u (List.mem_of_mem_drop hu)) (by omega) (by omega) hb13.size ?_; intro A16 c16 w16 hown16 hg16 hat16)
       have hb16 : Below w9.heap.size w9 w16 := below_app hb13 hown13 hg16 (Nat.le_refl _) hb13.size
       obtain ⟨vs2, hvs2⟩ : ∃ v, vs.take at_ ++ [Value.slice A9 m9 c9] ++ vs.drop (at_ + 2) = v := ⟨_, rfl⟩
       have hl2 : vs2.length = at_ + 1 + (vs.length - (at_ + 2)) := by rw [← hvs2, List.length_append, List.length_append, List.length_take, List.length_drop, List.length_singleton]; omega
       have hT16 : TR w w16 g (K + 50 - 4 * ((lf + vs.length : Nat) : Int) + 2 + 1) (.slice A16 vs2.length c16) vs2 (bnd (lf + vs.length - 1)) := by
        refine hT9.fresh hb16 (by rw [hl2, ← hvs2]; exact hown16) (fun u hu => ?_)
        rw [← hvs2] at hu
        rcases List.mem_append.1 hu with hu | hu
        ·rcases List.mem_append.1 hu with hu | hu
         ·exact .inl (List.mem_of_mem_take hu)
         ·rw [List.mem_singleton.1 hu]; exact .inr hu9
        ·exact .inl (List.mem_of_mem_drop hu)
       have hl3 : vs2.length = vs.length - 1 := by omega
       have Hl2 := hide (And.intro hl2 hl3)
       have HT16 := hide hT16
       clear hl2 hl3 hvs2 hT16 hown16 hg16 hat16 hown13 hb13 hnews16 hA' hT9 hq9 hu9 hone hb16 hwa2 htn
       go_roundg (lf + vs.length - 1)
       case measure => go_light; omega
       case rel =>
        go_light
        refine ⟨lf, A16, c16, vs2, by rw [Hl2.out.2]; omega, rfl, by rw [Hl2.out.1], by rw [Hl2.out.2]; omega, by rw [Hl2.out.2]; omega, ?_⟩
        have h9 := HT16.out.more (K' := K + 50 - 4 * ((lf + vs2.length : Nat) : Int)) (by rw [Hl2.out.2]; omega)
        rw [show lf + vs.length - 1 = lf + vs2.length by rw [Hl2.out.2]; omega] at h9
        exact h9
  case rest =>
   clear hT
   clear A1 c1 vs hv1 hv4
   obtain ⟨A1, c1, vs, rfl, hv1, hT⟩ := hcut
   obtain ⟨q, hq⟩ := own_csR hT.own
   obtain rfl := hq.addr (by omega)
   obtain ⟨u, rfl⟩ : ∃ u, vs = [u] := by
    match vs, hv1 with
    | [u], _ => exact ⟨u, rfl⟩
   have q0 := hq.cell 0 u rfl
   rw [Nat.zero_add] at q0
   have hmem : ∀ v ∈ [u], v = u := fun v hv => List.mem_singleton.1 hv
   obtain ⟨⟨B1, d1, t1, rfl, ho1, hl1, hl2⟩, -⟩ := hT.each u (by simp)
   obtain ⟨m1, hm1⟩ : ∃ m, t1.length = m := ⟨_, rfl⟩
   rw [hm1] at hT q0 hl1 hl2 ⊢
   simp only [List.length_singleton] at hT ⊢
   clear ho1 hm1 t1 hq hmem hv1
   have q0' : wc.cell? ⟨q, 0, none⟩ = some (.slice B1 m1 d1) := q0
   clear q0
   go_upto_if 104 with (go_at_call 53; go_fit (odd_c g _ n _ (by omega) (by omega) hT.rd); rintro e w5 ⟨bo, rfl, hR5, G5, -⟩)
   have hT5 := hT.pick hR5 G5
   clear hT hR5 G5 q0'
   cases bo
   ·obtain ⟨⟨A, cc, t, e, ho, hla, hlb⟩, -⟩ := hT5.each _ (List.mem_singleton.2 rfl)
    injection e with e1 e2 e3
    subst e1; subst e2; subst e3
    have Hf := hide (And.intro ho (And.intro (hT5.rd.more (K' := K + 100) (by omega)) hT5.gr))
    clear ho hT5
    go_wp2_with fail
    go_ret
    exact ⟨_, _, t, rfl, by omega, Hf.out.1, Hf.out.2.1, Hf.out.2.2⟩
   ·go_upto_block 4 with (go_at_call 88; go_fit (pick_tr 4 _ hT5 (by omega) (by omega)); rintro e w6 ⟨y, rfl, x0, x1, x2, hT6, G, hsz⟩)
    have hy4 := x1 (by omega)
    have hy0 := x0
    clear hT5 G hsz x1 x2 x0
    by_cases y0 : y = 0
    ·subst y0
     have hal : Below w6.heap.size w6 (w6.alloc (.cells #[] 139)) := by go_grown
     have hT7 := hT6.below hal
     have ho : OwnM w.heap.size (w6.alloc (.cells #[] 139)) (.slice (some ⟨w6.heap.size, 0, none⟩) 0 0) [] := own_empty (at_new rfl) hT6.gr.size
     have Hf := hide (And.intro ho (And.intro (hT7.rd.more (K' := K + 100) (by omega)) hT7.gr))
     clear ho hT7 hT6
     go_wp2_with fail
     go_ret
     exact ⟨_, _, [], rfl, by simp, Hf.out.1, Hf.out.2.1, Hf.out.2.2⟩
    ·have y0' : (y == 0) = false := by simpa using y0
     by_cases y1 : y = 1
     ·subst y1
      clear y0 y0'
      obtain ⟨⟨A, cc, t, e, ho, hla, hlb⟩, -⟩ := hT6.each _ (List.mem_singleton.2 rfl)
      injection e with e1 e2 e3
      subst e1; subst e2; subst e3
      have hal : Below w6.heap.size w6 (w6.alloc (.cells #[.int .i64 1, .int .i64 0, .int .i64 0] 139)) := by go_grown
      have hnew : (w6.alloc (.cells #[.int .i64 1, .int .i64 0, .int .i64 0] 139)).heap[w6.heap.size]? = some (.cells #[.int .i64 1, .int .i64 0, .int .i64 0] 139 (0, 0)) := at_new rfl
      have hT7 := hT6.below hal
      have ho7 : (w6.alloc (.cells #[.int .i64 1, .int .i64 0, .int .i64 0] 139)).ownsRow w.heap.size 139 3 (.slice B1 t.length d1) t.length (mkCs t) := own_below ho hal
      go_wp2_with (at_builtin; refine app_list _ rfl (.tmp 118) (.tmp 120) _ rfl w.heap.size 139 i0 _ 3 24 Tryz.underlying99 hi0 hz0 hz1 hz2 rfl (by omega) (.slice B1 t.length d1) t.length (mkCs t) rfl ho7 (some ⟨w6.heap.size, 0, none⟩) 1 _ (mkCs [⟨1, 0, 0⟩]) rfl rfl (mk_news1 hnew) (mkCs_one _) (by omega) (by omega) hT7.gr.size ?_; intro A9 c9 w9 hown9 hg9 hat9)
      have hge : ∀ k, (Value.slice B1 t.length d1).ownBlock = some k → w.heap.size ≤ k := fun k hk => (ho7.lt k hk).1
      have Hf := hide (And.intro (hT7.rd.other hg9 (fun k hk => by have := hge k hk; omega)) (gr_then hT7.gr hg9 (fun k hk => .inl (hge k hk))))
      clear hT7 hT6 ho ho7 hg9 hat9 hge hnew
      go_ret
      refine ⟨A9, c9, t ++ [⟨1, 0, 0⟩], by rw [List.length_append]; rfl, by rw [List.length_append, List.length_singleton]; omega, ?_, Hf.out.1.more (by omega), Hf.out.2⟩
      unfold OwnM
      rw [List.length_append, mkCs_append]
      exact hown9
     ·have y1' : (y == 1) = false := by simpa using y1
      by_cases y2 : y = 2
      ·subst y2
       clear y0 y0' y1 y1'
       obtain ⟨g1, rfl⟩ : ∃ g1, B1 = some ⟨g1, 0, none⟩ := by
        obtain ⟨⟨A, cc, t, e, ho, hla, hlb⟩, -⟩ := hT6.each _ (List.mem_singleton.2 rfl)
        injection e with e1 e2 e3
        obtain ⟨A3, g3, c3, hv, h1, h2, _⟩ := own_form ho
        injection hv with e4 _ _
        exact ⟨g3, by rw [e1, e4]; exact h1 (by omega)⟩
       have hm1z : (1 : Int) ≤ (m1 : Int) := by omega
       go_upto_region 27 with (first
        | (go_at_call 88; go_fit (pick_tr (m1 : Int) _ hT6 (by omega) (by omega)); rintro e w7 ⟨xi, rfl, x0, x1, x2, hT7, G, hsz⟩
           have hxi := x1 (by omega)
           have hxi0 := x0
           obtain ⟨i, rfl⟩ : ∃ i : Nat, xi = (i : Int) := ⟨xi.toNat, by omega⟩
           clear x0 x1 x2 hsz hT6)
        | (go_at_call 88; go_fit (pick_tr 5 _ hT7 (by omega) (by omega)); rintro e w8 ⟨v1, rfl, x0, x1, x2, hT8, G8, hsz⟩
           clear x0 x1 x2 hsz hT7)
        | (go_at_call 88; go_fit (pick_tr 3 _ hT8 (by omega) (by omega)); rintro e w9 ⟨v2, rfl, x0, x1, x2, hT9, G9, hsz⟩
           clear x0 x1 x2 hsz hT8)
        | (go_at_call 88; go_fit (pick_tr 25 _ hT9 (by omega) (by omega)); rintro e w10 ⟨v3, rfl, x0, x1, x2, hT10, G10, hsz⟩
           obtain ⟨⟨A, cc, t, e, ho, hla, hlb⟩, -⟩ := hT10.each _ (List.mem_singleton.2 rfl)
           injection e with e1 e2 e3
           have z1 := e1.symm
           have z2 := e2.symm
           have z3 := e3.symm
           subst z1
           subst z3
           have hit : i < t.length := by omega
           obtain ⟨hO, ⟨a3, b3, d3, y30, y31, y32⟩, f30, f31, f32⟩ := own_setK (k := i) ⟨v1, v2, v3⟩ ho hit
           have HO := hide hO
           have Hz2 := hide z2
           clear x0 x1 x2 hsz hT9 hO e1 e2 e3 z2))
       have hg1 := (ho.lt g1 (by simp [Value.ownBlock])).1
       have Hf := hide (And.intro (((hT10.rd.set ⟨g1, i * 3, none⟩ (by dsimp only; omega) (.int .i64 v1)).set ⟨g1, i * 3 + 1, none⟩ (by dsimp only; omega) (.int .i64 v2)).set ⟨g1, i * 3 + 2, none⟩ (by dsimp only; omega) (.int .i64 v3)) (gr_set (gr_set (gr_set hT10.gr ⟨g1, i * 3, none⟩ (.inl hg1) (.int .i64 v1)) ⟨g1, i * 3 + 1, none⟩ (.inl hg1) (.int .i64 v2)) ⟨g1, i * 3 + 2, none⟩ (.inl hg1) (.int .i64 v3)))
       clear hT10 ho y30 y31 y32 f30 f31 f32 G8 G9 G10
       go_wp2_with fail
       go_ret
       refine ⟨_, _, t.set i ⟨v1, v2, v3⟩, by rw [List.length_set, Hz2.out]; rfl, by rw [List.length_set, Hz2.out]; omega, HO.out, Hf.out.1.more (by omega), Hf.out.2⟩
      ·have y2' : (y == 2) = false := by simpa using y2
       clear y0 y1 y2
       obtain ⟨⟨A, cc, t, e, ho, hla, hlb⟩, -⟩ := hT6.each _ (List.mem_singleton.2 rfl)
       injection e with e1 e2 e3
       subst e1; subst e2; subst e3
       obtain ⟨gt, hrt⟩ := OwnM.reads ho
       have hal : Below w6.heap.size w6 (w6.alloc (.cells #[] 139)) := by go_grown
       have own7 : (w6.alloc (.cells #[] 139)).ownsRow w6.heap.size 139 3 (.slice (some ⟨w6.heap.size, 0, none⟩) 0 0) 0 [] := own_empty (at_new rfl) (Nat.le_refl _)
       have hrt7 := CsR.below hrt hal
       go_wp2_with (first
        | (at_builtin; refine app_list _ rfl (.tmp 107) (.tmp 108) _ rfl w6.heap.size 139 i0 _ 3 24 Tryz.underlying99 hi0 hz0 hz1 hz2 rfl (by omega) (.slice (some ⟨w6.heap.size, 0, none⟩) 0 0) 0 [] rfl own7 B1 t.length d1 (mkCs t) rfl (mkCs_length t) (csr_news1 hrt7) (mkCs_one t) (by omega) (by omega) hal.size ?_
           intro A8 c8 w8 hown8 hg8 hat8
           simp only [Nat.zero_add, List.nil_append] at hown8 hat8 ⊢
           have hb8 : Below w6.heap.size w6 w8 := below_app hal own7 hg8 (Nat.le_refl _) hal.size
           have hal9 : Below w8.heap.size w8 (w8.alloc (.cells #[.int .i64 0, .int .i64 1, .int .i64 1] 139)) := by go_grown
           have hnew9 : (w8.alloc (.cells #[.int .i64 0, .int .i64 1, .int .i64 1] 139)).heap[w8.heap.size]? = some (.cells #[.int .i64 0, .int .i64 1, .int .i64 1] 139 (0, 0)) := at_new rfl
           have own9 := own_below hown8 hal9
           have hb9 := bthen hb8 hal9)
        | (at_builtin; refine app_list _ rfl (.tmp 109) (.tmp 111) _ rfl w6.heap.size 139 i0 _ 3 24 Tryz.underlying99 hi0 hz0 hz1 hz2 rfl (by omega) (.slice A8 t.length c8) t.length (mkCs t) rfl own9 (some ⟨w8.heap.size, 0, none⟩) 1 _ (mkCs [⟨0, 1, 1⟩]) rfl rfl (mk_news1 hnew9) (mkCs_one _) (by omega) (by omega) hb9.size ?_; intro A10 c10 w10 hown10 hg10 hat10))
       have hb10 : Below w6.heap.size w6 w10 := below_app hb9 own9 hg10 (Nat.le_refl _) hb9.size
       have hT10 := hT6.below hb10
       have Hf := hide (And.intro (hT10.rd.more (K' := K + 100) (by omega)) hT10.gr)
       have Ho := hide (own_less hown10 hT6.gr.size)
       clear hT10 hT6 hown10 hg10 hat10 hb10 own9 hb9 hnew9 hal9 hb8 hown8 hg8 hat8 own7 hrt7 hrt ho
       go_ret
       refine ⟨A10, c10, t ++ [⟨0, 1, 1⟩], by rw [List.length_append]; rfl, by rw [List.length_append, List.length_singleton]; omega, ?_, Hf.out.1, Hf.out.2⟩
       unfold OwnM
       rw [List.length_append, mkCs_append]
       exact Ho.out
end Go.Proofs.YtmnajkhoacogjaaGreatDoor
