/-
  The draws of the reference: a deal, and how long its promises last.
-/
import Derived.Test.YtdijfkpccbkdfaaD17
import Derived.Test.YtdijfkpccbkdfaaW0
namespace Go.Proofs.Ytdijfkpccbkdfaa
set_option linter.unusedVariables false
set_option linter.unusedSimpArgs false
open Go.RowKit Pp

/-- A drawn deal in a box D, beside the result's box and a row of numbers of the call's own. -/
structure LS (w0 wx : World) (g D T b b2 : Nat) (K n : Int) (A : Option Addr) (c : Nat) (bs : List Bd) (A2 : Option Addr) (c2 : Nat) (ps : List Pr) (v : Value) (xs : List Int) : Prop where
  rd : RdO wx g K
  gr : w0.grownBy wx (some g)
  lt : g < w0.heap.size
  z0 : wx.cell? ⟨w0.heap.size, 0, none⟩ = some (.int .i64 0)
  z1 : wx.cell? ⟨w0.heap.size, 1, none⟩ = some (.slice none 0 0)
  z2 : wx.cell? ⟨w0.heap.size, 2, none⟩ = some (.slice none 0 0)
  zf : ∀ i, wx.frozen? ⟨w0.heap.size, i, none⟩ = false
  lo : w0.heap.size < D
  DT : D < T
  ex : T ≤ wx.heap.size
  r : RD wx D b 0 n A c bs b2 0 A2 c2 ps
  hb : 0 < bs.length → w0.heap.size < b ∧ b < T
  hb2 : 0 < ps.length → w0.heap.size < b2 ∧ b2 < T
  own : OwnI T wx v xs
section
variable {w0 wx w' : World} {g D T b b2 : Nat} {K K' n : Int} {A A2 : Option Addr} {c c2 : Nat} {bs : List Bd} {ps : List Pr} {v v' : Value} {xs xs' : List Int}
theorem LS.more (h : LS w0 wx g D T b b2 K n A c bs A2 c2 ps v xs) (hK : K ≤ K') : LS w0 wx g D T b b2 K' n A c bs A2 c2 ps v xs := { h with rd := h.rd.more hK }
theorem LS.pick (h : LS w0 wx g D T b b2 K n A c bs A2 c2 ps v xs) (hR : RdO w' g K') (hg : wx.grownBy w' (some g)) : LS w0 w' g D T b b2 K' n A c bs A2 c2 ps v xs := by
  have h1 := h.lt; have h2 := h.lo; have h3 := h.DT; have h4 := h.ex
  exact ⟨hR, gr_pick h.gr hg, h1, far_cell hg h.z0 (by omega), far_cell hg h.z1 (by omega), far_cell hg h.z2 (by omega), fun i => far_frozen hg (h.zf i) (by omega) (by omega), h2, h3, Nat.le_trans h4 hg.size,
    h.r.grown hg (fun e => by injection e; omega) (fun h0 e => by injection e; have := h.hb h0; omega) (fun h0 e => by injection e; have := h.hb2 h0; omega), h.hb, h.hb2, own_far h.own hg (by omega)⟩
theorem LS.below (h : LS w0 wx g D T b b2 K n A c bs A2 c2 ps v xs) (hb : Below wx.heap.size wx w') : LS w0 w' g D T b b2 K n A c bs A2 c2 ps v xs := by
  have h1 := h.lt; have h2 := h.lo; have h3 := h.DT; have h4 := h.ex
  have hc := (bcell hb).1
  have hf := (bcell hb).2
  exact ⟨h.rd.below hb, gr_below h.gr hb, h1, (hc _ _ (by omega)).trans h.z0, (hc _ _ (by omega)).trans h.z1, (hc _ _ (by omega)).trans h.z2, fun i => (hf _ _ (by omega)).trans (h.zf i), h2, h3, Nat.le_trans h4 hb.size, h.r.below hb, h.hb, h.hb2, own_below h.own hb⟩
theorem LS.alloc (h : LS w0 wx g D T b b2 K n A c bs A2 c2 ps v xs) (o : Obj) : LS w0 (wx.alloc o) g D T b b2 K n A c bs A2 c2 ps v xs := h.below (by go_grown)
theorem LS.drew (h : LS w0 wx g D T b b2 K n A c bs A2 c2 ps v xs) : LS w0 wx.drew g D T b b2 K n A c bs A2 c2 ps v xs := h.below (by go_grown)
theorem LS.app (h : LS w0 wx g D T b b2 K n A c bs A2 c2 ps v xs) (hg : wx.grownBy w' v.ownBlock) (hown : OwnI T w' v' xs') : LS w0 w' g D T b b2 K n A c bs A2 c2 ps v' xs' := by
  have h1 := h.lt; have h2 := h.lo; have h3 := h.DT; have h4 := h.ex
  have hq := own_hi h.own
  have k1 : ∀ q, q < T → some q ≠ v.ownBlock := fun q hlt e => by have := (hq _ e.symm).1; omega
  have k0 := k1 w0.heap.size (by omega)
  exact ⟨h.rd.other hg (fun k e => by have := (hq k e).1; omega), gr_then h.gr hg (fun k e => .inl (by have := (hq k e).1; omega)), h1, hg.cell h.z0 k0, hg.cell h.z1 k0, hg.cell h.z2 k0,
    fun i => (hg.frozen_far ⟨w0.heap.size, i, none⟩ (by show w0.heap.size < _; omega) k0).trans (h.zf i), h2, h3, Nat.le_trans h4 hg.size, h.r.grown hg (k1 _ h3) (fun h0 => k1 _ (h.hb h0).2) (fun h0 => k1 _ (h.hb2 h0).2), h.hb, h.hb2, hown⟩
/-- The result is put. -/
theorem LS.fin (h : LS w0 wx g D T b b2 K n A c bs A2 c2 ps v xs) (W : World) (hW : W = ((wx.setCell ⟨w0.heap.size, 0, none⟩ (.int .i64 n)).setCell ⟨w0.heap.size, 1, none⟩ (.slice A bs.length c)).setCell ⟨w0.heap.size, 2, none⟩ (.slice A2 ps.length c2)) :
    W.cell? ⟨w0.heap.size, 0, none⟩ = some (.int .i64 n) ∧ W.cell? ⟨w0.heap.size, 1, none⟩ = some (.slice A bs.length c) ∧ W.cell? ⟨w0.heap.size, 2, none⟩ = some (.slice A2 ps.length c2) ∧
    (BdsR W W.heap.size b 0 A bs ∧ (0 < bs.length → w0.heap.size < b)) ∧ (CsR W W.heap.size b2 0 A2 ps.length (prCs ps) ∧ (0 < ps.length → w0.heap.size < b2)) ∧ OwnI T W v xs ∧ RdO W g K ∧ w0.grownBy W (some g) := by
  have hl := h.lt; have h2 := h.lo; have h3 := h.DT
  obtain ⟨r0, r1, r2⟩ := three_cells (a := .int .i64 n) (b := .slice A bs.length c) (d := .slice A2 ps.length c2) h.z0 h.z1 h.z2
  have hs : W.heap.size = wx.heap.size := by rw [hW]; simp
  have nv : v.ownBlock ≠ some w0.heap.size := fun e => by have := (own_hi h.own _ e).1; omega
  subst hW
  refine ⟨r0, r1, r2, ⟨?_, fun h0 => (h.hb h0).1⟩, ⟨?_, fun h0 => (h.hb2 h0).1⟩, own_set (own_set (own_set h.own nv _) nv _) nv _, ((h.rd.set _ (by dsimp only; omega) _).set _ (by dsimp only; omega) _).set _ (by dsimp only; omega) _, gr_set (gr_set (gr_set h.gr _ (.inl (Nat.le_refl _)) _) _ (.inl (Nat.le_refl _)) _) _ (.inl (Nat.le_refl _)) _⟩
  · rw [hs]; exact bds_off (bds_off (bds_off h.r.rd _ _ (fun h0 => by have := h.hb h0; dsimp only; omega)) _ _ (fun h0 => by have := h.hb h0; dsimp only; omega)) _ _ (fun h0 => by have := h.hb h0; dsimp only; omega)
  · rw [hs]; exact cs_off (cs_off (cs_off h.r.rp _ _ (fun h0 => by have := h.hb2 h0; dsimp only; omega)) _ _ (fun h0 => by have := h.hb2 h0; dsimp only; omega)) _ _ (fun h0 => by have := h.hb2 h0; dsimp only; omega)
end
theorem pick_ls {w0 : World} {g D T b b2 : Nat} {K n : Int} {A A2 : Option Addr} {c c2 : Nat} {bs : List Bd} {ps : List Pr} {v : Value} {xs : List Int} (m : Int) (w : World) (h : LS w0 w g D T b b2 K n A c bs A2 c2 ps v xs) (hK : 0 ≤ K ∧ K ≤ 1000000000) (hm : -1000000000 ≤ m ∧ m ≤ 1000000000) :
    Calls Try.prog 93 #[.pointer (some ⟨g, 0, none⟩), .int .i64 m] w fun e w' =>
      ∃ u : Int, e = .returned (.int .i64 u) ∧ 0 ≤ u ∧ (1 ≤ m → u < m) ∧ (m < 1 → u = 0) ∧ LS w0 w' g D T b b2 (K + 1) n A c bs A2 c2 ps v xs ∧ w.grownBy w' (some g) ∧ w'.heap.size = w.heap.size := by
  refine (pick_c g K m w hK hm h.rd).mono ?_
  rintro e w' ⟨v, rfl, h1, h2, h3, h4, h5, h6⟩
  exact ⟨v, rfl, h1, h2, h3, h.pick h4 h5, h5, h6⟩
/-- Behind the draw of the deal. -/
theorem ls_new {w w1 : World} {g b b2 : Nat} {K n : Int} {A A2 : Option Addr} {c c2 : Nat} {bs : List Bd} {ps : List Pr} {t t' ti : TypeId} (hti : ti = 3) (hg : g < w.heap.size) (hR : RdO w1 g K) (G : (w.alloc (.cells #[.int .i64 0, .slice none 0 0, .slice none 0 0] t')).grownBy w1 (some g))
    (hb : BdsR w1 w1.heap.size b 0 A bs) (hlb : 0 < bs.length → (w.alloc (.cells #[.int .i64 0, .slice none 0 0, .slice none 0 0] t')).heap.size < b) (hb2 : CsR w1 w1.heap.size b2 0 A2 ps.length (prCs ps)) (hlb2 : 0 < ps.length → (w.alloc (.cells #[.int .i64 0, .slice none 0 0, .slice none 0 0] t')).heap.size < b2) :
    LS w ((w1.alloc (.cells #[.int .i64 n, .slice A bs.length c, .slice A2 ps.length c2] t)).alloc (.cells #[] ti)) g w1.heap.size (w1.heap.size + 1) b b2 K n A c bs A2 c2 ps (.slice (some ⟨w1.heap.size + 1, 0, none⟩) 0 0) [] := by
  subst hti
  have hs : w.heap.size < w1.heap.size := by have := G.size; simp only [World.size_alloc] at this; omega
  simp only [World.size_alloc] at hlb hlb2
  have hbw : Below w1.heap.size w1 ((w1.alloc (.cells #[.int .i64 n, .slice A bs.length c, .slice A2 ps.length c2] t)).alloc (.cells #[] 3)) := by go_grown
  have hc := (bcell hbw).1
  have hf := (bcell hbw).2
  refine ⟨hR.below hbw, gr_below (gr_pick (gr_new w _ _) G) hbw, hg, (hc _ _ hs).trans (far_cell G (by simp [go_sem]) (by omega)), (hc _ _ hs).trans (far_cell G (by simp [go_sem]) (by omega)), (hc _ _ hs).trans (far_cell G (by simp [go_sem]) (by omega)), fun i => (hf _ _ hs).trans (far_frozen G (by simp [go_sem]) (by simp) (by omega)), hs, by omega, by simp, ?_, fun h0 => ⟨by have := hlb h0; omega, by have := hb.lt h0; omega⟩, fun h0 => ⟨by have := hlb2 h0; omega, by have := hb2.lt h0; omega⟩, ?_⟩
  · exact (rd_new hb hb2).alloc _
  · exact own_empty (at_new (by simp)) (by omega)

theorem own_ints_lo {W : World} {T c : Nat} {A : Option Addr} {xs : List Int} (h : OwnI T W (.slice A xs.length c) xs) : ∃ g, IntsR W W.heap.size g 0 A xs ∧ (0 < xs.length → T ≤ g) := by
  obtain ⟨g, hg⟩ := own_IntsR h
  refine ⟨g, hg, fun h0 => ?_⟩
  have e := hg.addr h0
  have e2 : (Value.slice A xs.length c).ownBlock = some g := by rw [e]; simp [Value.ownBlock]
  exact (own_hi h g e2).1

set_option maxHeartbeats 4000000 in
set_option maxRecDepth 100000 in
theorem lasts_c (g : Nat) (K : Int) (w : World) (hK : 0 ≤ K ∧ K ≤ 1000000) (hR : RdO w g K) :
    Calls Try.prog 53 #[.pointer (some ⟨g, 0, none⟩)] w fun e w' =>
      ∃ n A c bs A2 c2 ps A3 c3 xs, e = .returned (.tuple #[.agg #[.int .i64 n, .slice A bs.length c, .slice A2 ps.length c2], .slice A3 xs.length c3]) ∧ (0 ≤ n ∧ n ≤ 7) ∧ bs.length ≤ 6 ∧ ps.length ≤ 3 ∧ xs.length ≤ 3 ∧ Hid (∀ x ∈ ps, SmP x) ∧ (∃ b, BdsR w' w'.heap.size b 0 A bs ∧ (0 < bs.length → w.heap.size < b)) ∧ (∃ b, CsR w' w'.heap.size b 0 A2 ps.length (prCs ps) ∧ (0 < ps.length → w.heap.size < b)) ∧ (∃ b, IntsR w' w'.heap.size b 0 A3 xs ∧ (0 < xs.length → w.heap.size < b)) ∧ RdO w' g (K + 220) ∧ w.grownBy w' (some g) := by
  obtain ⟨hK0, hK1⟩ := hK
  have hg := hR.lt
  obtain ⟨i0, hi0, hz0, hz1, hz2⟩ := info_parts infoI
  go_enter Try.func53, Try.ntmps53
  go_upto_block 0 with (go_at_call 83; go_fit (deal_c g K 12 _ ⟨hK0, by omega⟩ ⟨by omega, by omega⟩ (hR.alloc _)); rintro e w1 ⟨n, A, c, bs, A2, c2, ps, rfl, hn, hlb, hlp, HP, _, ⟨b, hb, hb'⟩, ⟨b2, hb2, hb2'⟩, hR1, G1⟩)
  have hL := ls_new (n := n) (c := c) (c2 := c2) (t := 28) (ti := 3) rfl hg hR1 G1 hb hb' hb2 hb2'
  have hnx : (w1.alloc (.cells #[.int .i64 n, .slice A bs.length c, .slice A2 ps.length c2] 28)).heap.size = w1.heap.size + 1 := by simp
  try rw [hnx]
  generalize (w1.alloc (.cells #[.int .i64 n, .slice A bs.length c, .slice A2 ps.length c2] 28)).alloc (.cells #[] 3) = W at hL ⊢
  generalize w1.heap.size + 1 = T at hL ⊢
  generalize w1.heap.size = D at hL ⊢
  clear hR G1 hb hb' hb2 hb2' hR1 hnx
  go_cut [5] (fun s wx => ∃ A3 c3 xs, xs.length = ps.length ∧ s = .slice A3 xs.length c3 ∧ LS w wx g D T b b2 (K + 210) n A c bs A2 c2 ps s xs)
  case first =>
    go_wp2_with fail
    go_loopg [5, 6] ps.length (fun gh s i wr => ∃ (k : Nat) (A3 : Option Addr) (c3 : Nat) (xs : List Int), k ≤ ps.length ∧ gh = ps.length - k ∧ i = .int .i64 k ∧ xs.length = k ∧ s = .slice A3 xs.length c3 ∧ LS w wr g D T b b2 (K + 200 + 2 * k) n A c bs A2 c2 ps s xs)
    case atStart => exact ⟨0, _, _, [], Nat.zero_le _, rfl, rfl, rfl, rfl, hL.more (by omega)⟩
    case round =>
      clear hL
      obtain ⟨k, A3, c3, xs, hk, rfl, rfl, hxk, rfl, hL⟩ := hrel
      have p2 := hL.r.c2
      have hLs := hL.ex
      by_cases hlk : k < ps.length
      · have hlk' : (k : Int) < (ps.length : Int) := by omega
        have hk0 : (0 : Int) ≤ (k : Int) := by omega
        obtain rfl := hL.r.rp.addr (by omega)
        have hx := List.getElem?_eq_getElem hlk
        have hxs := HP.out _ (List.getElem_mem hlk)
        generalize ps[k] = x at hx hxs
        obtain ⟨e0, e1, e2, e3⟩ := pr_cells hL.r.rp hx
        rw [Nat.zero_add] at e0 e1 e2 e3
        have hxlen : xs.length ≤ 3 := by omega
        have Hxk := hide hxk
        clear hxk hx
        go_upto_region 7 with fail
        have hV := cb_new wr [.int .i64 x.f, .int .i64 x.t, .int .i64 x.l, .int .i64 x.h] 40
        have hnV : (Value.slice A3 xs.length c3).ownBlock ≠ some wr.heap.size := fun e => by have := (own_hi hL.own _ e).2; omega
        replace hL := hL.alloc (.cells #[.int .i64 x.f, .int .i64 x.t, .int .i64 x.l, .int .i64 x.h] 40)
        change CB (wr.alloc (.cells #[.int .i64 x.f, .int .i64 x.t, .int .i64 x.l, .int .i64 x.h] 40)) _ _ at hV
        have hVT : T ≤ wr.heap.size := hLs
        clear e0 e1 e2 e3 p2 hLs
        generalize wr.alloc (.cells #[.int .i64 x.f, .int .i64 x.t, .int .i64 x.l, .int .i64 x.h] 40) = Wv at hL hV ⊢
        generalize wr.heap.size = V at hV hVT hnV ⊢
        have hgV : V ≠ g := by have := hL.lt; have := hL.lo; have := hL.DT; omega
        obtain ⟨⟨l0, l1⟩, ⟨h0, h1⟩⟩ := hxs
        have v2 := hV.c 2 _ rfl
        have v3 := hV.c 3 _ rfl
        obtain ⟨mx, hmx⟩ : ∃ mx, max (x.h - x.l) 0 = mx := ⟨_, rfl⟩
        have hmx0 : 0 ≤ mx ∧ mx ≤ 12 := by omega
        have hmax : (if (0 : Int) < IntKind.i64.wrap (x.h - x.l) then IntKind.i64.wrap (x.h - x.l) else 0) = mx := by rw [IntWalk.i64_left, IntWalk.wrap64_in _ (by omega)]; split <;> omega
        have hmax2 : (if IntKind.i64.wrap (x.h - x.l) < (0 : Int) then 0 else IntKind.i64.wrap (x.h - x.l)) = mx := by rw [IntWalk.i64_left, IntWalk.wrap64_in _ (by omega)]; split <;> omega
        clear hmx
        refine wp_regionE (fun w' => w'.cell? ⟨V, 2, none⟩ = some (.int .i64 x.l) ∧ w'.cell? ⟨V, 3, none⟩ = some (.int .i64 x.h)) 20 (by kernel_rfl) ?_
        change wpE _ _ _ _ _ _ 21 #[false, false, false, false, false, false, false, false, false, false, false, false, false, false, false, false, false, false, false, false, false] _ _
        have hS0 : Wv.drew.cell? ⟨V, 2, none⟩ = some (.int .i64 x.l) ∧ Wv.drew.cell? ⟨V, 3, none⟩ = some (.int .i64 x.h) := ⟨v2, v3⟩
        refine wpE_take' (v := ?_) 0 [20] (of_decide_eq_true (by kernel_rfl)) (by kernel_rfl) (by kernel_rfl) (by kernel_rfl) (by kernel_rfl) (fun _ _ _ h => h) (by kernel_rfl) ?_ hS0 ?_
        rotate_left
        · intro w' hSw
          simp only [List.getElem_toArray, List.getElem_cons_succ, List.getElem_cons_zero]
          go_simp
          all_goals with_reducible rfl
        simp only [List.getElem_toArray, List.getElem_cons_succ, List.getElem_cons_zero, Act.put, List.setIfInBounds_toArray, List.set_cons_zero, List.set_cons_succ]
        refine wpE_take' (v := ?_) 1 [20] (of_decide_eq_true (by kernel_rfl)) (by kernel_rfl) (by kernel_rfl) (by kernel_rfl) (by kernel_rfl) (fun _ _ _ h => h) (by kernel_rfl) ?_ hS0 ?_
        rotate_left
        · intro w' hSw
          simp only [List.getElem_toArray, List.getElem_cons_succ, List.getElem_cons_zero]
          go_simp
          all_goals with_reducible rfl
        simp only [List.getElem_toArray, List.getElem_cons_succ, List.getElem_cons_zero, Act.put, List.setIfInBounds_toArray, List.set_cons_zero, List.set_cons_succ]
        refine wpE_take' (v := ?_) 2 [20] (of_decide_eq_true (by kernel_rfl)) (by kernel_rfl) (by kernel_rfl) (by kernel_rfl) (by kernel_rfl) (fun _ _ _ h => h) (by kernel_rfl) ?_ hS0 ?_
        rotate_left
        · intro w' hSw
          simp only [List.getElem_toArray, List.getElem_cons_succ, List.getElem_cons_zero]
          go_simp
          all_goals with_reducible rfl
        simp only [List.getElem_toArray, List.getElem_cons_succ, List.getElem_cons_zero, Act.put, List.setIfInBounds_toArray, List.set_cons_zero, List.set_cons_succ]
        refine wpE_take' (v := ?_) 3 [20] (of_decide_eq_true (by kernel_rfl)) (by kernel_rfl) (by kernel_rfl) (by kernel_rfl) (by kernel_rfl) (fun _ _ _ h => h) (by kernel_rfl) ?_ hS0 ?_
        rotate_left
        · intro w' hSw
          simp only [List.getElem_toArray, List.getElem_cons_succ, List.getElem_cons_zero]
          go_simp
          all_goals with_reducible rfl
        simp only [List.getElem_toArray, List.getElem_cons_succ, List.getElem_cons_zero, Act.put, List.setIfInBounds_toArray, List.set_cons_zero, List.set_cons_succ]
        refine wpE_take' (v := ?_) 4 [20] (of_decide_eq_true (by kernel_rfl)) (by kernel_rfl) (by kernel_rfl) (by kernel_rfl) (by kernel_rfl) (fun _ _ _ h => h) (by kernel_rfl) ?_ hS0 ?_
        rotate_left
        · intro w' hSw
          simp only [List.getElem_toArray, List.getElem_cons_succ, List.getElem_cons_zero]
          go_simp
          all_goals with_reducible rfl
        simp only [List.getElem_toArray, List.getElem_cons_succ, List.getElem_cons_zero, Act.put, List.setIfInBounds_toArray, List.set_cons_zero, List.set_cons_succ]
        refine wpE_take' (v := ?_) 5 [20] (of_decide_eq_true (by kernel_rfl)) (by kernel_rfl) (by kernel_rfl) (by kernel_rfl) (by kernel_rfl) (fun _ _ _ h => h) (by kernel_rfl) ?_ hS0 ?_
        rotate_left
        · intro w' hSw
          simp only [List.getElem_toArray, List.getElem_cons_succ, List.getElem_cons_zero]
          go_simp
          all_goals with_reducible rfl
        simp only [List.getElem_toArray, List.getElem_cons_succ, List.getElem_cons_zero, Act.put, List.setIfInBounds_toArray, List.set_cons_zero, List.set_cons_succ]
        refine wpE_take' (v := ?_) 6 [20] (of_decide_eq_true (by kernel_rfl)) (by kernel_rfl) (by kernel_rfl) (by kernel_rfl) (by kernel_rfl) (fun _ _ _ h => h) (by kernel_rfl) ?_ hS0 ?_
        rotate_left
        · intro w' hSw
          simp only [List.getElem_toArray, List.getElem_cons_succ, List.getElem_cons_zero]
          go_simp
          all_goals with_reducible rfl
        simp only [List.getElem_toArray, List.getElem_cons_succ, List.getElem_cons_zero, Act.put, List.setIfInBounds_toArray, List.set_cons_zero, List.set_cons_succ]
        refine wpE_take' (v := ?_) 7 [20] (of_decide_eq_true (by kernel_rfl)) (by kernel_rfl) (by kernel_rfl) (by kernel_rfl) (by kernel_rfl) (fun _ _ _ h => h) (by kernel_rfl) ?_ hS0 ?_
        rotate_left
        · intro w' hSw
          simp only [List.getElem_toArray, List.getElem_cons_succ, List.getElem_cons_zero]
          go_simp
          all_goals with_reducible rfl
        simp only [List.getElem_toArray, List.getElem_cons_succ, List.getElem_cons_zero, Act.put, List.setIfInBounds_toArray, List.set_cons_zero, List.set_cons_succ]
        refine wpE_take' (v := ?_) 8 [20] (of_decide_eq_true (by kernel_rfl)) (by kernel_rfl) (by kernel_rfl) (by kernel_rfl) (by kernel_rfl) (fun _ _ _ h => h) (by kernel_rfl) ?_ hS0 ?_
        rotate_left
        · intro w' hSw
          simp only [List.getElem_toArray, List.getElem_cons_succ, List.getElem_cons_zero]
          go_simp
          all_goals with_reducible rfl
        simp only [List.getElem_toArray, List.getElem_cons_succ, List.getElem_cons_zero, Act.put, List.setIfInBounds_toArray, List.set_cons_zero, List.set_cons_succ]
        refine wpE_take' (v := ?_) 9 [20] (of_decide_eq_true (by kernel_rfl)) (by kernel_rfl) (by kernel_rfl) (by kernel_rfl) (by kernel_rfl) (fun _ _ _ h => h) (by kernel_rfl) ?_ hS0 ?_
        rotate_left
        · intro w' hSw
          simp only [List.getElem_toArray, List.getElem_cons_succ, List.getElem_cons_zero]
          go_simp
          all_goals with_reducible rfl
        simp only [List.getElem_toArray, List.getElem_cons_succ, List.getElem_cons_zero, Act.put, List.setIfInBounds_toArray, List.set_cons_zero, List.set_cons_succ]
        refine wpE_take' (v := ?_) 10 [20] (of_decide_eq_true (by kernel_rfl)) (by kernel_rfl) (by kernel_rfl) (by kernel_rfl) (by kernel_rfl) (fun _ _ _ h => h) (by kernel_rfl) ?_ hS0 ?_
        rotate_left
        · intro w' hSw
          simp only [List.getElem_toArray, List.getElem_cons_succ, List.getElem_cons_zero]
          go_simp
          all_goals with_reducible rfl
        simp only [List.getElem_toArray, List.getElem_cons_succ, List.getElem_cons_zero, Act.put, List.setIfInBounds_toArray, List.set_cons_zero, List.set_cons_succ]
        refine wpE_take' (v := ?_) 13 [20] (of_decide_eq_true (by kernel_rfl)) (by kernel_rfl) (by kernel_rfl) (by kernel_rfl) (by kernel_rfl) (fun _ _ _ h => h) (by kernel_rfl) ?_ hS0 ?_
        rotate_left
        · intro w' hSw
          simp only [List.getElem_toArray, List.getElem_cons_succ, List.getElem_cons_zero]
          go_simp
          all_goals with_reducible rfl
        simp only [List.getElem_toArray, List.getElem_cons_succ, List.getElem_cons_zero, Act.put, List.setIfInBounds_toArray, List.set_cons_zero, List.set_cons_succ]
        have hmx1 : IntKind.i64.wrap (mx + 1) = mx + 1 := by rw [IntWalk.i64_left, IntWalk.wrap64_in _ (by omega)]
        refine wpE_step' 11 (of_decide_eq_true (by kernel_rfl)) (by kernel_rfl) (by kernel_rfl) (fun K hK => ?_)
        simp only [List.getElem_toArray, List.getElem_cons_succ, List.getElem_cons_zero]
        go_simp
        go_at_call 93
        refine (pick_ls (mx + 1) _ hL.drew (by omega) (by omega)).mono ?_
        rintro e w5 ⟨u1, rfl, a1, a2, -, hL5, G5, -⟩
        replace a2 := a2 (by omega)
        have hS1 : w5.cell? ⟨V, 2, none⟩ = some (.int .i64 x.l) ∧ w5.cell? ⟨V, 3, none⟩ = some (.int .i64 x.h) := ⟨far_cell G5 v2 hgV, far_cell G5 v3 hgV⟩
        refine hK.out _ _ (.inr hS1) ?_
        clear hK K hS0
        have hS0 := hS1
        clear hS1
        have hw1 : IntKind.i64.wrap (x.l + u1) = x.l + u1 := by rw [IntWalk.i64_left, IntWalk.wrap64_in _ (by omega)]
        simp only [Act.put, List.setIfInBounds_toArray, List.set_cons_zero, List.set_cons_succ]
        refine wpE_take' (v := ?_) 12 [20] (of_decide_eq_true (by kernel_rfl)) (by kernel_rfl) (by kernel_rfl) (by kernel_rfl) (by kernel_rfl) (fun _ _ _ h => h) (by kernel_rfl) ?_ hS0 ?_
        rotate_left
        · intro w' hSw
          simp only [List.getElem_toArray, List.getElem_cons_succ, List.getElem_cons_zero]
          go_simp
          all_goals with_reducible rfl
        simp only [List.getElem_toArray, List.getElem_cons_succ, List.getElem_cons_zero, Act.put, List.setIfInBounds_toArray, List.set_cons_zero, List.set_cons_succ]
        refine wpE_step' 14 (of_decide_eq_true (by kernel_rfl)) (by kernel_rfl) (by kernel_rfl) (fun K hK => ?_)
        simp only [List.getElem_toArray, List.getElem_cons_succ, List.getElem_cons_zero]
        go_simp
        go_at_call 93
        refine (pick_ls 40 _ hL5 (by omega) (by omega)).mono ?_
        rintro e w6 ⟨u2, rfl, b1, b2', -, hL6, G6, -⟩
        replace b2' := b2' (by omega)
        have hS1 : w6.cell? ⟨V, 2, none⟩ = some (.int .i64 x.l) ∧ w6.cell? ⟨V, 3, none⟩ = some (.int .i64 x.h) := ⟨far_cell G6 hS0.1 hgV, far_cell G6 hS0.2 hgV⟩
        refine hK.out _ _ (.inr hS1) ?_
        clear hK K hS0
        have hS0 := hS1
        clear hS1
        simp only [Act.put, List.setIfInBounds_toArray, List.set_cons_zero, List.set_cons_succ]
        refine wpE_take' (v := ?_) 15 [20] (of_decide_eq_true (by kernel_rfl)) (by kernel_rfl) (by kernel_rfl) (by kernel_rfl) (by kernel_rfl) (fun _ _ _ h => h) (by kernel_rfl) ?_ hS0 ?_
        rotate_left
        · intro w' hSw
          simp only [List.getElem_toArray, List.getElem_cons_succ, List.getElem_cons_zero]
          go_simp
          all_goals with_reducible rfl
        simp only [List.getElem_toArray, List.getElem_cons_succ, List.getElem_cons_zero, Act.put, List.setIfInBounds_toArray, List.set_cons_zero, List.set_cons_succ]
        refine wpE_take' (v := ?_) 16 [20] (of_decide_eq_true (by kernel_rfl)) (by kernel_rfl) (by kernel_rfl) (by kernel_rfl) (by kernel_rfl) (fun _ _ _ h => h) (by kernel_rfl) ?_ hS0 ?_
        rotate_left
        · intro w' hSw
          simp only [List.getElem_toArray, List.getElem_cons_succ, List.getElem_cons_zero]
          go_simp
          all_goals with_reducible rfl
        simp only [List.getElem_toArray, List.getElem_cons_succ, List.getElem_cons_zero, Act.put, List.setIfInBounds_toArray, List.set_cons_zero, List.set_cons_succ]
        obtain ⟨y, hy⟩ : ∃ y, IntKind.i64.wrap (x.l + u1 + IntKind.i64.wrap (IntKind.i64.wrap (u2.tdiv 39) * 7)) = y := ⟨_, rfl⟩
        refine wpE_take' (v := ?_) 17 [20] (of_decide_eq_true (by kernel_rfl)) (by kernel_rfl) (by kernel_rfl) (by kernel_rfl) (by kernel_rfl) (fun _ _ _ h => h) (by kernel_rfl) ?_ hS0 ?_
        rotate_left
        · intro w' hSw
          simp only [List.getElem_toArray, List.getElem_cons_succ, List.getElem_cons_zero]
          go_simp
          all_goals with_reducible rfl
        simp only [List.getElem_toArray, List.getElem_cons_succ, List.getElem_cons_zero, Act.put, List.setIfInBounds_toArray, List.set_cons_zero, List.set_cons_succ]
        refine wpE_step' 18 (of_decide_eq_true (by kernel_rfl)) (by kernel_rfl) (by kernel_rfl) (fun K hK => ?_)
        simp only [List.getElem_toArray, List.getElem_cons_succ, List.getElem_cons_zero]
        go_simp
        have hb7 : Below w6.heap.size w6 (w6.alloc (.cells #[.int .i64 y] 3)) := by go_grown
        have hV6 : V < w6.heap.size := cell_lt hS0.1
        have hS1 : (w6.alloc (.cells #[.int .i64 y] 3)).cell? ⟨V, 2, none⟩ = some (.int .i64 x.l) ∧ (w6.alloc (.cells #[.int .i64 y] 3)).cell? ⟨V, 3, none⟩ = some (.int .i64 x.h) := ⟨((bcell hb7).1 _ _ hV6).trans hS0.1, ((bcell hb7).1 _ _ hV6).trans hS0.2⟩
        refine hK.out _ _ (.inr hS1) ?_
        clear hK K hS0
        have hL7 := hL6.below hb7
        have hcb := cb_new w6 [.int .i64 y] 3
        change CB (w6.alloc (.cells #[.int .i64 y] 3)) _ _ at hcb
        have hV7 : V < (w6.alloc (.cells #[.int .i64 y] 3)).heap.size := by simp; omega
        clear hb7
        simp only [Act.put, List.setIfInBounds_toArray, List.set_cons_zero, List.set_cons_succ]
        generalize w6.alloc (.cells #[.int .i64 y] 3) = W7 at hS1 hL7 hcb hV7 ⊢
        generalize w6.heap.size = Y at hcb ⊢
        refine wpE_step' 19 (of_decide_eq_true (by kernel_rfl)) (by kernel_rfl) (by kernel_rfl) (fun K hK => ?_)
        simp only [List.getElem_toArray, List.getElem_cons_succ, List.getElem_cons_zero]
        refine app_wp _ (.tmp 23) (.tmp 41) _ rfl T 3 i0 _ 1 8 Try.underlying29 hi0 hz0 hz1 hz2 rfl (by omega) (.slice A3 xs.length c3) xs.length (xs.map (Value.int .i64)) rfl hL7.own (some ⟨Y, 0, none⟩) 1 _ [.int .i64 y] rfl rfl hcb.news (by simp [Value.oneCell']) (by omega) (by omega) hL7.ex ?_
        intro A5 c5 w8 hown8 hg8 hat8
        have hS2 : w8.cell? ⟨V, 2, none⟩ = some (.int .i64 x.l) ∧ w8.cell? ⟨V, 3, none⟩ = some (.int .i64 x.h) := ⟨hg8.cell hS1.1 (Ne.symm hnV), hg8.cell hS1.2 (Ne.symm hnV)⟩
        have hlx : (xs ++ [y]).length = xs.length + 1 := by simp
        have hown9 : OwnI T w8 (.slice A5 (xs.length + 1) c5) (xs ++ [y]) := by unfold OwnI; rw [hlx, List.map_append]; exact hown8
        have hL8 := hL7.app hg8 hown9
        have Hlx := hide hlx
        refine hK.out _ _ (.inr hS2) ?_
        clear hK K hS1 hlx hL hL5 hL6 hL7 G5 G6 hown8 hown9 hg8 hat8 hcb
        simp only [Act.put, List.setIfInBounds_toArray, List.set_cons_zero, List.set_cons_succ]
        refine wpE_step' 20 (of_decide_eq_true (by kernel_rfl)) (by kernel_rfl) (by kernel_rfl) (fun K hK => ?_)
        simp only [List.getElem_toArray, List.getElem_cons_succ, List.getElem_cons_zero]
        go_simp
        refine hK.out _ _ (.inl rfl) ?_
        clear hK K
        simp only [Act.put, List.setIfInBounds_toArray, List.set_cons_zero, List.set_cons_succ]
        refine wpE_done (by kernel_rfl) ?_ _
        clear hS2 hmax hmax2 hmx1 hw1 hy
        go_wp2_with fail
        go_roundg (ps.length - (k + 1))
        case measure => go_light; omega
        case rel => go_light; exact ⟨k + 1, A5, c5, xs ++ [y], by omega, rfl, by go_num, by rw [Hlx.out, Hxk.out], by rw [Hlx.out], hL8.more (by simp; omega)⟩
      · obtain rfl : k = ps.length := by omega
        have Hxk := hide hxk
        clear hxk
        go_wp2_with fail
        go_meet
        case rel => exact ⟨A3, c3, xs, Hxk.out, rfl, hL.more (by omega)⟩
  case rest =>
    clear hL
    obtain ⟨A3, c3, xs, hl3, rfl, hL⟩ := hcut
    have Hl3 := hide hl3
    have hl3' : xs.length ≤ 3 := by omega
    clear hl3
    have z0 := hL.z0
    have z1 := hL.z1
    have z2 := hL.z2
    have zf0 := hL.zf 0
    have zf1 := hL.zf 1
    have zf2 := hL.zf 2
    have d0 := hL.r.c0
    have d1 := hL.r.c1
    have d2 := hL.r.c2
    have hlo := hL.lo
    have hDT := hL.DT
    obtain ⟨r0, r1, r2, q1, q2, q3, q4, q5⟩ := hL.fin _ rfl
    obtain ⟨b3, q3', q3''⟩ := own_ints_lo q3
    clear hL q3
    go_wp2_with fail
    refine bodyPost_ret (v := .tuple #[.agg #[.int .i64 n, .slice A bs.length c, .slice A2 ps.length c2], .slice A3 xs.length c3]) (by simp [results, Try.results53, go_sem, r0, r1, r2]) rfl ?_
    exact ⟨n, A, c, bs, A2, c2, ps, A3, c3, xs, rfl, hn, hlb, hlp, hl3', HP, ⟨b, q1⟩, ⟨b2, q2⟩, ⟨b3, q3', fun h0 => by have := q3'' h0; omega⟩, q4.more (by omega), q5⟩
end Go.Proofs.Ytdijfkpccbkdfaa
