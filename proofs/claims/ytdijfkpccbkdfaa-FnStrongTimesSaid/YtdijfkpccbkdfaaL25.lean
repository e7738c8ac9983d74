/-
  impl.PlanFor.
-/
import Derived.Test.YtdijfkpccbkdfaaL24
import Derived.Test.YtdijfkpccbkdfaaS22
import Derived.Test.YtdijfkpccbkdfaaI3
import Derived.Test.YtdijfkpccbkdfaaZ1
namespace Go.Proofs.Ytdijfkpccbkdfaa
set_option linter.unusedVariables false
set_option linter.unusedSimpArgs false
open Go.RowKit Pp

/-- While a deal's plan is made: its box is younger than the first boxes. -/
structure SQ (w0 W : World) (base X Y b o : Nat) (n : Int) (A : Option Addr) (c : Nat) (bs : List Bd) (b2 o2 : Nat) (A2 : Option Addr) (c2 : Nat) (ps : List Pr) (A1 : Option Addr) (c1 : Nat) (L : List Bd) : Prop where
  d : PD w0 W w0.heap.size b o n A c bs b2 o2 A2 c2 ps
  y : ZB w0 W Y
  x : ZD w0 W X [.int .i64 n, .slice A1 L.length c1]
  own : OwnB base W (.slice A1 L.length c1) L
  hY : Y < base
  hd : w0.heap.size < base
  hX : base ≤ X
  hb : (0 < bs.length → b < base) ∧ (0 < ps.length → b2 < base)
  ne : (Value.slice A1 L.length c1).ownBlock ≠ some X
section
variable {w0 W W' : World} {base X Y b o b2 o2 g : Nat} {n : Int} {A A1 A' A2 : Option Addr} {c c1 c' c2 : Nat} {bs L L' : List Bd} {ps : List Pr}
theorem SQ.below (h : SQ w0 W base X Y b o n A c bs b2 o2 A2 c2 ps A1 c1 L) (hb : Below W.heap.size W W') : SQ w0 W' base X Y b o n A c bs b2 o2 A2 c2 ps A1 c1 L :=
  ⟨h.d.below hb, h.y.below hb, h.x.below hb, own_below h.own hb, h.hY, h.hd, h.hX, h.hb, h.ne⟩
theorem SQ.alloc (h : SQ w0 W base X Y b o n A c bs b2 o2 A2 c2 ps A1 c1 L) (x : Obj) : SQ w0 (W.alloc x) base X Y b o n A c bs b2 o2 A2 c2 ps A1 c1 L := h.below (by go_grown)
theorem SQ.drew (h : SQ w0 W base X Y b o n A c bs b2 o2 A2 c2 ps A1 c1 L) : SQ w0 W.drew base X Y b o n A c bs b2 o2 A2 c2 ps A1 c1 L := h.below (by go_grown)
theorem SQ.put (h : SQ w0 W base X Y b o n A c bs b2 o2 A2 c2 ps A1 c1 L) (len : Nat) (hlen : L'.length = len) (hown : OwnB base W (.slice A' len c') L') (hne : (Value.slice A' len c').ownBlock ≠ some X) :
    SQ w0 ((W.setCell ⟨X, 0, none⟩ (.int .i64 n)).setCell ⟨X, 1, none⟩ (.slice A' len c')) base X Y b o n A c bs b2 o2 A2 c2 ps A' c' L' := by
  subst hlen
  have k1 := h.hX
  have k2 := h.hd
  have k3 := h.hY
  have e1 : w0.heap.size ≠ X := by omega
  have e2 : 0 < bs.length → b ≠ X := fun hx => by have := h.hb.1 hx; omega
  have e3 : 0 < ps.length → b2 ≠ X := fun hx => by have := h.hb.2 hx; omega
  have e4 : Y ≠ X := by omega
  exact ⟨(h.d.set 0 _ h.x.lo e1 e2 e3).set 1 _ h.x.lo e1 e2 e3, (h.y.set 0 _ e4).set 1 _ e4, (h.x.put 0 _ (by simp)).put 1 _ (by simp),
    own_set (own_set hown (p := ⟨X, 0, none⟩) hne _) (p := ⟨X, 1, none⟩) hne _, h.hY, h.hd, h.hX, h.hb, hne⟩
end

set_option maxHeartbeats 1000000 in
set_option maxRecDepth 100000 in
theorem planFor_q (n : Int) (bs : List Bd) (ps : List Pr) (ls : List Int) (q : Pl) (r : Bool) (hq : planForR ⟨n, bs⟩ ps ls = (q, r)) (A A2 A3 : Option Addr) (b o c b2 o2 c2 b3 o3 c3 B : Nat) (w : World) (hn : bs.length ≤ 2000000) (hn2 : ps.length ≤ 2000000) (hn3 : ls.length ≤ 2000000) (hB : B ≤ w.heap.size) (hR : BdsR w B b o A bs) (hP : CsR w B b2 o2 A2 ps.length (prCs ps)) (hL : IntsR w B b3 o3 A3 ls) :
    Calls Try.prog 15 #[.agg #[.int .i64 n, .slice A bs.length c, .slice A2 ps.length c2], .slice A3 ls.length c3] w fun e w' => ∃ A1 c1 g1, e = .returned (.tuple #[.agg #[.int .i64 q.n, .slice A1 q.bs.length c1], .bool r]) ∧
      BdsR w' w'.heap.size g1 0 A1 q.bs ∧ OwnB w.heap.size w' (.slice A1 q.bs.length c1) q.bs ∧ Below w.heap.size w w' := by
  have hb0 : 0 < bs.length → b < w.heap.size := fun h => Nat.lt_of_lt_of_le (hR.lt h) hB
  have hb20 : 0 < ps.length → b2 < w.heap.size := fun h => Nat.lt_of_lt_of_le (hP.lt h) hB
  have hD := (pd_new (n := n) (c := c) (c2 := c2) (t := 28) hB hR hP).alloc (.cells #[.int .i64 0, .slice none 0 0] 25)
  have hY : ZB w ((w.alloc (.cells #[.int .i64 n, .slice A bs.length c, .slice A2 ps.length c2] 28)).alloc (.cells #[.int .i64 0, .slice none 0 0] 25)) (w.heap.size + 1) := by
    have h : ZB w ((w.alloc (.cells #[.int .i64 n, .slice A bs.length c, .slice A2 ps.length c2] 28)).alloc (.cells #[.int .i64 0, .slice none 0 0] 25)) (w.alloc (.cells #[.int .i64 n, .slice A bs.length c, .slice A2 ps.length c2] 28)).heap.size := zb_new (by simp)
    simpa using h
  clear hR hP
  cases hd : lastsOk ⟨n, bs⟩ ps ls
  · have hq2 : q = ⟨0, []⟩ ∧ r = false := by unfold planForR at hq; rw [hd] at hq; simpa [eq_comm] using hq
    obtain ⟨rfl, rfl⟩ := hq2
    have Hd := hide hd
    clear hd hq
    go_enter Try.func15, Try.ntmps15
    go_upto_region 1 with fail
    have hLW := hL.below (hD.bel.mono hB)
    have hBW := Nat.le_trans hB hD.bel.size
    generalize (w.alloc (.cells #[.int .i64 n, .slice A bs.length c, .slice A2 ps.length c2] 28)).alloc (.cells #[.int .i64 0, .slice none 0 0] 25) = W at hD hY hLW hBW ⊢
    generalize w.heap.size + 1 = Y at hY ⊢
    have p0 := hD.r.c0
    have p1 := hD.r.c1
    have p2 := hD.r.c2
    go_wp2_with (go_at_call 55; go_fit (lastsOk_c n bs ps ls A A2 A3 b o c b2 o2 c2 b3 o3 c3 _ _ hn hn2 hn3 (Nat.le_refl _) hD.r.rd hD.r.rp (hLW.more hBW)); rintro e w2 ⟨rfl, hb⟩; rw [Hd.out]; replace hD := hD.below hb; clear p0 p1 p2; have p0 := hD.r.c0; have p1 := hD.r.c1; have p2 := hD.r.c2; replace hY := hY.below hb; have y0 := hY.z0; have y1 := hY.z1; have yf0 := hY.zf 0; have yf1 := hY.zf 1)
    obtain ⟨r0, r1, ho2, hb7⟩ := hY.fin (n := 0) (A := none) (c := 0) (bs := []) hD.bel (World.ownsRow_nil _ _ _ _) (by simp [Value.ownBlock])
    simp only [List.length_nil] at r0 r1 ho2 hb7
    refine bodyPost_ret (v := .tuple #[.agg #[.int .i64 0, .slice none 0 0], .bool false]) (by simp [results, Try.results15, go_sem, r0, r1]) rfl ?_
    first | exact ⟨none, 0, 0, rfl, BdsR.nil _ _ _, ho2, hb7⟩ | exact ⟨none, 0, rfl, ⟨0, BdsR.nil _ _ _⟩, ho2, hb7⟩
  · have hdl := lastsOk_iff.1 hd
    have hq2 : q = planFor ⟨n, bs⟩ ps ls ∧ r = true := by unfold planForR at hq; rw [hd] at hq; simpa [eq_comm] using hq
    obtain ⟨rfl, rfl⟩ := hq2
    have h12 : bs.length ≤ 12 := hdl.1.2.1
    have hp2 : ps.length ≤ 2 := hdl.1.2.2.1
    have hll : ls.length ≤ ps.length := by have := hdl.2.1; omega
    have hll2 : ps.length ≤ ls.length := by have := hdl.2.1; omega
    have Hsm : Hid (∀ (i : Nat) (l : Int), ls[i]? = some l → 0 ≤ l ∧ l ≤ 12) := lasts_small hdl
    have Hd := hide hd
    clear hd hdl hq
    go_enter Try.func15, Try.ntmps15
    go_upto_region 1 with fail
    have hWW := hD.bel
    generalize (w.alloc (.cells #[.int .i64 n, .slice A bs.length c, .slice A2 ps.length c2] 28)).alloc (.cells #[.int .i64 0, .slice none 0 0] 25) = W at hD hY hWW ⊢
    have hYw : w.heap.size < w.heap.size + 1 := by omega
    have hYW := hY.ex
    have hDW := hD.r.ex
    generalize w.heap.size + 1 = Y at hY hYw hYW ⊢
    have hLW := (hL.below (hWW.mono hB)).more (Nat.le_trans hB hWW.size)
    have p0 := hD.r.c0
    have p1 := hD.r.c1
    have p2 := hD.r.c2
    go_upto_region 4 with (first
      | (go_at_call 55; go_fit (lastsOk_c n bs ps ls A A2 A3 b o c b2 o2 c2 b3 o3 c3 _ _ hn hn2 hn3 (Nat.le_refl _) hD.r.rd hD.r.rp hLW); rintro e w2 ⟨rfl, hb⟩; rw [Hd.out]; replace hD := hD.below hb; clear p0 p1 p2; have p0 := hD.r.c0; have p1 := hD.r.c1; have p2 := hD.r.c2; replace hY := hY.below hb; have hWw2 := hb.size)
      | (go_at_call 56; go_fit (clone_q ⟨n, bs⟩ A b o c _ _ (by dsimp only; omega) (Nat.le_refl _) hD.r.rd); rintro e w3 ⟨A1, c1, g1, rfl, hr1, own1, hb3⟩; replace hD := hD.below hb3; clear p0 p1 p2; have p0 := hD.r.c0; have p1 := hD.r.c1; have p2 := hD.r.c2; replace hY := hY.below hb3))
    have hSz := hb3.size
    have hX := zd_new (t := 25) [.int .i64 n, .slice A1 bs.length c1] hD.bel.size
    have hS : SQ w (w3.alloc (.cells #[.int .i64 n, .slice A1 bs.length c1] 25)) W.heap.size w3.heap.size Y b o n A c bs b2 o2 A2 c2 ps A1 c1 bs := by
      have hal : Below w3.heap.size w3 (w3.alloc (.cells #[.int .i64 n, .slice A1 bs.length c1] 25)) := by go_grown
      exact ⟨hD.below hal, hY.below hal, hX, own_below (own_less own1 hWw2) hal, by omega, by omega, by omega, ⟨fun h => by have := hb0 h; omega, fun h => by have := hb20 h; omega⟩, fun e => by have := (own1.lt _ e).2; omega⟩
    generalize w3.alloc (.cells #[.int .i64 n, .slice A1 bs.length c1] 25) = W3 at hS ⊢
    generalize w3.heap.size = X at hS ⊢
    clear hD hY hX p0 p1 p2 hr1 own1 hSz hb3 hWw2 hb0 hb20 hYw hYW hDW hLW
    have p2 := hS.d.r.c2
    go_upto_region 5 with fail
    go_loopg [20] ps.length (fun gh i wr => ∃ (k : Nat) (L : List Bd) (A1 : Option Addr) (c1 : Nat), k ≤ ps.length ∧ gh = ps.length - k ∧ i = .int .i64 k ∧ Hid (L = bs ++ forBs (ps.take k) (ls.take k)) ∧ L.length ≤ 12 + 2 * k ∧ SQ w wr W.heap.size X Y b o n A c bs b2 o2 A2 c2 ps A1 c1 L)
    case atStart => exact ⟨0, bs, A1, c1, Nat.zero_le _, rfl, rfl, by simp [Hid, forBs], by omega, hS⟩
    case round =>
      clear hS p2
      obtain ⟨k, L, A1, c1, hk, rfl, rfl, HL, hLk, hS⟩ := hrel
      have p2 := hS.d.r.c2
      by_cases hlt : k < ps.length
      · have hlt' : (k : Int) < (ps.length : Int) := by omega
        have hltl : (k : Int) < (ls.length : Int) := by omega
        have hk0 : (0 : Int) ≤ (k : Int) := by omega
        obtain rfl := hS.d.r.rp.addr (by omega)
        obtain rfl := hL.addr (by omega)
        have hx := List.getElem?_eq_getElem hlt
        obtain ⟨d0, d1, d2, d3⟩ := pr_cells hS.d.r.rp hx
        have hl := List.getElem?_eq_getElem (show k < ls.length by omega)
        have hsm := Hsm.out k _ hl
        have hLr := (hL.below (hS.d.bel.mono hB)).more (Nat.le_trans hB hS.d.bel.size)
        have Ht : Hid (bs ++ forBs (ps.take (k + 1)) (ls.take (k + 1)) = L ++ pairOf ps[k] ls[k]) := by unfold Hid; rw [forBs_step ps ls k _ _ hx hl, HL.out, List.append_assoc]
        have l0 := hLr.cell k (by omega)
        rw [List.getD_eq_getElem?_getD, hl] at l0
        dsimp only [Option.getD_some] at l0
        have hlb := hLr.lt (by omega)
        generalize ps[k] = x at hx d0 d1 d2 d3 Ht
        generalize ls[k] = l at hl l0 Ht hsm
        clear hx hl hLr
        obtain ⟨hs0, hs1⟩ := hsm
        have hV := cb_new wr [.int .i64 x.f, .int .i64 x.t, .int .i64 x.l, .int .i64 x.h] 40
        have hal : Below wr.heap.size wr (wr.alloc (.cells #[.int .i64 x.f, .int .i64 x.t, .int .i64 x.l, .int .i64 x.h] 40)) := by go_grown
        replace hS := hS.below hal
        have l1 := ((bcell hal).1 _ _ hlb).trans l0
        go_upto_region 7 with fail
        generalize wr.alloc (.cells #[.int .i64 x.f, .int .i64 x.t, .int .i64 x.l, .int .i64 x.h] 40) = Wv at hS hV l1 ⊢
        generalize wr.heap.size = V at hV hlb ⊢
        clear p2 d0 d1 d2 d3 hal l0
        have v0 := hV.c 0 _ rfl
        have v1 := hV.c 1 _ rfl
        have x0 := hS.x.b.c 0 _ rfl
        have x1 := hS.x.b.c 1 _ rfl
        have hXl := hS.x.b.ex
        have hVl := hV.ex
        have hlbv : b3 < Wv.heap.size := by omega
        have hneg : IntKind.i64.wrap (-l) = -l := by rw [IntWalk.i64_left, IntWalk.wrap64_in _ (by omega)]
        obtain ⟨gL, hrL⟩ := OwnB.readsA hS.own
        obtain ⟨qs, hqs⟩ : ∃ qs, L ++ [⟨x.f, x.t, l⟩, ⟨x.t, x.f, -l⟩] = qs := ⟨_, rfl⟩
        have hqsl : qs.length ≤ 12 + 2 * (k + 1) := by rw [← hqs]; simp; omega
        have HN : Hid (qs = bs ++ forBs (ps.take (k + 1)) (ls.take (k + 1))) := by unfold Hid; rw [Ht.out, ← hqs]; rfl
        have Hqs := hide hqs
        clear hqs
        have hbW : Below Wv.heap.size Wv (Wv.alloc (.cells #[.int .i64 x.f, .int .i64 x.t, .int .i64 l, .int .i64 x.t, .int .i64 x.f, .int .i64 (-l)] 73)).drew := by go_grown
        have hrL2 := (hrL.below hbW).more hbW.size
        have hB2 : BdsR (Wv.alloc (.cells #[.int .i64 x.f, .int .i64 x.t, .int .i64 l, .int .i64 x.t, .int .i64 x.f, .int .i64 (-l)] 73)).drew (Wv.alloc (.cells #[.int .i64 x.f, .int .i64 x.t, .int .i64 l, .int .i64 x.t, .int .i64 x.f, .int .i64 (-l)] 73)).drew.heap.size Wv.heap.size 0 (some ⟨Wv.heap.size, 0, none⟩) [⟨x.f, x.t, l⟩, ⟨x.t, x.f, -l⟩] :=
          blk_bd2 Wv 73 ⟨x.f, x.t, l⟩ ⟨x.t, x.f, -l⟩ _ _ rfl (by go_grown) (by simp)
        clear hrL
        refine wp_regionE (fun w' => w'.cell? ⟨X, 0, none⟩ = some (.int .i64 n) ∧ w'.cell? ⟨X, 1, none⟩ = some (.slice A1 L.length c1) ∧ w'.cell? ⟨V, 0, none⟩ = some (.int .i64 x.f) ∧ w'.cell? ⟨V, 1, none⟩ = some (.int .i64 x.t) ∧ w'.cell? ⟨b3, o3 + k, none⟩ = some (.int .i64 l)) 22 (by kernel_rfl) ?_
        change wpE _ _ _ _ _ _ 23 #[false, false, false, false, false, false, false, false, false, false, false, false, false, false, false, false, false, false, false, false, false, false, false] _ _
        have hS0 : Wv.drew.cell? ⟨X, 0, none⟩ = some (.int .i64 n) ∧ Wv.drew.cell? ⟨X, 1, none⟩ = some (.slice A1 L.length c1) ∧ Wv.drew.cell? ⟨V, 0, none⟩ = some (.int .i64 x.f) ∧ Wv.drew.cell? ⟨V, 1, none⟩ = some (.int .i64 x.t) ∧ Wv.drew.cell? ⟨b3, o3 + k, none⟩ = some (.int .i64 l) := ⟨x0, x1, v0, v1, l1⟩
        refine wpE_take' (v := ?_) 0 [21, 22] (of_decide_eq_true (by kernel_rfl)) (by kernel_rfl) (by kernel_rfl) (by kernel_rfl) (by kernel_rfl) (fun _ _ _ h => h) (by kernel_rfl) ?_ hS0 ?_
        rotate_left
        · intro w' hSw
          simp only [List.getElem_toArray, List.getElem_cons_succ, List.getElem_cons_zero]
          go_simp
          all_goals with_reducible rfl
        simp only [List.getElem_toArray, List.getElem_cons_succ, List.getElem_cons_zero, Act.put, List.setIfInBounds_toArray, List.set_cons_zero, List.set_cons_succ]
        refine wpE_take' (v := ?_) 1 [2, 9, 20, 21, 22] (of_decide_eq_true (by kernel_rfl)) (by kernel_rfl) (by kernel_rfl) (by kernel_rfl) (by kernel_rfl) (fun _ _ _ h => h) (by kernel_rfl) ?_ hS0 ?_
        rotate_left
        · intro w' hSw
          simp only [List.getElem_toArray, List.getElem_cons_succ, List.getElem_cons_zero]
          go_simp
          all_goals with_reducible rfl
        simp only [List.getElem_toArray, List.getElem_cons_succ, List.getElem_cons_zero, Act.put, List.setIfInBounds_toArray, List.set_cons_zero, List.set_cons_succ]
        refine wpE_take' (v := ?_) 2 [9, 20, 21, 22] (of_decide_eq_true (by kernel_rfl)) (by kernel_rfl) (by kernel_rfl) (by kernel_rfl) (by kernel_rfl) (fun _ _ _ h => h) (by kernel_rfl) ?_ hS0 ?_
        rotate_left
        · intro w' hSw
          simp only [List.getElem_toArray, List.getElem_cons_succ, List.getElem_cons_zero]
          go_simp
          all_goals with_reducible rfl
        simp only [List.getElem_toArray, List.getElem_cons_succ, List.getElem_cons_zero, Act.put, List.setIfInBounds_toArray, List.set_cons_zero, List.set_cons_succ]
        refine wpE_take' (v := ?_) 3 [4, 9, 20, 21, 22] (of_decide_eq_true (by kernel_rfl)) (by kernel_rfl) (by kernel_rfl) (by kernel_rfl) (by kernel_rfl) (fun _ _ _ h => h) (by kernel_rfl) ?_ hS0 ?_
        rotate_left
        · intro w' hSw
          simp only [List.getElem_toArray, List.getElem_cons_succ, List.getElem_cons_zero]
          go_simp
          all_goals with_reducible rfl
        simp only [List.getElem_toArray, List.getElem_cons_succ, List.getElem_cons_zero, Act.put, List.setIfInBounds_toArray, List.set_cons_zero, List.set_cons_succ]
        refine wpE_take' (v := ?_) 4 [9, 20, 21, 22] (of_decide_eq_true (by kernel_rfl)) (by kernel_rfl) (by kernel_rfl) (by kernel_rfl) (by kernel_rfl) (fun _ _ _ h => h) (by kernel_rfl) ?_ hS0 ?_
        rotate_left
        · intro w' hSw
          simp only [List.getElem_toArray, List.getElem_cons_succ, List.getElem_cons_zero]
          go_simp
          all_goals with_reducible rfl
        simp only [List.getElem_toArray, List.getElem_cons_succ, List.getElem_cons_zero, Act.put, List.setIfInBounds_toArray, List.set_cons_zero, List.set_cons_succ]
        refine wpE_take' (v := ?_) 5 [7, 8, 9, 20, 21, 22] (of_decide_eq_true (by kernel_rfl)) (by kernel_rfl) (by kernel_rfl) (by kernel_rfl) (by kernel_rfl) (fun _ _ _ h => h) (by kernel_rfl) ?_ hS0 ?_
        rotate_left
        · intro w' hSw
          simp only [List.getElem_toArray, List.getElem_cons_succ, List.getElem_cons_zero]
          go_simp
          all_goals with_reducible rfl
        simp only [List.getElem_toArray, List.getElem_cons_succ, List.getElem_cons_zero, Act.put, List.setIfInBounds_toArray, List.set_cons_zero, List.set_cons_succ]
        refine wpE_take' (v := ?_) 6 [7, 8, 9, 20, 21, 22] (of_decide_eq_true (by kernel_rfl)) (by kernel_rfl) (by kernel_rfl) (by kernel_rfl) (by kernel_rfl) (fun _ _ _ h => h) (by kernel_rfl) ?_ hS0 ?_
        rotate_left
        · intro w' hSw
          simp only [List.getElem_toArray, List.getElem_cons_succ, List.getElem_cons_zero]
          go_simp
          all_goals with_reducible rfl
        simp only [List.getElem_toArray, List.getElem_cons_succ, List.getElem_cons_zero, Act.put, List.setIfInBounds_toArray, List.set_cons_zero, List.set_cons_succ]
        refine wpE_take' (v := ?_) 7 [8, 9, 20, 21, 22] (of_decide_eq_true (by kernel_rfl)) (by kernel_rfl) (by kernel_rfl) (by kernel_rfl) (by kernel_rfl) (fun _ _ _ h => h) (by kernel_rfl) ?_ hS0 ?_
        rotate_left
        · intro w' hSw
          simp only [List.getElem_toArray, List.getElem_cons_succ, List.getElem_cons_zero]
          go_simp
          all_goals with_reducible rfl
        simp only [List.getElem_toArray, List.getElem_cons_succ, List.getElem_cons_zero, Act.put, List.setIfInBounds_toArray, List.set_cons_zero, List.set_cons_succ]
        refine wpE_take' (v := ?_) 8 [9, 20, 21, 22] (of_decide_eq_true (by kernel_rfl)) (by kernel_rfl) (by kernel_rfl) (by kernel_rfl) (by kernel_rfl) (fun _ _ _ h => h) (by kernel_rfl) ?_ hS0 ?_
        rotate_left
        · intro w' hSw
          simp only [List.getElem_toArray, List.getElem_cons_succ, List.getElem_cons_zero]
          go_simp
          all_goals with_reducible rfl
        simp only [List.getElem_toArray, List.getElem_cons_succ, List.getElem_cons_zero, Act.put, List.setIfInBounds_toArray, List.set_cons_zero, List.set_cons_succ]
        refine wpE_take' (v := ?_) 9 [20, 21, 22] (of_decide_eq_true (by kernel_rfl)) (by kernel_rfl) (by kernel_rfl) (by kernel_rfl) (by kernel_rfl) (fun _ _ _ h => h) (by kernel_rfl) ?_ hS0 ?_
        rotate_left
        · intro w' hSw
          simp only [List.getElem_toArray, List.getElem_cons_succ, List.getElem_cons_zero]
          go_simp
          all_goals with_reducible rfl
        simp only [List.getElem_toArray, List.getElem_cons_succ, List.getElem_cons_zero, Act.put, List.setIfInBounds_toArray, List.set_cons_zero, List.set_cons_succ]
        refine wpE_take' (v := ?_) 10 [11, 19, 20, 21, 22] (of_decide_eq_true (by kernel_rfl)) (by kernel_rfl) (by kernel_rfl) (by kernel_rfl) (by kernel_rfl) (fun _ _ _ h => h) (by kernel_rfl) ?_ hS0 ?_
        rotate_left
        · intro w' hSw
          simp only [List.getElem_toArray, List.getElem_cons_succ, List.getElem_cons_zero]
          go_simp
          all_goals with_reducible rfl
        simp only [List.getElem_toArray, List.getElem_cons_succ, List.getElem_cons_zero, Act.put, List.setIfInBounds_toArray, List.set_cons_zero, List.set_cons_succ]
        refine wpE_take' (v := ?_) 11 [19, 20, 21, 22] (of_decide_eq_true (by kernel_rfl)) (by kernel_rfl) (by kernel_rfl) (by kernel_rfl) (by kernel_rfl) (fun _ _ _ h => h) (by kernel_rfl) ?_ hS0 ?_
        rotate_left
        · intro w' hSw
          simp only [List.getElem_toArray, List.getElem_cons_succ, List.getElem_cons_zero]
          go_simp
          all_goals with_reducible rfl
        simp only [List.getElem_toArray, List.getElem_cons_succ, List.getElem_cons_zero, Act.put, List.setIfInBounds_toArray, List.set_cons_zero, List.set_cons_succ]
        refine wpE_take' (v := ?_) 12 [13, 19, 20, 21, 22] (of_decide_eq_true (by kernel_rfl)) (by kernel_rfl) (by kernel_rfl) (by kernel_rfl) (by kernel_rfl) (fun _ _ _ h => h) (by kernel_rfl) ?_ hS0 ?_
        rotate_left
        · intro w' hSw
          simp only [List.getElem_toArray, List.getElem_cons_succ, List.getElem_cons_zero]
          go_simp
          all_goals with_reducible rfl
        simp only [List.getElem_toArray, List.getElem_cons_succ, List.getElem_cons_zero, Act.put, List.setIfInBounds_toArray, List.set_cons_zero, List.set_cons_succ]
        refine wpE_take' (v := ?_) 13 [19, 20, 21, 22] (of_decide_eq_true (by kernel_rfl)) (by kernel_rfl) (by kernel_rfl) (by kernel_rfl) (by kernel_rfl) (fun _ _ _ h => h) (by kernel_rfl) ?_ hS0 ?_
        rotate_left
        · intro w' hSw
          simp only [List.getElem_toArray, List.getElem_cons_succ, List.getElem_cons_zero]
          go_simp
          all_goals with_reducible rfl
        simp only [List.getElem_toArray, List.getElem_cons_succ, List.getElem_cons_zero, Act.put, List.setIfInBounds_toArray, List.set_cons_zero, List.set_cons_succ]
        refine wpE_take' (v := ?_) 14 [16, 17, 18, 19, 20, 21, 22] (of_decide_eq_true (by kernel_rfl)) (by kernel_rfl) (by kernel_rfl) (by kernel_rfl) (by kernel_rfl) (fun _ _ _ h => h) (by kernel_rfl) ?_ hS0 ?_
        rotate_left
        · intro w' hSw
          simp only [List.getElem_toArray, List.getElem_cons_succ, List.getElem_cons_zero]
          go_simp
          all_goals with_reducible rfl
        simp only [List.getElem_toArray, List.getElem_cons_succ, List.getElem_cons_zero, Act.put, List.setIfInBounds_toArray, List.set_cons_zero, List.set_cons_succ]
        refine wpE_take' (v := ?_) 15 [16, 17, 18, 19, 20, 21, 22] (of_decide_eq_true (by kernel_rfl)) (by kernel_rfl) (by kernel_rfl) (by kernel_rfl) (by kernel_rfl) (fun _ _ _ h => h) (by kernel_rfl) ?_ hS0 ?_
        rotate_left
        · intro w' hSw
          simp only [List.getElem_toArray, List.getElem_cons_succ, List.getElem_cons_zero]
          go_simp
          all_goals with_reducible rfl
        simp only [List.getElem_toArray, List.getElem_cons_succ, List.getElem_cons_zero, Act.put, List.setIfInBounds_toArray, List.set_cons_zero, List.set_cons_succ]
        refine wpE_take' (v := ?_) 16 [17, 18, 19, 20, 21, 22] (of_decide_eq_true (by kernel_rfl)) (by kernel_rfl) (by kernel_rfl) (by kernel_rfl) (by kernel_rfl) (fun _ _ _ h => h) (by kernel_rfl) ?_ hS0 ?_
        rotate_left
        · intro w' hSw
          simp only [List.getElem_toArray, List.getElem_cons_succ, List.getElem_cons_zero]
          go_simp
          all_goals with_reducible rfl
        simp only [List.getElem_toArray, List.getElem_cons_succ, List.getElem_cons_zero, Act.put, List.setIfInBounds_toArray, List.set_cons_zero, List.set_cons_succ]
        refine wpE_take' (v := ?_) 17 [18, 19, 20, 21, 22] (of_decide_eq_true (by kernel_rfl)) (by kernel_rfl) (by kernel_rfl) (by kernel_rfl) (by kernel_rfl) (fun _ _ _ h => h) (by kernel_rfl) ?_ hS0 ?_
        rotate_left
        · intro w' hSw
          simp only [List.getElem_toArray, List.getElem_cons_succ, List.getElem_cons_zero]
          go_simp
          all_goals with_reducible rfl
        simp only [List.getElem_toArray, List.getElem_cons_succ, List.getElem_cons_zero, Act.put, List.setIfInBounds_toArray, List.set_cons_zero, List.set_cons_succ]
        refine wpE_take' (v := ?_) 18 [19, 20, 21, 22] (of_decide_eq_true (by kernel_rfl)) (by kernel_rfl) (by kernel_rfl) (by kernel_rfl) (by kernel_rfl) (fun _ _ _ h => h) (by kernel_rfl) ?_ hS0 ?_
        rotate_left
        · intro w' hSw
          simp only [List.getElem_toArray, List.getElem_cons_succ, List.getElem_cons_zero]
          go_simp
          all_goals with_reducible rfl
        simp only [List.getElem_toArray, List.getElem_cons_succ, List.getElem_cons_zero, Act.put, List.setIfInBounds_toArray, List.set_cons_zero, List.set_cons_succ]
        refine wpE_take' (v := ?_) 19 [20, 21, 22] (of_decide_eq_true (by kernel_rfl)) (by kernel_rfl) (by kernel_rfl) (by kernel_rfl) (by kernel_rfl) (fun _ _ _ h => h) (by kernel_rfl) ?_ hS0 ?_
        rotate_left
        · intro w' hSw
          simp only [List.getElem_toArray, List.getElem_cons_succ, List.getElem_cons_zero]
          go_simp
          all_goals with_reducible rfl
        simp only [List.getElem_toArray, List.getElem_cons_succ, List.getElem_cons_zero, Act.put, List.setIfInBounds_toArray, List.set_cons_zero, List.set_cons_succ]
        refine wpE_step' 20 (of_decide_eq_true (by kernel_rfl)) (by kernel_rfl) (by kernel_rfl) (fun K hK => ?_)
        simp only [List.getElem_toArray, List.getElem_cons_succ, List.getElem_cons_zero]
        go_simp
        refine hK.out _ _ (.inr ?_) ?_
        · exact ⟨((bcell hbW).1 _ _ hXl).trans x0, ((bcell hbW).1 _ _ hXl).trans x1, ((bcell hbW).1 _ _ hVl).trans v0, ((bcell hbW).1 _ _ hVl).trans v1, ((bcell hbW).1 _ _ hlbv).trans l1⟩
        clear hK K
        simp only [Act.put, List.setIfInBounds_toArray, List.set_cons_zero, List.set_cons_succ]
        refine wpE_step' 21 (of_decide_eq_true (by kernel_rfl)) (by kernel_rfl) (by kernel_rfl) (fun K hK => ?_)
        simp only [List.getElem_toArray, List.getElem_cons_succ, List.getElem_cons_zero]
        go_simp
        go_at_call 57
        go_fit (with_q ⟨n, L⟩ [⟨x.f, x.t, l⟩, ⟨x.t, x.f, -l⟩] qs Hqs.out A1 _ gL 0 c1 _ 0 _ _ _ (by dsimp only; omega) (by simp) (Nat.le_refl _) hrL2 hB2)
        rintro e w5 ⟨A5, c5, g5, rfl, hr5, own5, hb5⟩
        have hb6 := bthen hbW hb5
        have hS5 := hS.below hb6
        have y0 := hS5.x.b.c 0 _ rfl
        have y1 := hS5.x.b.c 1 _ rfl
        have yf0 := hS5.x.zf 0
        have yf1 := hS5.x.zf 1
        refine hK.out _ _ (.inr ⟨y0, y1, ((bcell hb6).1 _ _ hVl).trans v0, ((bcell hb6).1 _ _ hVl).trans v1, ((bcell hb6).1 _ _ hlbv).trans l1⟩) ?_
        clear hK K
        simp only [Act.put, List.setIfInBounds_toArray, List.set_cons_zero, List.set_cons_succ]
        refine wpE_step' 22 (of_decide_eq_true (by kernel_rfl)) (by kernel_rfl) (by kernel_rfl) (fun K hK => ?_)
        simp only [List.getElem_toArray, List.getElem_cons_succ, List.getElem_cons_zero]
        go_simp
        refine hK.out _ _ (.inl rfl) ?_
        clear hK K
        simp only [Act.put, List.setIfInBounds_toArray, List.set_cons_zero, List.set_cons_succ]
        refine wpE_done (by kernel_rfl) ?_ _
        have hWc := hbW.size
        have hbase : W.heap.size ≤ Wv.heap.size := Nat.le_trans hS.hX (Nat.le_of_lt hXl)
        have hne : (Value.slice A5 qs.length c5).ownBlock ≠ some X := fun e => by have := (own5.lt _ e).1; omega
        have hS6 := hS5.put (L' := qs) qs.length rfl (own_less own5 (by omega)) hne
        clear hrL2 hB2 hr5 own5 hb5 hS5 hS hbW hb6 hS0 y0 y1 yf0 yf1
        generalize (w5.setCell ⟨X, 0, none⟩ (.int .i64 n)).setCell ⟨X, 1, none⟩ (.slice A5 qs.length c5) = W6 at hS6 ⊢
        go_wp2_with fail
        go_roundg (ps.length - (k + 1))
        case measure => go_light; omega
        case rel => go_light; exact ⟨k + 1, qs, A5, c5, by omega, rfl, by go_num, HN, hqsl, hS6⟩
      · obtain rfl : k = ps.length := by omega
        have e : L = (planFor ⟨n, bs⟩ ps ls).bs := by
          rw [HL.out, List.take_length, List.take_of_length_le (by omega)]; rfl
        have x0 := hS.x.b.c 0 _ rfl
        have x1 := hS.x.b.c 1 _ rfl
        have y0 := hS.y.z0
        have y1 := hS.y.z1
        have yf0 := hS.y.zf 0
        have yf1 := hS.y.zf 1
        have hbase : w.heap.size ≤ W.heap.size := by have := hS.hd; omega
        have E := hide e
        clear e HL hll hll2
        go_wp2_with fail
        have ne : (Value.slice A1 L.length c1).ownBlock ≠ some Y := fun e => by have := (hS.own.lt _ e).1; have := hS.hY; omega
        obtain ⟨r0, r1, ho2, hb7⟩ := hS.y.fin (n := n) hS.d.bel (own_less hS.own hbase) ne
        refine bodyPost_ret (v := .tuple #[.agg #[.int .i64 n, .slice A1 L.length c1], .bool true]) (by simp [results, Try.results15, go_sem, r0, r1]) rfl ?_
        obtain ⟨g, hr⟩ := OwnB.readsA ho2
        have e := E.out
        subst e
        first | exact ⟨A1, c1, g, rfl, hr, ho2, hb7⟩ | exact ⟨A1, c1, rfl, ⟨g, hr⟩, ho2, hb7⟩
end Go.Proofs.Ytdijfkpccbkdfaa
