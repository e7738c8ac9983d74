/-
  spec.l8Plan.
-/
import Derived.Test.YtdijfkpccbkdfaaL11a
import Derived.Test.YtdijfkpccbkdfaaL22a
import Derived.Test.YtdijfkpccbkdfaaP9
import Derived.Test.YtdijfkpccbkdfaaI3
import Derived.Test.YtdijfkpccbkdfaaZ1
namespace Go.Proofs.Ytdijfkpccbkdfaa
set_option linter.unusedVariables false
set_option linter.unusedSimpArgs false
open Go.RowKit Pp

section
variable {w0 W W' : World} {X Y b o b2 o2 g : Nat} {n : Int} {A A1 A' A2 : Option Addr} {c c1 c' c2 : Nat} {bs L L' : List Bd} {ps : List Pr}
/-- While a deal's plan is made: the deal's box, the result's box, the plan's box. -/
structure OP (w0 W : World) (X Y b o : Nat) (n : Int) (A : Option Addr) (c : Nat) (bs : List Bd) (b2 o2 : Nat) (A2 : Option Addr) (c2 : Nat) (ps : List Pr) (A1 : Option Addr) (c1 : Nat) (L : List Bd) : Prop where
  d : PD w0 W w0.heap.size b o n A c bs b2 o2 A2 c2 ps
  x : OX w0 W Y X n A1 c1 L
  ne : (Value.slice A1 L.length c1).ownBlock ≠ some w0.heap.size
  hb : (0 < bs.length → b < w0.heap.size) ∧ (0 < ps.length → b2 < w0.heap.size)
  hx : w0.heap.size < X
theorem OP.below (h : OP w0 W X Y b o n A c bs b2 o2 A2 c2 ps A1 c1 L) (hb : Below W.heap.size W W') : OP w0 W' X Y b o n A c bs b2 o2 A2 c2 ps A1 c1 L := ⟨h.d.below hb, h.x.below hb, h.ne, h.hb, h.hx⟩
theorem OP.app (h : OP w0 W X Y b o n A c bs b2 o2 A2 c2 ps A1 c1 L) (hg : W.grownBy W' (Value.slice A1 L.length c1).ownBlock) (len : Nat) (hlen : L'.length = len) (hown : OwnB w0.heap.size W' (.slice A' len c') L')
    (hat : (Value.slice A' len c').ownBlock = (Value.slice A1 L.length c1).ownBlock ∨ (Value.slice A' len c').ownBlock = some W.heap.size) :
    W'.cell? ⟨X, 1, none⟩ = some (.slice A1 L.length c1) ∧ W'.frozen? ⟨X, 1, none⟩ = false ∧ OP w0 (W'.setCell ⟨X, 1, none⟩ (.slice A' len c')) X Y b o n A c bs b2 o2 A2 c2 ps A' c' L' := by
  subst hlen
  have hr : ∀ q, (Value.slice A1 L.length c1).ownBlock = some q → w0.heap.size ≤ q := fun q hq => (h.x.own.lt q hq).1
  have hXr : some X ≠ (Value.slice A1 L.length c1).ownBlock := fun e => h.x.neX e.symm
  have hYr : some Y ≠ (Value.slice A1 L.length c1).ownBlock := fun e => h.x.neY e.symm
  have k0 := hg.cell h.x.c0 hXr
  have k1 := hg.cell h.x.c1 hXr
  have kf : ∀ i, W'.frozen? ⟨X, i, none⟩ = false := fun i => (hg.frozen_far ⟨X, i, none⟩ h.x.ex hXr).trans (h.x.cf i)
  have hbel : Below w0.heap.size w0 W' := below_app h.d.bel h.x.own hg (Nat.le_refl _) h.d.bel.size
  have hd2 : PD w0 W' w0.heap.size b o n A c bs b2 o2 A2 c2 ps := ⟨hbel, h.d.lo, h.d.r.grown hg (fun e => h.ne e.symm) (fun hx e => by have := hr _ e.symm; have := h.hb.1 hx; omega) (fun hx e => by have := hr _ e.symm; have := h.hb.2 hx; omega)⟩
  have hz2 : ZB w0 W' Y := h.x.z.grown hg (fun q hq e => h.x.neY (e ▸ hq))
  have hsz : ∀ z, z < W.heap.size → (Value.slice A1 L.length c1).ownBlock ≠ some z → (Value.slice A' L'.length c').ownBlock ≠ some z := fun z hz hn e => by
    rcases hat with h1 | h1
    · rw [h1] at e; exact hn e
    · rw [h1] at e; have := Option.some.inj e; omega
  have nX := hsz X h.x.ex h.x.neX
  have nY := hsz Y h.x.z.ex h.x.neY
  have nD := hsz _ h.d.r.ex h.ne
  have hxx := h.hx
  refine ⟨k1, kf 1, hd2.set 1 _ h.x.lo (by omega) (fun hx => by have := h.hb.1 hx; omega) (fun hx => by have := h.hb.2 hx; omega), ⟨hbel.setCell (p := ⟨X, 1, none⟩) h.x.lo _, hz2.set 1 _ h.x.xy, h.x.xy, h.x.lo, by simpa using Nat.lt_of_lt_of_le h.x.ex hg.size, ?_, World.cell?_setCell_same _ _ _ k1, fun i => ?_, own_set hown (p := ⟨X, 1, none⟩) nX _, nY, nX⟩, nD, h.hb, h.hx⟩
  · rw [World.cell?_setCell_other _ _ _ _ (by simp)]; exact k0
  · rw [← kf i]; simp
end

set_option maxHeartbeats 4000000 in
set_option maxRecDepth 100000 in
theorem l8Plan_q (n : Int) (bs : List Bd) (ps : List Pr) (ls : List Int) (hlb : bs.length ≤ 12) (hlp : ps.length ≤ 2) (hll : ls.length ≤ ps.length) (hsm : ∀ (i : Nat) (l : Int), ls[i]? = some l → 0 ≤ l ∧ l ≤ 12) (rs : List Bd) (hq : bs ++ forBs ps ls = rs)
    (A A2 A3 : Option Addr) (b o c b2 o2 c2 b3 o3 c3 B : Nat) (w : World) (hB : B ≤ w.heap.size) (hR : BdsR w B b o A bs) (hP : CsR w B b2 o2 A2 ps.length (prCs ps)) (hL : IntsR w B b3 o3 A3 ls) :
    Calls Try.prog 59 #[.agg #[.int .i64 n, .slice A bs.length c, .slice A2 ps.length c2], .slice A3 ls.length c3] w fun e w' => ∃ A1 c1 g1, e = .returned (.agg #[.int .i64 n, .slice A1 rs.length c1]) ∧
      BdsR w' w'.heap.size g1 0 A1 rs ∧ OwnB w.heap.size w' (.slice A1 rs.length c1) rs ∧ Below w.heap.size w w' := by
  obtain ⟨i0, hi0, hz0, hz1, hz2⟩ := info_parts infoB
  have hb0 : 0 < bs.length → b < w.heap.size := fun h => Nat.lt_of_lt_of_le (hR.lt h) hB
  have hb20 : 0 < ps.length → b2 < w.heap.size := fun h => Nat.lt_of_lt_of_le (hP.lt h) hB
  have hP2 := (pd_new (n := n) (c := c) (c2 := c2) (t := 28) hB hR hP).alloc (.cells #[.int .i64 0, .slice none 0 0] 25)
  have hZ2 : ZB w ((w.alloc (.cells #[.int .i64 n, .slice A bs.length c, .slice A2 ps.length c2] 28)).alloc (.cells #[.int .i64 0, .slice none 0 0] 25)) (w.heap.size + 1) := by
    have h : ZB w ((w.alloc (.cells #[.int .i64 n, .slice A bs.length c, .slice A2 ps.length c2] 28)).alloc (.cells #[.int .i64 0, .slice none 0 0] 25)) (w.alloc (.cells #[.int .i64 n, .slice A bs.length c, .slice A2 ps.length c2] 28)).heap.size := zb_new (by simp)
    simpa using h
  have Hsm := hide hsm
  have Hq := hide hq
  clear hR hP hsm hq
  go_enter Try.func59, Try.ntmps59
  go_upto_region 1 with fail
  have hw12 : w.heap.size + 1 < ((w.alloc (.cells #[.int .i64 n, .slice A bs.length c, .slice A2 ps.length c2] 28)).alloc (.cells #[.int .i64 0, .slice none 0 0] 25)).heap.size := by simp
  generalize (w.alloc (.cells #[.int .i64 n, .slice A bs.length c, .slice A2 ps.length c2] 28)).alloc (.cells #[.int .i64 0, .slice none 0 0] 25) = w2 at hP2 hZ2 hw12 ⊢
  have hXY : w.heap.size < w.heap.size + 1 := by omega
  generalize w.heap.size + 1 = Y at hZ2 hXY hw12 ⊢
  have q0 := hP2.r.c0
  have q1 := hP2.r.c1
  have qx := hP2.r.ex
  have hP20 := hP2.bel.size
  have hY2 := hZ2.ex
  go_cut [5] (fun s wx => ∃ X A1 c1, s = .pointer (some ⟨X, 0, none⟩) ∧ OP w wx X Y b o n A c bs b2 o2 A2 c2 ps A1 c1 bs)
  case first =>
    go_region_held3 (fun w' => w'.cell? ⟨w.heap.size, 0, none⟩ = some (.int .i64 n) ∧ w'.cell? ⟨w.heap.size, 1, none⟩ = some (.slice A bs.length c))
      (first
        | (go_split_ands; (repeat' apply And.intro) <;> first | assumption | exact (set_other (by dsimp only; omega)).trans ((set_other (by dsimp only; omega)).trans (by assumption)) | exact (World.cell?_alloc_past _ _ _ (by first | omega | (simp only [World.size_alloc, World.size_drew]; done) | (simp only [World.size_alloc, World.size_drew]; omega))).trans (by assumption) | exact (World.cell?_alloc_past _ _ _ (by first | omega | (simp only [World.size_alloc, World.size_drew]; done) | (simp only [World.size_alloc, World.size_drew]; omega))).trans ((World.cell?_alloc_past _ _ _ (by first | omega | (simp only [World.size_alloc, World.size_drew]; done) | (simp only [World.size_alloc, World.size_drew]; omega))).trans (by assumption)))
        | (go_keep; done))
      (first
        | (refine app_step _ rfl (.tmp 11) (.tmp 14) _ rfl w2.heap.size 73 i0 _ 3 24 Try.underlying23 hi0 hz0 hz1 hz2 rfl (by omega) (.slice (some ⟨w2.heap.size + 1, 0, none⟩) 0 0) 0 [] (Eq.refl _) ?_ A bs.length c (bdCs bs) (Eq.refl _) (bdCs_length bs) ?_ (bdCs_one bs) (by omega) (by omega) ?_ ?_
           · exact own_empty (at_new (w := w2.alloc (.cells #[.int .i64 0, .slice none 0 0] 25)) (by simp)) (by omega)
           · exact (hP2.r.rd.below (show Below w2.heap.size w2 _ by go_grown)).news
           · exact (by first | omega | (simp only [World.size_alloc, World.size_drew]; done) | (simp only [World.size_alloc, World.size_drew]; omega))
           intro A4 c4 w4 hown4 hg4 hat4
           simp only [Nat.zero_add, List.nil_append] at hown4 hat4 ⊢
           have hb4 : Below w2.heap.size w2 w4 := (show Below w2.heap.size w2 _ by go_grown).grown hg4 (by first | omega | (simp only [World.size_alloc, World.size_drew]; done) | (simp only [World.size_alloc, World.size_drew]; omega)) (fun q hq => by have e := Option.some.inj hq; subst e; dsimp only; omega)
           have hZ4 := hZ2.below hb4
           have hqY : (Value.slice A4 bs.length c4).ownBlock ≠ some Y := (fun e => by have := (hown4.lt _ e).1; omega)
           have hqD : (Value.slice A4 bs.length c4).ownBlock ≠ some w.heap.size := (fun e => by have := (hown4.lt _ e).1; omega)
           have hqN := (fun q (e : (Value.slice A4 bs.length c4).ownBlock = some q) => (hown4.lt q e).2)
           have hc4 := (bcell hb4).1
           have k0 := (hc4 _ 0 qx).trans q0
           have k1 := (hc4 _ 1 qx).trans q1
           have Hc4 := hide hc4
           clear hc4
           have hqX : (Value.slice A4 bs.length c4).ownBlock ≠ some (w2.heap.size) := (fun e => by rcases hat4 with h | h <;> rw [h] at e <;> (have e2 := Option.some.inj e; (try simp only [World.size_alloc, World.size_drew] at e2); (try dsimp only at e2); omega)); have hX := ZB.grown (((zb_at (w0 := w) (W := w2) (X := w2.heap.size) (t := 25) rfl hP20).alloc _).drew) hg4 (fun q hq => by have e := Option.some.inj hq; subst e; dsimp only; omega); have x0 := hX.z0; have x1 := hX.z1; have xf0 := hX.zf 0; have xf1 := hX.zf 1)
        | (refine app_step _ rfl (.tmp 11) (.tmp 14) _ rfl w2.heap.size 73 i0 _ 3 24 Try.underlying23 hi0 hz0 hz1 hz2 rfl (by omega) (.slice (some ⟨w2.heap.size, 0, none⟩) 0 0) 0 [] (Eq.refl _) ?_ A bs.length c (bdCs bs) (Eq.refl _) (bdCs_length bs) ?_ (bdCs_one bs) (by omega) (by omega) ?_ ?_
           · exact own_empty (at_old (at_new (w := w2) rfl)) (by omega)
           · exact (hP2.r.rd.below (show Below w2.heap.size w2 _ by go_grown)).news
           · exact (by first | omega | (simp only [World.size_alloc, World.size_drew]; done) | (simp only [World.size_alloc, World.size_drew]; omega))
           intro A4 c4 w4 hown4 hg4 hat4
           simp only [Nat.zero_add, List.nil_append] at hown4 hat4 ⊢
           have hb4 : Below w2.heap.size w2 w4 := (show Below w2.heap.size w2 _ by go_grown).grown hg4 (by first | omega | (simp only [World.size_alloc, World.size_drew]; done) | (simp only [World.size_alloc, World.size_drew]; omega)) (fun q hq => by have e := Option.some.inj hq; subst e; dsimp only; omega)
           have hZ4 := hZ2.below hb4
           have hqY : (Value.slice A4 bs.length c4).ownBlock ≠ some Y := (fun e => by have := (hown4.lt _ e).1; omega)
           have hqD : (Value.slice A4 bs.length c4).ownBlock ≠ some w.heap.size := (fun e => by have := (hown4.lt _ e).1; omega)
           have hqN := (fun q (e : (Value.slice A4 bs.length c4).ownBlock = some q) => (hown4.lt q e).2)
           have hc4 := (bcell hb4).1
           have k0 := (hc4 _ 0 qx).trans q0
           have k1 := (hc4 _ 1 qx).trans q1
           have Hc4 := hide hc4
           clear hc4
           have hqX : (Value.slice A4 bs.length c4).ownBlock ≠ some (w2.heap.size + 1) := (fun e => by rcases hat4 with h | h <;> rw [h] at e <;> (have e2 := Option.some.inj e; (try simp only [World.size_alloc, World.size_drew] at e2); (try dsimp only at e2); omega)); have hX := ZB.grown ((zb_at (w0 := w) (W := w2.alloc (.cells #[] 73)) (X := w2.heap.size + 1) (t := 25) (by simp) (by simp; omega)).drew) hg4 (fun q hq => by have e := Option.some.inj hq; subst e; dsimp only; omega); have x0 := hX.z0; have x1 := hX.z1; have xf0 := hX.zf 0; have xf1 := hX.zf 1)
        | (refine app_step _ rfl (.tmp 11) (.tmp 14) _ rfl w2.heap.size 73 i0 _ 3 24 Try.underlying23 hi0 hz0 hz1 hz2 rfl (by omega) (.slice (some ⟨w2.heap.size, 0, none⟩) 0 0) 0 [] (Eq.refl _) ?_ A bs.length c (bdCs bs) (Eq.refl _) (bdCs_length bs) ?_ (bdCs_one bs) (by omega) (by omega) ?_ ?_
           · exact own_empty (at_new (w := w2) rfl) (by omega)
           · exact (hP2.r.rd.below (show Below w2.heap.size w2 _ by go_grown)).news
           · exact (by first | omega | (simp only [World.size_alloc, World.size_drew]; done) | (simp only [World.size_alloc, World.size_drew]; omega))
           intro A4 c4 w4 hown4 hg4 hat4
           simp only [Nat.zero_add, List.nil_append] at hown4 hat4 ⊢
           have hb4 : Below w2.heap.size w2 w4 := (show Below w2.heap.size w2 _ by go_grown).grown hg4 (by first | omega | (simp only [World.size_alloc, World.size_drew]; done) | (simp only [World.size_alloc, World.size_drew]; omega)) (fun q hq => by have e := Option.some.inj hq; subst e; dsimp only; omega)
           have hZ4 := hZ2.below hb4
           have hqY : (Value.slice A4 bs.length c4).ownBlock ≠ some Y := (fun e => by have := (hown4.lt _ e).1; omega)
           have hqD : (Value.slice A4 bs.length c4).ownBlock ≠ some w.heap.size := (fun e => by have := (hown4.lt _ e).1; omega)
           have hqN := (fun q (e : (Value.slice A4 bs.length c4).ownBlock = some q) => (hown4.lt q e).2)
           have hc4 := (bcell hb4).1
           have k0 := (hc4 _ 0 qx).trans q0
           have k1 := (hc4 _ 1 qx).trans q1
           have Hc4 := hide hc4
           clear hc4
           skip))
    all_goals (
      go_wp2_with fail
      go_meet
      case rel =>
        first
          | (have hO := ox_put (n := n) (bthen hP2.bel hb4) hZ4 hX (by omega) (own_less hown4 hP20) hqY hqX
             exact ⟨_, A4, c4, rfl, ((hP2.below hb4).set 0 _ hX.lo (by omega) (fun h => by have := hb0 h; omega) (fun h => by have := hb20 h; omega)).set 1 _ hX.lo (by omega) (fun h => by have := hb0 h; omega) (fun h => by have := hb20 h; omega), hO, hqD, ⟨hb0, hb20⟩, by omega⟩)
          | (have hO := ox_new (n := n) (t := 25) (bthen hP2.bel hb4) hZ4 (own_less hown4 hP20) hqY
             exact ⟨_, A4, c4, rfl, (hP2.below hb4).alloc _, hO, hqD, ⟨hb0, hb20⟩, by have := hb4.size; omega⟩))
  case rest =>
    obtain ⟨X, A1, c1, rfl, hO⟩ := hcut
    clear hP2 hZ2 q0 q1 qx
    go_upto_region 3 with fail
    go_loopg [6] ls.length (fun gh i wr => ∃ (k : Nat) (L : List Bd) (A1 : Option Addr) (c1 : Nat), k ≤ ls.length ∧ gh = ls.length - k ∧ i = .int .i64 k ∧ Hid (L = bs ++ forBs (ps.take k) (ls.take k)) ∧ L.length ≤ 12 + 2 * k ∧ OP w wr X Y b o n A c bs b2 o2 A2 c2 ps A1 c1 L)
    case atStart => exact ⟨0, bs, A1, c1, Nat.zero_le _, rfl, rfl, by simp [Hid, forBs], by omega, hO⟩
    case round =>
      clear hO
      obtain ⟨k, L, A1, c1, hk, rfl, rfl, HL, hLk, hO⟩ := hrel
      have p2 := hO.d.r.c2
      by_cases hlt : k < ls.length
      · have hlt' : (k : Int) < (ls.length : Int) := by omega
        have hltp : (k : Int) < (ps.length : Int) := by omega
        have hk0 : (0 : Int) ≤ (k : Int) := by omega
        obtain rfl := hO.d.r.rp.addr (by omega)
        obtain rfl := hL.addr (by omega)
        have hx := List.getElem?_eq_getElem (show k < ps.length by omega)
        obtain ⟨d0, d1, d2, d3⟩ := pr_cells hO.d.r.rp hx
        have hl := List.getElem?_eq_getElem hlt
        have hsm := Hsm.out k _ hl
        have hLr := (hL.below (hO.d.bel.mono hB)).more (Nat.le_trans hB hO.d.bel.size)
        have hl3 : b3 < w.heap.size := Nat.lt_of_lt_of_le (hL.lt (by omega)) hB
        have Ht : Hid (bs ++ forBs (ps.take (k + 1)) (ls.take (k + 1)) = L ++ pairOf ps[k] ls[k]) := by unfold Hid; rw [forBs_step ps ls k _ _ hx hl, HL.out, List.append_assoc]
        have l0 := hLr.cell k (by omega)
        rw [List.getD_eq_getElem?_getD, hl] at l0
        dsimp only [Option.getD_some] at l0
        have hlb := hLr.lt (by omega)
        generalize ps[k] = x at hx d0 d1 d2 d3 Ht
        generalize ls[k] = l at hl l0 Ht hsm
        clear hx hl hLr
        obtain ⟨hs0, hs1⟩ := hsm
        have hV := cb_new wr [.int .i64 x.f, .int .i64 x.t, .int .i64 x.l, .int .i64 x.h] 40
        have hal : Below wr.heap.size wr (wr.alloc (.cells #[.int .i64 x.f, .int .i64 x.t, .int .i64 x.l, .int .i64 x.h] 40)) := by go_grown
        have hrV : ∀ q, (Value.slice A1 L.length c1).ownBlock = some q → w.heap.size ≤ q ∧ q < wr.heap.size := fun q hq => hO.x.own.lt q hq
        replace hO := hO.below hal
        have l1 := ((bcell hal).1 _ _ hlb).trans l0
        go_upto_region 6 with fail
        generalize wr.alloc (.cells #[.int .i64 x.f, .int .i64 x.t, .int .i64 x.l, .int .i64 x.h] 40) = Wv at hO hV l1 ⊢
        generalize wr.heap.size = V at hV hlb hrV ⊢
        clear p2 d0 d1 d2 d3 hal l0
        have v0 := hV.c 0 _ rfl
        have v1 := hV.c 1 _ rfl
        have x1 := hO.x.c1
        have hXl := hO.x.ex
        have hVl := hV.ex
        have hlbv : b3 < Wv.heap.size := by omega
        have hneg : IntKind.i64.wrap (-l) = -l := by rw [IntWalk.i64_left, IntWalk.wrap64_in _ (by omega)]
        obtain ⟨qs, hqs⟩ : ∃ qs, L ++ [⟨x.f, x.t, l⟩, ⟨x.t, x.f, -l⟩] = qs := ⟨_, rfl⟩
        have hqsl : qs.length ≤ 12 + 2 * (k + 1) := by rw [← hqs]; simp; omega
        have hqsl2 : Hid (qs.length = L.length + 2) := by rw [← hqs]; simp [Hid]
        have HN : Hid (qs = bs ++ forBs (ps.take (k + 1)) (ls.take (k + 1))) := by unfold Hid; rw [Ht.out, ← hqs]; rfl
        have Hqs := hide hqs
        clear hqs
        have hbW : Below Wv.heap.size Wv (Wv.alloc (.cells #[.int .i64 x.f, .int .i64 x.t, .int .i64 l, .int .i64 x.t, .int .i64 x.f, .int .i64 (-l)] 73)).drew := by go_grown
        refine wp_regionE (fun w' => w'.cell? ⟨X, 1, none⟩ = some (.slice A1 L.length c1) ∧ w'.cell? ⟨V, 0, none⟩ = some (.int .i64 x.f) ∧ w'.cell? ⟨V, 1, none⟩ = some (.int .i64 x.t) ∧ w'.cell? ⟨b3, o3 + k, none⟩ = some (.int .i64 l)) 24 (by kernel_rfl) ?_
        change wpE _ _ _ _ _ _ 25 #[false, false, false, false, false, false, false, false, false, false, false, false, false, false, false, false, false, false, false, false, false, false, false, false, false] _ _
        have hS0 : Wv.drew.cell? ⟨X, 1, none⟩ = some (.slice A1 L.length c1) ∧ Wv.drew.cell? ⟨V, 0, none⟩ = some (.int .i64 x.f) ∧ Wv.drew.cell? ⟨V, 1, none⟩ = some (.int .i64 x.t) ∧ Wv.drew.cell? ⟨b3, o3 + k, none⟩ = some (.int .i64 l) := ⟨x1, v0, v1, l1⟩
        refine wpE_take' (v := ?_) 0 [1, 22, 24] (of_decide_eq_true (by kernel_rfl)) (by kernel_rfl) (by kernel_rfl) (by kernel_rfl) (by kernel_rfl) (fun _ _ _ h => h) (by kernel_rfl) ?_ hS0 ?_
        rotate_left
        · intro w' hSw
          simp only [List.getElem_toArray, List.getElem_cons_succ, List.getElem_cons_zero]
          go_simp
          all_goals with_reducible rfl
        simp only [List.getElem_toArray, List.getElem_cons_succ, List.getElem_cons_zero, Act.put, List.setIfInBounds_toArray, List.set_cons_zero, List.set_cons_succ]
        refine wpE_take' (v := ?_) 1 [22, 24] (of_decide_eq_true (by kernel_rfl)) (by kernel_rfl) (by kernel_rfl) (by kernel_rfl) (by kernel_rfl) (fun _ _ _ h => h) (by kernel_rfl) ?_ hS0 ?_
        rotate_left
        · intro w' hSw
          simp only [List.getElem_toArray, List.getElem_cons_succ, List.getElem_cons_zero]
          go_simp
          all_goals with_reducible rfl
        simp only [List.getElem_toArray, List.getElem_cons_succ, List.getElem_cons_zero, Act.put, List.setIfInBounds_toArray, List.set_cons_zero, List.set_cons_succ]
        refine wpE_take' (v := ?_) 2 [3, 10, 21, 22, 24] (of_decide_eq_true (by kernel_rfl)) (by kernel_rfl) (by kernel_rfl) (by kernel_rfl) (by kernel_rfl) (fun _ _ _ h => h) (by kernel_rfl) ?_ hS0 ?_
        rotate_left
        · intro w' hSw
          simp only [List.getElem_toArray, List.getElem_cons_succ, List.getElem_cons_zero]
          go_simp
          all_goals with_reducible rfl
        simp only [List.getElem_toArray, List.getElem_cons_succ, List.getElem_cons_zero, Act.put, List.setIfInBounds_toArray, List.set_cons_zero, List.set_cons_succ]
        refine wpE_take' (v := ?_) 3 [10, 21, 22, 24] (of_decide_eq_true (by kernel_rfl)) (by kernel_rfl) (by kernel_rfl) (by kernel_rfl) (by kernel_rfl) (fun _ _ _ h => h) (by kernel_rfl) ?_ hS0 ?_
        rotate_left
        · intro w' hSw
          simp only [List.getElem_toArray, List.getElem_cons_succ, List.getElem_cons_zero]
          go_simp
          all_goals with_reducible rfl
        simp only [List.getElem_toArray, List.getElem_cons_succ, List.getElem_cons_zero, Act.put, List.setIfInBounds_toArray, List.set_cons_zero, List.set_cons_succ]
        refine wpE_take' (v := ?_) 4 [5, 10, 21, 22, 24] (of_decide_eq_true (by kernel_rfl)) (by kernel_rfl) (by kernel_rfl) (by kernel_rfl) (by kernel_rfl) (fun _ _ _ h => h) (by kernel_rfl) ?_ hS0 ?_
        rotate_left
        · intro w' hSw
          simp only [List.getElem_toArray, List.getElem_cons_succ, List.getElem_cons_zero]
          go_simp
          all_goals with_reducible rfl
        simp only [List.getElem_toArray, List.getElem_cons_succ, List.getElem_cons_zero, Act.put, List.setIfInBounds_toArray, List.set_cons_zero, List.set_cons_succ]
        refine wpE_take' (v := ?_) 5 [10, 21, 22, 24] (of_decide_eq_true (by kernel_rfl)) (by kernel_rfl) (by kernel_rfl) (by kernel_rfl) (by kernel_rfl) (fun _ _ _ h => h) (by kernel_rfl) ?_ hS0 ?_
        rotate_left
        · intro w' hSw
          simp only [List.getElem_toArray, List.getElem_cons_succ, List.getElem_cons_zero]
          go_simp
          all_goals with_reducible rfl
        simp only [List.getElem_toArray, List.getElem_cons_succ, List.getElem_cons_zero, Act.put, List.setIfInBounds_toArray, List.set_cons_zero, List.set_cons_succ]
        refine wpE_take' (v := ?_) 6 [8, 9, 10, 21, 22, 24] (of_decide_eq_true (by kernel_rfl)) (by kernel_rfl) (by kernel_rfl) (by kernel_rfl) (by kernel_rfl) (fun _ _ _ h => h) (by kernel_rfl) ?_ hS0 ?_
        rotate_left
        · intro w' hSw
          simp only [List.getElem_toArray, List.getElem_cons_succ, List.getElem_cons_zero]
          go_simp
          all_goals with_reducible rfl
        simp only [List.getElem_toArray, List.getElem_cons_succ, List.getElem_cons_zero, Act.put, List.setIfInBounds_toArray, List.set_cons_zero, List.set_cons_succ]
        refine wpE_take' (v := ?_) 7 [8, 9, 10, 21, 22, 24] (of_decide_eq_true (by kernel_rfl)) (by kernel_rfl) (by kernel_rfl) (by kernel_rfl) (by kernel_rfl) (fun _ _ _ h => h) (by kernel_rfl) ?_ hS0 ?_
        rotate_left
        · intro w' hSw
          simp only [List.getElem_toArray, List.getElem_cons_succ, List.getElem_cons_zero]
          go_simp
          all_goals with_reducible rfl
        simp only [List.getElem_toArray, List.getElem_cons_succ, List.getElem_cons_zero, Act.put, List.setIfInBounds_toArray, List.set_cons_zero, List.set_cons_succ]
        refine wpE_take' (v := ?_) 8 [9, 10, 21, 22, 24] (of_decide_eq_true (by kernel_rfl)) (by kernel_rfl) (by kernel_rfl) (by kernel_rfl) (by kernel_rfl) (fun _ _ _ h => h) (by kernel_rfl) ?_ hS0 ?_
        rotate_left
        · intro w' hSw
          simp only [List.getElem_toArray, List.getElem_cons_succ, List.getElem_cons_zero]
          go_simp
          all_goals with_reducible rfl
        simp only [List.getElem_toArray, List.getElem_cons_succ, List.getElem_cons_zero, Act.put, List.setIfInBounds_toArray, List.set_cons_zero, List.set_cons_succ]
        refine wpE_take' (v := ?_) 9 [10, 21, 22, 24] (of_decide_eq_true (by kernel_rfl)) (by kernel_rfl) (by kernel_rfl) (by kernel_rfl) (by kernel_rfl) (fun _ _ _ h => h) (by kernel_rfl) ?_ hS0 ?_
        rotate_left
        · intro w' hSw
          simp only [List.getElem_toArray, List.getElem_cons_succ, List.getElem_cons_zero]
          go_simp
          all_goals with_reducible rfl
        simp only [List.getElem_toArray, List.getElem_cons_succ, List.getElem_cons_zero, Act.put, List.setIfInBounds_toArray, List.set_cons_zero, List.set_cons_succ]
        refine wpE_take' (v := ?_) 10 [21, 22, 24] (of_decide_eq_true (by kernel_rfl)) (by kernel_rfl) (by kernel_rfl) (by kernel_rfl) (by kernel_rfl) (fun _ _ _ h => h) (by kernel_rfl) ?_ hS0 ?_
        rotate_left
        · intro w' hSw
          simp only [List.getElem_toArray, List.getElem_cons_succ, List.getElem_cons_zero]
          go_simp
          all_goals with_reducible rfl
        simp only [List.getElem_toArray, List.getElem_cons_succ, List.getElem_cons_zero, Act.put, List.setIfInBounds_toArray, List.set_cons_zero, List.set_cons_succ]
        refine wpE_take' (v := ?_) 11 [12, 20, 21, 22, 24] (of_decide_eq_true (by kernel_rfl)) (by kernel_rfl) (by kernel_rfl) (by kernel_rfl) (by kernel_rfl) (fun _ _ _ h => h) (by kernel_rfl) ?_ hS0 ?_
        rotate_left
        · intro w' hSw
          simp only [List.getElem_toArray, List.getElem_cons_succ, List.getElem_cons_zero]
          go_simp
          all_goals with_reducible rfl
        simp only [List.getElem_toArray, List.getElem_cons_succ, List.getElem_cons_zero, Act.put, List.setIfInBounds_toArray, List.set_cons_zero, List.set_cons_succ]
        refine wpE_take' (v := ?_) 12 [20, 21, 22, 24] (of_decide_eq_true (by kernel_rfl)) (by kernel_rfl) (by kernel_rfl) (by kernel_rfl) (by kernel_rfl) (fun _ _ _ h => h) (by kernel_rfl) ?_ hS0 ?_
        rotate_left
        · intro w' hSw
          simp only [List.getElem_toArray, List.getElem_cons_succ, List.getElem_cons_zero]
          go_simp
          all_goals with_reducible rfl
        simp only [List.getElem_toArray, List.getElem_cons_succ, List.getElem_cons_zero, Act.put, List.setIfInBounds_toArray, List.set_cons_zero, List.set_cons_succ]
        refine wpE_take' (v := ?_) 13 [14, 20, 21, 22, 24] (of_decide_eq_true (by kernel_rfl)) (by kernel_rfl) (by kernel_rfl) (by kernel_rfl) (by kernel_rfl) (fun _ _ _ h => h) (by kernel_rfl) ?_ hS0 ?_
        rotate_left
        · intro w' hSw
          simp only [List.getElem_toArray, List.getElem_cons_succ, List.getElem_cons_zero]
          go_simp
          all_goals with_reducible rfl
        simp only [List.getElem_toArray, List.getElem_cons_succ, List.getElem_cons_zero, Act.put, List.setIfInBounds_toArray, List.set_cons_zero, List.set_cons_succ]
        refine wpE_take' (v := ?_) 14 [20, 21, 22, 24] (of_decide_eq_true (by kernel_rfl)) (by kernel_rfl) (by kernel_rfl) (by kernel_rfl) (by kernel_rfl) (fun _ _ _ h => h) (by kernel_rfl) ?_ hS0 ?_
        rotate_left
        · intro w' hSw
          simp only [List.getElem_toArray, List.getElem_cons_succ, List.getElem_cons_zero]
          go_simp
          all_goals with_reducible rfl
        simp only [List.getElem_toArray, List.getElem_cons_succ, List.getElem_cons_zero, Act.put, List.setIfInBounds_toArray, List.set_cons_zero, List.set_cons_succ]
        refine wpE_take' (v := ?_) 15 [17, 18, 19, 20, 21, 22, 24] (of_decide_eq_true (by kernel_rfl)) (by kernel_rfl) (by kernel_rfl) (by kernel_rfl) (by kernel_rfl) (fun _ _ _ h => h) (by kernel_rfl) ?_ hS0 ?_
        rotate_left
        · intro w' hSw
          simp only [List.getElem_toArray, List.getElem_cons_succ, List.getElem_cons_zero]
          go_simp
          all_goals with_reducible rfl
        simp only [List.getElem_toArray, List.getElem_cons_succ, List.getElem_cons_zero, Act.put, List.setIfInBounds_toArray, List.set_cons_zero, List.set_cons_succ]
        refine wpE_take' (v := ?_) 16 [17, 18, 19, 20, 21, 22, 24] (of_decide_eq_true (by kernel_rfl)) (by kernel_rfl) (by kernel_rfl) (by kernel_rfl) (by kernel_rfl) (fun _ _ _ h => h) (by kernel_rfl) ?_ hS0 ?_
        rotate_left
        · intro w' hSw
          simp only [List.getElem_toArray, List.getElem_cons_succ, List.getElem_cons_zero]
          go_simp
          all_goals with_reducible rfl
        simp only [List.getElem_toArray, List.getElem_cons_succ, List.getElem_cons_zero, Act.put, List.setIfInBounds_toArray, List.set_cons_zero, List.set_cons_succ]
        refine wpE_take' (v := ?_) 17 [18, 19, 20, 21, 22, 24] (of_decide_eq_true (by kernel_rfl)) (by kernel_rfl) (by kernel_rfl) (by kernel_rfl) (by kernel_rfl) (fun _ _ _ h => h) (by kernel_rfl) ?_ hS0 ?_
        rotate_left
        · intro w' hSw
          simp only [List.getElem_toArray, List.getElem_cons_succ, List.getElem_cons_zero]
          go_simp
          all_goals with_reducible rfl
        simp only [List.getElem_toArray, List.getElem_cons_succ, List.getElem_cons_zero, Act.put, List.setIfInBounds_toArray, List.set_cons_zero, List.set_cons_succ]
        refine wpE_take' (v := ?_) 18 [19, 20, 21, 22, 24] (of_decide_eq_true (by kernel_rfl)) (by kernel_rfl) (by kernel_rfl) (by kernel_rfl) (by kernel_rfl) (fun _ _ _ h => h) (by kernel_rfl) ?_ hS0 ?_
        rotate_left
        · intro w' hSw
          simp only [List.getElem_toArray, List.getElem_cons_succ, List.getElem_cons_zero]
          go_simp
          all_goals with_reducible rfl
        simp only [List.getElem_toArray, List.getElem_cons_succ, List.getElem_cons_zero, Act.put, List.setIfInBounds_toArray, List.set_cons_zero, List.set_cons_succ]
        refine wpE_take' (v := ?_) 19 [20, 21, 22, 24] (of_decide_eq_true (by kernel_rfl)) (by kernel_rfl) (by kernel_rfl) (by kernel_rfl) (by kernel_rfl) (fun _ _ _ h => h) (by kernel_rfl) ?_ hS0 ?_
        rotate_left
        · intro w' hSw
          simp only [List.getElem_toArray, List.getElem_cons_succ, List.getElem_cons_zero]
          go_simp
          all_goals with_reducible rfl
        simp only [List.getElem_toArray, List.getElem_cons_succ, List.getElem_cons_zero, Act.put, List.setIfInBounds_toArray, List.set_cons_zero, List.set_cons_succ]
        refine wpE_take' (v := ?_) 20 [21, 22, 24] (of_decide_eq_true (by kernel_rfl)) (by kernel_rfl) (by kernel_rfl) (by kernel_rfl) (by kernel_rfl) (fun _ _ _ h => h) (by kernel_rfl) ?_ hS0 ?_
        rotate_left
        · intro w' hSw
          simp only [List.getElem_toArray, List.getElem_cons_succ, List.getElem_cons_zero]
          go_simp
          all_goals with_reducible rfl
        simp only [List.getElem_toArray, List.getElem_cons_succ, List.getElem_cons_zero, Act.put, List.setIfInBounds_toArray, List.set_cons_zero, List.set_cons_succ]
        refine wpE_step' 21 (of_decide_eq_true (by kernel_rfl)) (by kernel_rfl) (by kernel_rfl) (fun K hK => ?_)
        simp only [List.getElem_toArray, List.getElem_cons_succ, List.getElem_cons_zero]
        go_simp
        refine hK.out _ _ (.inr ?_) ?_
        · exact ⟨((bcell hbW).1 _ _ hXl).trans x1, ((bcell hbW).1 _ _ hVl).trans v0, ((bcell hbW).1 _ _ hVl).trans v1, ((bcell hbW).1 _ _ hlbv).trans l1⟩
        clear hK K
        simp only [Act.put, List.setIfInBounds_toArray, List.set_cons_zero, List.set_cons_succ]
        refine wpE_step' 22 (of_decide_eq_true (by kernel_rfl)) (by kernel_rfl) (by kernel_rfl) (fun K hK => ?_)
        simp only [List.getElem_toArray, List.getElem_cons_succ, List.getElem_cons_zero]
        have hOw := hO.below hbW
        refine app_wp _ (.tmp 29) (.tmp 49) _ rfl w.heap.size 73 i0 _ 3 24 Try.underlying23 hi0 hz0 hz1 hz2 rfl (by omega) (.slice A1 L.length c1) L.length (bdCs L) rfl hOw.x.own _ 2 _ [.int .i64 x.f, .int .i64 x.t, .int .i64 l, .int .i64 x.t, .int .i64 x.f, .int .i64 (-l)] rfl rfl (NewsAt.block (cs := #[.int .i64 x.f, .int .i64 x.t, .int .i64 l, .int .i64 x.t, .int .i64 x.f, .int .i64 (-l)]) (at_new (w := Wv) rfl)) (by simp [Value.oneCell']) (by omega) (by omega) hOw.d.bel.size ?_
        intro A5 c5 w5 hown5 hg5 hat5
        have hown6 : OwnB w.heap.size w5 (.slice A5 (L.length + 2) c5) qs := by rw [← Hqs.out]; unfold OwnB; rw [bdCs_append]; simpa [bdCs] using hown5
        obtain ⟨y1, yf1, hO6⟩ := OP.app hOw hg5 (L.length + 2) hqsl2.out hown6 hat5
        have hVr : some V ≠ (Value.slice A1 L.length c1).ownBlock := fun e => by have := hrV _ e.symm; omega
        have hbr : some b3 ≠ (Value.slice A1 L.length c1).ownBlock := fun e => by have := hrV _ e.symm; omega
        have hS1 : w5.cell? ⟨X, 1, none⟩ = some (.slice A1 L.length c1) ∧ w5.cell? ⟨V, 0, none⟩ = some (.int .i64 x.f) ∧ w5.cell? ⟨V, 1, none⟩ = some (.int .i64 x.t) ∧ w5.cell? ⟨b3, o3 + k, none⟩ = some (.int .i64 l) := ⟨y1, hg5.cell (((bcell hbW).1 _ _ hVl).trans v0) hVr, hg5.cell (((bcell hbW).1 _ _ hVl).trans v1) hVr, hg5.cell (((bcell hbW).1 _ _ hlbv).trans l1) hbr⟩
        refine hK.out _ _ (.inr hS1) ?_
        clear hK K hS0
        have hS0 := hS1
        clear hS1
        simp only [Act.put, List.setIfInBounds_toArray, List.set_cons_zero, List.set_cons_succ]
        refine wpE_take' (v := ?_) 23 [24] (of_decide_eq_true (by kernel_rfl)) (by kernel_rfl) (by kernel_rfl) (by kernel_rfl) (by kernel_rfl) (fun _ _ _ h => h) (by kernel_rfl) ?_ hS0 ?_
        rotate_left
        · intro w' hSw
          simp only [List.getElem_toArray, List.getElem_cons_succ, List.getElem_cons_zero]
          go_simp
          all_goals with_reducible rfl
        simp only [List.getElem_toArray, List.getElem_cons_succ, List.getElem_cons_zero, Act.put, List.setIfInBounds_toArray, List.set_cons_zero, List.set_cons_succ]
        refine wpE_step' 24 (of_decide_eq_true (by kernel_rfl)) (by kernel_rfl) (by kernel_rfl) (fun K hK => ?_)
        simp only [List.getElem_toArray, List.getElem_cons_succ, List.getElem_cons_zero]
        go_simp
        refine hK.out _ _ (.inl rfl) ?_
        clear hK K
        simp only [Act.put, List.setIfInBounds_toArray, List.set_cons_zero, List.set_cons_succ]
        refine wpE_done (by kernel_rfl) ?_ _
        clear hOw hO hbW hS0 y1 yf1 hown5 hown6 hg5 hat5
        generalize w5.setCell ⟨X, 1, none⟩ (.slice A5 (L.length + 2) c5) = W6 at hO6 ⊢
        go_wp2_with fail
        go_roundg (ls.length - (k + 1))
        case measure => go_light; omega
        case rel => go_light; exact ⟨k + 1, qs, A5, c5, by omega, rfl, by go_num, HN, hqsl, hO6⟩
      · obtain rfl : k = ls.length := by omega
        have e : L = rs := by rw [HL.out, List.take_length, forBs_take, Hq.out]
        subst e
        have x0 := hO.x.c0
        have x1 := hO.x.c1
        have y0 := hO.x.z.z0
        have y1 := hO.x.z.z1
        have yf0 := hO.x.z.zf 0
        have yf1 := hO.x.z.zf 1
        go_wp2_with fail
        obtain ⟨r0, r1, ho2, hb7⟩ := hO.x.z.fin (n := n) hO.x.bel hO.x.own hO.x.neY
        refine bodyPost_ret (v := .agg #[.int .i64 n, .slice A1 L.length c1]) (by simp [results, Try.results59, go_sem, r0, r1]) rfl ?_
        obtain ⟨g, hr⟩ := OwnB.readsA ho2
        first | exact ⟨A1, c1, g, rfl, hr, ho2, hb7⟩ | exact ⟨A1, c1, rfl, ⟨g, hr⟩, ho2, hb7⟩
end Go.Proofs.Ytdijfkpccbkdfaa
