/-
  spec.l7Way, spec.WayOf.
-/
import Derived.Test.YtledgblepdjjlaaS50
import Derived.Test.YtledgblepdjjlaaL11a
import Derived.Test.YtledgblepdjjlaaZ1
namespace Go.Proofs.Ytledgblepdjjlaa
set_option linter.unusedVariables false
set_option linter.unusedSimpArgs false
open Go.RowKit Pp

section
variable {w0 W W' : World} {X Y : Nat} {n : Int} {A1 A' A2 : Option Addr} {c1 c' m c2 : Nat} {L L' : List Bd}
/-- While a way's plan is made: the case's box, the result's box, the plan's box. -/
structure OC (w0 W : World) (X Y : Nat) (n : Int) (A1 : Option Addr) (c1 : Nat) (L : List Bd) (A2 : Option Addr) (m c2 : Nat) : Prop where
  x : OX w0 W Y X n A1 c1 L
  dx : w0.heap.size < W.heap.size
  d2 : W.cell? ⟨w0.heap.size, 2, none⟩ = some (.slice A2 m c2)
  ne : (Value.slice A1 L.length c1).ownBlock ≠ some w0.heap.size
  hx : w0.heap.size < X
theorem OC.below (h : OC w0 W X Y n A1 c1 L A2 m c2) (hb : Below W.heap.size W W') : OC w0 W' X Y n A1 c1 L A2 m c2 := ⟨h.x.below hb, Nat.lt_of_lt_of_le h.dx hb.size, ((bcell hb).1 _ _ h.dx).trans h.d2, h.ne, h.hx⟩
theorem OC.app (h : OC w0 W X Y n A1 c1 L A2 m c2) (hg : W.grownBy W' (Value.slice A1 L.length c1).ownBlock) (len : Nat) (hlen : L'.length = len) (hown : OwnB w0.heap.size W' (.slice A' len c') L')
    (hat : (Value.slice A' len c').ownBlock = (Value.slice A1 L.length c1).ownBlock ∨ (Value.slice A' len c').ownBlock = some W.heap.size) :
    W'.cell? ⟨X, 1, none⟩ = some (.slice A1 L.length c1) ∧ W'.frozen? ⟨X, 1, none⟩ = false ∧ W'.cell? ⟨w0.heap.size, 2, none⟩ = some (.slice A2 m c2) ∧ OC w0 (W'.setCell ⟨X, 1, none⟩ (.slice A' len c')) X Y n A' c' L' A2 m c2 := by
  subst hlen
  have hr : ∀ q, (Value.slice A1 L.length c1).ownBlock = some q → w0.heap.size ≤ q := fun q hq => (h.x.own.lt q hq).1
  have hXr : some X ≠ (Value.slice A1 L.length c1).ownBlock := fun e => h.x.neX e.symm
  have k0 := hg.cell h.x.c0 hXr
  have k1 := hg.cell h.x.c1 hXr
  have k2 := hg.cell h.d2 (fun e => h.ne e.symm)
  have kf : ∀ i, W'.frozen? ⟨X, i, none⟩ = false := fun i => (hg.frozen_far ⟨X, i, none⟩ h.x.ex hXr).trans (h.x.cf i)
  have hbel : Below w0.heap.size w0 W' := below_app h.x.bel h.x.own hg (Nat.le_refl _) h.x.bel.size
  have hz2 : ZB w0 W' Y := h.x.z.grown hg (fun q hq e => h.x.neY (e ▸ hq))
  have hsz : ∀ z, z < W.heap.size → (Value.slice A1 L.length c1).ownBlock ≠ some z → (Value.slice A' L'.length c').ownBlock ≠ some z := fun z hz hn e => by
    rcases hat with h1 | h1
    · rw [h1] at e; exact hn e
    · rw [h1] at e; have := Option.some.inj e; omega
  have nX := hsz X h.x.ex h.x.neX
  have nY := hsz Y h.x.z.ex h.x.neY
  have nD := hsz _ h.dx h.ne
  have hxx := h.hx
  have hxy := h.x.xy
  refine ⟨k1, kf 1, k2, ⟨hbel.setCell (p := ⟨X, 1, none⟩) h.x.lo _, hz2.grown (grown_set W' ⟨X, 1, none⟩ _) (fun q hq => by cases hq; dsimp only; omega), h.x.xy, h.x.lo, by simpa using Nat.lt_of_lt_of_le h.x.ex hg.size, ?_, World.cell?_setCell_same _ _ _ k1, fun i => ?_, own_set hown (p := ⟨X, 1, none⟩) nX _, nY, nX⟩, by simpa using Nat.lt_of_lt_of_le h.dx hg.size, (set_other (by dsimp only; omega)).trans k2, nD, h.hx⟩
  · rw [World.cell?_setCell_other _ _ _ _ (by simp)]; exact k0
  · rw [← kf i]; simp
end

set_option maxHeartbeats 4000000 in
set_option maxRecDepth 100000 in
theorem l7Way_q (n : Int) (bs : List Bd) (cs : List (List Bd)) (ks : List Int) (hlb : bs.length ≤ 12) (hlc : cs.length ≤ 4) (hlk : ks.length ≤ cs.length) (hn3 : ∀ l ∈ cs, l.length ≤ 2000000) (hv : ∀ (i : Nat) (l : List Bd) (k : Int), cs[i]? = some l → ks[i]? = some k → 0 ≤ k ∧ k ≤ (l.length : Int) - 1) (rs : List Bd) (hq : bs ++ picked cs ks = rs)
    (A A2 A3 : Option Addr) (b o c b2 o2 c2 b3 o3 c3 B : Nat) (w : World) (hB : B ≤ w.heap.size) (hR : BdsR w B b o A bs) (hC : ChR w B b2 o2 A2 cs) (hK : IntsR w B b3 o3 A3 ks) :
    Calls Try.prog 67 #[.agg #[.int .i64 n, .slice A bs.length c, .slice A2 cs.length c2], .slice A3 ks.length c3] w fun e w' => ∃ A1 c1 g1, e = .returned (.agg #[.int .i64 n, .slice A1 rs.length c1]) ∧
      BdsR w' w'.heap.size g1 0 A1 rs ∧ OwnB w.heap.size w' (.slice A1 rs.length c1) rs ∧ Below w.heap.size w w' := by
  obtain ⟨i0, hi0, hz0, hz1, hz2⟩ := info_parts infoB
  have hP2 := (cc_new (n := n) (c := c) (c2 := c2) (t := 37) hB hR hC).alloc (.cells #[.int .i64 0, .slice none 0 0] 32)
  have hZ2 : ZB w ((w.alloc (.cells #[.int .i64 n, .slice A bs.length c, .slice A2 cs.length c2] 37)).alloc (.cells #[.int .i64 0, .slice none 0 0] 32)) (w.heap.size + 1) := by
    have h : ZB w ((w.alloc (.cells #[.int .i64 n, .slice A bs.length c, .slice A2 cs.length c2] 37)).alloc (.cells #[.int .i64 0, .slice none 0 0] 32)) (w.alloc (.cells #[.int .i64 n, .slice A bs.length c, .slice A2 cs.length c2] 37)).heap.size := zb_new (by simp)
    simpa using h
  have Hv := hide hv
  have H3 := hide hn3
  have Hq := hide hq
  clear hR hv hq hn3
  go_enter Try.func67, Try.ntmps67
  go_upto_region 1 with fail
  have hw12 : w.heap.size + 1 < ((w.alloc (.cells #[.int .i64 n, .slice A bs.length c, .slice A2 cs.length c2] 37)).alloc (.cells #[.int .i64 0, .slice none 0 0] 32)).heap.size := by simp
  generalize (w.alloc (.cells #[.int .i64 n, .slice A bs.length c, .slice A2 cs.length c2] 37)).alloc (.cells #[.int .i64 0, .slice none 0 0] 32) = w2 at hP2 hZ2 hw12 ⊢
  have hXY : w.heap.size < w.heap.size + 1 := by omega
  generalize w.heap.size + 1 = Y at hZ2 hXY hw12 ⊢
  have q0 := hP2.r.c0
  have q1 := hP2.r.c1
  have q2 := hP2.r.c2
  have qx := hP2.r.ex
  have hP20 := hP2.bel.size
  have hY2 := hZ2.ex
  go_cut [5] (fun s wx => ∃ X A1 c1, s = .pointer (some ⟨X, 0, none⟩) ∧ OC w wx X Y n A1 c1 bs A2 cs.length c2)
  case first =>
    go_region_held3 (fun w' => w'.cell? ⟨w.heap.size, 0, none⟩ = some (.int .i64 n) ∧ w'.cell? ⟨w.heap.size, 1, none⟩ = some (.slice A bs.length c))
      (first
        | (go_split_ands; (repeat' apply And.intro) <;> first | assumption | exact (set_other (by dsimp only; omega)).trans ((set_other (by dsimp only; omega)).trans (by assumption)) | exact (World.cell?_alloc_past _ _ _ (by first | omega | (simp only [World.size_alloc, World.size_drew]; done) | (simp only [World.size_alloc, World.size_drew]; omega))).trans (by assumption) | exact (World.cell?_alloc_past _ _ _ (by first | omega | (simp only [World.size_alloc, World.size_drew]; done) | (simp only [World.size_alloc, World.size_drew]; omega))).trans ((World.cell?_alloc_past _ _ _ (by first | omega | (simp only [World.size_alloc, World.size_drew]; done) | (simp only [World.size_alloc, World.size_drew]; omega))).trans (by assumption)))
        | (go_keep; done))
      (first
        | (refine app_step _ rfl (.tmp 10) (.tmp 13) _ rfl w2.heap.size 66 i0 _ 3 24 Try.underlying30 hi0 hz0 hz1 hz2 rfl (by omega) (.slice (some ⟨w2.heap.size + 1, 0, none⟩) 0 0) 0 [] (Eq.refl _) ?_ A bs.length c (bdCs bs) (Eq.refl _) (bdCs_length bs) ?_ (bdCs_one bs) (by omega) (by omega) ?_ ?_
           · exact own_empty (at_new (w := w2.alloc (.cells #[.int .i64 0, .slice none 0 0] 32)) (by simp)) (by omega)
           · exact (hP2.r.rd.below (show Below w2.heap.size w2 _ by go_grown)).news
           · exact (by first | omega | (simp only [World.size_alloc, World.size_drew]; done) | (simp only [World.size_alloc, World.size_drew]; omega))
           intro A4 c4 w4 hown4 hg4 hat4
           simp only [Nat.zero_add, List.nil_append] at hown4 hat4 ⊢
           have hb4 : Below w2.heap.size w2 w4 := (show Below w2.heap.size w2 _ by go_grown).grown hg4 (by first | omega | (simp only [World.size_alloc, World.size_drew]; done) | (simp only [World.size_alloc, World.size_drew]; omega)) (fun q hq => by have e := Option.some.inj hq; subst e; dsimp only; omega)
           have hZ4 := hZ2.below hb4
           have hqY : (Value.slice A4 bs.length c4).ownBlock ≠ some Y := (fun e => by have := (hown4.lt _ e).1; omega)
           have hqD : (Value.slice A4 bs.length c4).ownBlock ≠ some w.heap.size := (fun e => by have := (hown4.lt _ e).1; omega)
           have hqN := (fun q (e : (Value.slice A4 bs.length c4).ownBlock = some q) => (hown4.lt q e).2)
           have hc4 := (bcell hb4).1
           have k0 := (hc4 _ 0 qx).trans q0
           have k1 := (hc4 _ 1 qx).trans q1
           have Hc4 := hide hc4
           clear hc4
           have hqX : (Value.slice A4 bs.length c4).ownBlock ≠ some (w2.heap.size) := (fun e => by rcases hat4 with h | h <;> rw [h] at e <;> (have e2 := Option.some.inj e; (try simp only [World.size_alloc, World.size_drew] at e2); (try dsimp only at e2); omega)); have hX := ZB.grown (((zb_at (w0 := w) (W := w2) (X := w2.heap.size) (t := 32) rfl hP20).alloc _).drew) hg4 (fun q hq => by have e := Option.some.inj hq; subst e; dsimp only; omega); have x0 := hX.z0; have x1 := hX.z1; have xf0 := hX.zf 0; have xf1 := hX.zf 1)
        | (refine app_step _ rfl (.tmp 10) (.tmp 13) _ rfl w2.heap.size 66 i0 _ 3 24 Try.underlying30 hi0 hz0 hz1 hz2 rfl (by omega) (.slice (some ⟨w2.heap.size, 0, none⟩) 0 0) 0 [] (Eq.refl _) ?_ A bs.length c (bdCs bs) (Eq.refl _) (bdCs_length bs) ?_ (bdCs_one bs) (by omega) (by omega) ?_ ?_
           · exact own_empty (at_old (at_new (w := w2) rfl)) (by omega)
           · exact (hP2.r.rd.below (show Below w2.heap.size w2 _ by go_grown)).news
           · exact (by first | omega | (simp only [World.size_alloc, World.size_drew]; done) | (simp only [World.size_alloc, World.size_drew]; omega))
           intro A4 c4 w4 hown4 hg4 hat4
           simp only [Nat.zero_add, List.nil_append] at hown4 hat4 ⊢
           have hb4 : Below w2.heap.size w2 w4 := (show Below w2.heap.size w2 _ by go_grown).grown hg4 (by first | omega | (simp only [World.size_alloc, World.size_drew]; done) | (simp only [World.size_alloc, World.size_drew]; omega)) (fun q hq => by have e := Option.some.inj hq; subst e; dsimp only; omega)
           have hZ4 := hZ2.below hb4
           have hqY : (Value.slice A4 bs.length c4).ownBlock ≠ some Y := (fun e => by have := (hown4.lt _ e).1; omega)
           have hqD : (Value.slice A4 bs.length c4).ownBlock ≠ some w.heap.size := (fun e => by have := (hown4.lt _ e).1; omega)
           have hqN := (fun q (e : (Value.slice A4 bs.length c4).ownBlock = some q) => (hown4.lt q e).2)
           have hc4 := (bcell hb4).1
           have k0 := (hc4 _ 0 qx).trans q0
           have k1 := (hc4 _ 1 qx).trans q1
           have Hc4 := hide hc4
           clear hc4
           have hqX : (Value.slice A4 bs.length c4).ownBlock ≠ some (w2.heap.size + 1) := (fun e => by rcases hat4 with h | h <;> rw [h] at e <;> (have e2 := Option.some.inj e; (try simp only [World.size_alloc, World.size_drew] at e2); (try dsimp only at e2); omega)); have hX := ZB.grown ((zb_at (w0 := w) (W := w2.alloc (.cells #[] 66)) (X := w2.heap.size + 1) (t := 32) (by simp) (by simp; omega)).drew) hg4 (fun q hq => by have e := Option.some.inj hq; subst e; dsimp only; omega); have x0 := hX.z0; have x1 := hX.z1; have xf0 := hX.zf 0; have xf1 := hX.zf 1)
        | (refine app_step _ rfl (.tmp 10) (.tmp 13) _ rfl w2.heap.size 66 i0 _ 3 24 Try.underlying30 hi0 hz0 hz1 hz2 rfl (by omega) (.slice (some ⟨w2.heap.size, 0, none⟩) 0 0) 0 [] (Eq.refl _) ?_ A bs.length c (bdCs bs) (Eq.refl _) (bdCs_length bs) ?_ (bdCs_one bs) (by omega) (by omega) ?_ ?_
           · exact own_empty (at_new (w := w2) rfl) (by omega)
           · exact (hP2.r.rd.below (show Below w2.heap.size w2 _ by go_grown)).news
           · exact (by first | omega | (simp only [World.size_alloc, World.size_drew]; done) | (simp only [World.size_alloc, World.size_drew]; omega))
           intro A4 c4 w4 hown4 hg4 hat4
           simp only [Nat.zero_add, List.nil_append] at hown4 hat4 ⊢
           have hb4 : Below w2.heap.size w2 w4 := (show Below w2.heap.size w2 _ by go_grown).grown hg4 (by first | omega | (simp only [World.size_alloc, World.size_drew]; done) | (simp only [World.size_alloc, World.size_drew]; omega)) (fun q hq => by have e := Option.some.inj hq; subst e; dsimp only; omega)
           have hZ4 := hZ2.below hb4
           have hqY : (Value.slice A4 bs.length c4).ownBlock ≠ some Y := (fun e => by have := (hown4.lt _ e).1; omega)
           have hqD : (Value.slice A4 bs.length c4).ownBlock ≠ some w.heap.size := (fun e => by have := (hown4.lt _ e).1; omega)
           have hqN := (fun q (e : (Value.slice A4 bs.length c4).ownBlock = some q) => (hown4.lt q e).2)
           have hc4 := (bcell hb4).1
           have k0 := (hc4 _ 0 qx).trans q0
           have k1 := (hc4 _ 1 qx).trans q1
           have Hc4 := hide hc4
           clear hc4
           skip))
    all_goals (
      go_wp2_with fail
      go_meet
      case rel =>
        first
          | (have hO := ox_put (n := n) (bthen hP2.bel hb4) hZ4 hX (by omega) (own_less hown4 hP20) hqY hqX
             exact ⟨_, A4, c4, rfl, hO, (by have := hb4.size; simp; omega), (set_other (by dsimp only; omega)).trans ((set_other (by dsimp only; omega)).trans ((Hc4.out _ 2 qx).trans q2)), hqD, by omega⟩)
          | (have hO := ox_new (n := n) (t := 32) (bthen hP2.bel hb4) hZ4 (own_less hown4 hP20) hqY
             exact ⟨_, A4, c4, rfl, hO, (by have := hb4.size; simp; omega), (World.cell?_alloc_past _ _ _ (by have := hb4.size; omega)).trans ((Hc4.out _ 2 qx).trans q2), hqD, by have := hb4.size; omega⟩))
  case rest =>
    obtain ⟨X, A1, c1, rfl, hO⟩ := hcut
    clear hP2 hZ2 q0 q1 q2 qx
    go_upto_region 3 with fail
    go_loopg [6] ks.length (fun gh i wr => ∃ (k : Nat) (L : List Bd) (A1 : Option Addr) (c1 : Nat), k ≤ ks.length ∧ gh = ks.length - k ∧ i = .int .i64 k ∧ Hid (L = bs ++ picked cs (ks.take k)) ∧ L.length ≤ 12 + k ∧ OC w wr X Y n A1 c1 L A2 cs.length c2)
    case atStart => exact ⟨0, bs, A1, c1, Nat.zero_le _, rfl, rfl, by cases cs <;> simp [Hid, picked], by omega, hO⟩
    case round =>
      clear hO
      obtain ⟨k, L, A1, c1, hk, rfl, rfl, HL, hLk, hO⟩ := hrel
      have d2 := hO.d2
      by_cases hlt : k < ks.length
      · have hlt' : (k : Int) < (ks.length : Int) := by omega
        have hltc : k < cs.length := by omega
        have hltc' : (k : Int) < (cs.length : Int) := by omega
        have hwW := hO.x.bel
        have hKr := (hK.below (hwW.mono hB)).more (Nat.le_trans hB hwW.size)
        have hCr := (hC.below (hwW.mono hB)).more (Nat.le_trans hB hwW.size)
        have hl3 : b3 < w.heap.size := Nat.lt_of_lt_of_le (hK.lt (by omega)) hB
        have hl2 : b2 < w.heap.size := Nat.lt_of_lt_of_le (hC.lt (by omega)) hB
        obtain rfl := hKr.addr (by omega)
        obtain rfl := hCr.addr (by omega)
        have hx := List.getElem?_eq_getElem hlt
        have hxc := List.getElem?_eq_getElem hltc
        have k0 := hKr.cell k hlt
        rw [List.getD_eq_getElem?_getD, hx] at k0
        dsimp only [Option.getD_some] at k0
        obtain ⟨A4, b4, o4, c4, r0, hrd0⟩ := hC.row k _ hxc
        have hrd := (hrd0.below (hwW.mono hB)).more (Nat.le_trans hB hwW.size)
        have r0' := (hwW.cell (p := ⟨b2, o2 + k, none⟩) hl2).trans r0
        have hl33 : cs[k].length ≤ 2000000 := H3.out _ (List.getElem_mem hltc)
        have hvk := Hv.out k _ _ hxc hx
        have HT : Hid (picked cs (ks.take (k + 1)) = picked cs (ks.take k) ++ [pickAt cs[k] ks[k]]) := picked_take hxc hx
        generalize ks[k] = v at hx k0 HT hvk
        generalize cs[k] = l at hxc r0 r0' hrd hrd0 hl33 HT hvk
        clear hx hxc hKr hCr r0
        obtain ⟨j, rfl⟩ : ∃ j : Nat, v = (j : Int) := Int.eq_ofNat_of_zero_le hvk.1
        have hjl : j < l.length := by omega
        have hjl' : (j : Int) < (l.length : Int) := by omega
        have hbj := List.getElem?_eq_getElem hjl
        have d0' := hrd.c0 j _ hbj
        have d1' := hrd.c1 j _ hbj
        have d2' := hrd.c2 j _ hbj
        obtain rfl := hrd.addr (by omega)
        have hb4l : b4 < w.heap.size := Nat.lt_of_lt_of_le (hrd0.lt (by omega)) hB
        have HT2 : Hid (bs ++ picked cs (ks.take (k + 1)) = L ++ [l[j]]) := by
          unfold Hid
          rw [HT.out, HL.out, List.append_assoc]
          have : pickAt l (j : Int) = l[j] := by unfold pickAt; rw [Int.toNat_natCast, List.getD_eq_getElem?_getD, hbj]; rfl
          rw [this]
        generalize l[j] = x at hbj d0' d1' d2' HT2
        clear hbj hvk HT hrd hrd0
        go_upto_region 5 with fail
        have x1 := hO.x.c1
        have hXl := hO.x.ex
        have hDl := hO.dx
        obtain ⟨qs, hqs⟩ : ∃ qs, L ++ [x] = qs := ⟨_, rfl⟩
        have hqsl : qs.length ≤ 12 + (k + 1) := by rw [← hqs]; simp; omega
        have hqsl2 : Hid (qs.length = L.length + 1) := by rw [← hqs]; simp [Hid]
        have HN : Hid (qs = bs ++ picked cs (ks.take (k + 1))) := by unfold Hid; rw [HT2.out, ← hqs]
        have Hqs := hide hqs
        have hws := hwW.size
        clear hqs HT2
        have hbW : Below wr.heap.size wr (wr.alloc (.cells #[.int .i64 x.f, .int .i64 x.t, .int .i64 x.m] 66)).drew := by go_grown
        refine wp_regionE (fun w' => w'.cell? ⟨X, 1, none⟩ = some (.slice A1 L.length c1) ∧ w'.cell? ⟨w.heap.size, 2, none⟩ = some (.slice (some ⟨b2, o2, none⟩) cs.length c2) ∧ w'.cell? ⟨b2, o2 + k, none⟩ = some (.slice (some ⟨b4, o4, none⟩) l.length c4) ∧ w'.cell? ⟨b3, o3 + k, none⟩ = some (.int .i64 (j : Int)) ∧ w'.cell? ⟨b4, o4 + j * 3, none⟩ = some (.int .i64 x.f) ∧ w'.cell? ⟨b4, o4 + j * 3 + 1, none⟩ = some (.int .i64 x.t) ∧ w'.cell? ⟨b4, o4 + j * 3 + 2, none⟩ = some (.int .i64 x.m)) 16 (by kernel_rfl) ?_
        change wpE _ _ _ _ _ _ 17 #[false, false, false, false, false, false, false, false, false, false, false, false, false, false, false, false, false] _ _
        have hS0 : wr.drew.cell? ⟨X, 1, none⟩ = some (.slice A1 L.length c1) ∧ wr.drew.cell? ⟨w.heap.size, 2, none⟩ = some (.slice (some ⟨b2, o2, none⟩) cs.length c2) ∧ wr.drew.cell? ⟨b2, o2 + k, none⟩ = some (.slice (some ⟨b4, o4, none⟩) l.length c4) ∧ wr.drew.cell? ⟨b3, o3 + k, none⟩ = some (.int .i64 (j : Int)) ∧ wr.drew.cell? ⟨b4, o4 + j * 3, none⟩ = some (.int .i64 x.f) ∧ wr.drew.cell? ⟨b4, o4 + j * 3 + 1, none⟩ = some (.int .i64 x.t) ∧ wr.drew.cell? ⟨b4, o4 + j * 3 + 2, none⟩ = some (.int .i64 x.m) := ⟨x1, d2, r0', k0, d0', d1', d2'⟩
        refine wpE_take' (v := ?_) 0 [16] (of_decide_eq_true (by kernel_rfl)) (by kernel_rfl) (by kernel_rfl) (by kernel_rfl) (by kernel_rfl) (fun _ _ _ h => h) (by kernel_rfl) ?_ hS0 ?_
        rotate_left
        · intro w' hSw
          simp only [List.getElem_toArray, List.getElem_cons_succ, List.getElem_cons_zero]
          go_simp
          all_goals with_reducible rfl
        simp only [List.getElem_toArray, List.getElem_cons_succ, List.getElem_cons_zero, Act.put, List.setIfInBounds_toArray, List.set_cons_zero, List.set_cons_succ]
        refine wpE_take' (v := ?_) 1 [16] (of_decide_eq_true (by kernel_rfl)) (by kernel_rfl) (by kernel_rfl) (by kernel_rfl) (by kernel_rfl) (fun _ _ _ h => h) (by kernel_rfl) ?_ hS0 ?_
        rotate_left
        · intro w' hSw
          simp only [List.getElem_toArray, List.getElem_cons_succ, List.getElem_cons_zero]
          go_simp
          all_goals with_reducible rfl
        simp only [List.getElem_toArray, List.getElem_cons_succ, List.getElem_cons_zero, Act.put, List.setIfInBounds_toArray, List.set_cons_zero, List.set_cons_succ]
        refine wpE_take' (v := ?_) 2 [16] (of_decide_eq_true (by kernel_rfl)) (by kernel_rfl) (by kernel_rfl) (by kernel_rfl) (by kernel_rfl) (fun _ _ _ h => h) (by kernel_rfl) ?_ hS0 ?_
        rotate_left
        · intro w' hSw
          simp only [List.getElem_toArray, List.getElem_cons_succ, List.getElem_cons_zero]
          go_simp
          all_goals with_reducible rfl
        simp only [List.getElem_toArray, List.getElem_cons_succ, List.getElem_cons_zero, Act.put, List.setIfInBounds_toArray, List.set_cons_zero, List.set_cons_succ]
        refine wpE_take' (v := ?_) 3 [16] (of_decide_eq_true (by kernel_rfl)) (by kernel_rfl) (by kernel_rfl) (by kernel_rfl) (by kernel_rfl) (fun _ _ _ h => h) (by kernel_rfl) ?_ hS0 ?_
        rotate_left
        · intro w' hSw
          simp only [List.getElem_toArray, List.getElem_cons_succ, List.getElem_cons_zero]
          go_simp
          all_goals with_reducible rfl
        simp only [List.getElem_toArray, List.getElem_cons_succ, List.getElem_cons_zero, Act.put, List.setIfInBounds_toArray, List.set_cons_zero, List.set_cons_succ]
        refine wpE_take' (v := ?_) 4 [16] (of_decide_eq_true (by kernel_rfl)) (by kernel_rfl) (by kernel_rfl) (by kernel_rfl) (by kernel_rfl) (fun _ _ _ h => h) (by kernel_rfl) ?_ hS0 ?_
        rotate_left
        · intro w' hSw
          simp only [List.getElem_toArray, List.getElem_cons_succ, List.getElem_cons_zero]
          go_simp
          all_goals with_reducible rfl
        simp only [List.getElem_toArray, List.getElem_cons_succ, List.getElem_cons_zero, Act.put, List.setIfInBounds_toArray, List.set_cons_zero, List.set_cons_succ]
        refine wpE_take' (v := ?_) 5 [16] (of_decide_eq_true (by kernel_rfl)) (by kernel_rfl) (by kernel_rfl) (by kernel_rfl) (by kernel_rfl) (fun _ _ _ h => h) (by kernel_rfl) ?_ hS0 ?_
        rotate_left
        · intro w' hSw
          simp only [List.getElem_toArray, List.getElem_cons_succ, List.getElem_cons_zero]
          go_simp
          all_goals with_reducible rfl
        simp only [List.getElem_toArray, List.getElem_cons_succ, List.getElem_cons_zero, Act.put, List.setIfInBounds_toArray, List.set_cons_zero, List.set_cons_succ]
        refine wpE_take' (v := ?_) 6 [16] (of_decide_eq_true (by kernel_rfl)) (by kernel_rfl) (by kernel_rfl) (by kernel_rfl) (by kernel_rfl) (fun _ _ _ h => h) (by kernel_rfl) ?_ hS0 ?_
        rotate_left
        · intro w' hSw
          simp only [List.getElem_toArray, List.getElem_cons_succ, List.getElem_cons_zero]
          go_simp
          all_goals with_reducible rfl
        simp only [List.getElem_toArray, List.getElem_cons_succ, List.getElem_cons_zero, Act.put, List.setIfInBounds_toArray, List.set_cons_zero, List.set_cons_succ]
        refine wpE_take' (v := ?_) 7 [16] (of_decide_eq_true (by kernel_rfl)) (by kernel_rfl) (by kernel_rfl) (by kernel_rfl) (by kernel_rfl) (fun _ _ _ h => h) (by kernel_rfl) ?_ hS0 ?_
        rotate_left
        · intro w' hSw
          simp only [List.getElem_toArray, List.getElem_cons_succ, List.getElem_cons_zero]
          go_simp
          all_goals with_reducible rfl
        simp only [List.getElem_toArray, List.getElem_cons_succ, List.getElem_cons_zero, Act.put, List.setIfInBounds_toArray, List.set_cons_zero, List.set_cons_succ]
        refine wpE_take' (v := ?_) 8 [16] (of_decide_eq_true (by kernel_rfl)) (by kernel_rfl) (by kernel_rfl) (by kernel_rfl) (by kernel_rfl) (fun _ _ _ h => h) (by kernel_rfl) ?_ hS0 ?_
        rotate_left
        · intro w' hSw
          simp only [List.getElem_toArray, List.getElem_cons_succ, List.getElem_cons_zero]
          go_simp
          all_goals with_reducible rfl
        simp only [List.getElem_toArray, List.getElem_cons_succ, List.getElem_cons_zero, Act.put, List.setIfInBounds_toArray, List.set_cons_zero, List.set_cons_succ]
        refine wpE_take' (v := ?_) 9 [16] (of_decide_eq_true (by kernel_rfl)) (by kernel_rfl) (by kernel_rfl) (by kernel_rfl) (by kernel_rfl) (fun _ _ _ h => h) (by kernel_rfl) ?_ hS0 ?_
        rotate_left
        · intro w' hSw
          simp only [List.getElem_toArray, List.getElem_cons_succ, List.getElem_cons_zero]
          go_simp
          all_goals with_reducible rfl
        simp only [List.getElem_toArray, List.getElem_cons_succ, List.getElem_cons_zero, Act.put, List.setIfInBounds_toArray, List.set_cons_zero, List.set_cons_succ]
        refine wpE_take' (v := ?_) 10 [16] (of_decide_eq_true (by kernel_rfl)) (by kernel_rfl) (by kernel_rfl) (by kernel_rfl) (by kernel_rfl) (fun _ _ _ h => h) (by kernel_rfl) ?_ hS0 ?_
        rotate_left
        · intro w' hSw
          simp only [List.getElem_toArray, List.getElem_cons_succ, List.getElem_cons_zero]
          go_simp
          all_goals with_reducible rfl
        simp only [List.getElem_toArray, List.getElem_cons_succ, List.getElem_cons_zero, Act.put, List.setIfInBounds_toArray, List.set_cons_zero, List.set_cons_succ]
        refine wpE_take' (v := ?_) 11 [16] (of_decide_eq_true (by kernel_rfl)) (by kernel_rfl) (by kernel_rfl) (by kernel_rfl) (by kernel_rfl) (fun _ _ _ h => h) (by kernel_rfl) ?_ hS0 ?_
        rotate_left
        · intro w' hSw
          simp only [List.getElem_toArray, List.getElem_cons_succ, List.getElem_cons_zero]
          go_simp
          all_goals with_reducible rfl
        simp only [List.getElem_toArray, List.getElem_cons_succ, List.getElem_cons_zero, Act.put, List.setIfInBounds_toArray, List.set_cons_zero, List.set_cons_succ]
        refine wpE_take' (v := ?_) 12 [16] (of_decide_eq_true (by kernel_rfl)) (by kernel_rfl) (by kernel_rfl) (by kernel_rfl) (by kernel_rfl) (fun _ _ _ h => h) (by kernel_rfl) ?_ hS0 ?_
        rotate_left
        · intro w' hSw
          simp only [List.getElem_toArray, List.getElem_cons_succ, List.getElem_cons_zero]
          go_simp
          all_goals with_reducible rfl
        simp only [List.getElem_toArray, List.getElem_cons_succ, List.getElem_cons_zero, Act.put, List.setIfInBounds_toArray, List.set_cons_zero, List.set_cons_succ]
        refine wpE_step' 13 (of_decide_eq_true (by kernel_rfl)) (by kernel_rfl) (by kernel_rfl) (fun K hK => ?_)
        simp only [List.getElem_toArray, List.getElem_cons_succ, List.getElem_cons_zero]
        go_simp
        have hOw := hO.below hbW
        refine hK.out _ _ (.inr ?_) ?_
        · exact ⟨hOw.x.c1, hOw.d2, ((bcell hbW).1 _ _ (by omega)).trans r0', ((bcell hbW).1 _ _ (by omega)).trans k0, ((bcell hbW).1 _ _ (by omega)).trans d0', ((bcell hbW).1 _ _ (by omega)).trans d1', ((bcell hbW).1 _ _ (by omega)).trans d2'⟩
        clear hK K
        simp only [Act.put, List.setIfInBounds_toArray, List.set_cons_zero, List.set_cons_succ]
        refine wpE_step' 14 (of_decide_eq_true (by kernel_rfl)) (by kernel_rfl) (by kernel_rfl) (fun K hK => ?_)
        simp only [List.getElem_toArray, List.getElem_cons_succ, List.getElem_cons_zero]
        refine app_wp _ (.tmp 23) (.tmp 35) _ rfl w.heap.size 66 i0 _ 3 24 Try.underlying30 hi0 hz0 hz1 hz2 rfl (by omega) (.slice A1 L.length c1) L.length (bdCs L) rfl hOw.x.own _ 1 _ [.int .i64 x.f, .int .i64 x.t, .int .i64 x.m] rfl rfl (NewsAt.block (cs := #[.int .i64 x.f, .int .i64 x.t, .int .i64 x.m]) (at_new (w := wr) rfl)) (by simp [Value.oneCell']) (by omega) (by omega) hOw.x.bel.size ?_
        intro A5 c5 w5 hown5 hg5 hat5
        have hown6 : OwnB w.heap.size w5 (.slice A5 (L.length + 1) c5) qs := by rw [← Hqs.out]; unfold OwnB; rw [bdCs_append]; simpa [bdCs] using hown5
        obtain ⟨y1, yf1, y2, hO6⟩ := OC.app hOw hg5 (L.length + 1) hqsl2.out hown6 hat5
        have hlow : ∀ q, q < w.heap.size → some q ≠ (Value.slice A1 L.length c1).ownBlock := fun q hq e => by have := (hOw.x.own.lt q e.symm).1; omega
        have hS1 : w5.cell? ⟨X, 1, none⟩ = some (.slice A1 L.length c1) ∧ w5.cell? ⟨w.heap.size, 2, none⟩ = some (.slice (some ⟨b2, o2, none⟩) cs.length c2) ∧ w5.cell? ⟨b2, o2 + k, none⟩ = some (.slice (some ⟨b4, o4, none⟩) l.length c4) ∧ w5.cell? ⟨b3, o3 + k, none⟩ = some (.int .i64 (j : Int)) ∧ w5.cell? ⟨b4, o4 + j * 3, none⟩ = some (.int .i64 x.f) ∧ w5.cell? ⟨b4, o4 + j * 3 + 1, none⟩ = some (.int .i64 x.t) ∧ w5.cell? ⟨b4, o4 + j * 3 + 2, none⟩ = some (.int .i64 x.m) := ⟨y1, y2, hg5.cell (((bcell hbW).1 _ _ (by omega)).trans r0') (hlow _ hl2), hg5.cell (((bcell hbW).1 _ _ (by omega)).trans k0) (hlow _ hl3), hg5.cell (((bcell hbW).1 _ _ (by omega)).trans d0') (hlow _ hb4l), hg5.cell (((bcell hbW).1 _ _ (by omega)).trans d1') (hlow _ hb4l), hg5.cell (((bcell hbW).1 _ _ (by omega)).trans d2') (hlow _ hb4l)⟩
        refine hK.out _ _ (.inr hS1) ?_
        clear hK K hS0
        have hS0 := hS1
        clear hS1
        simp only [Act.put, List.setIfInBounds_toArray, List.set_cons_zero, List.set_cons_succ]
        refine wpE_take' (v := ?_) 15 [16] (of_decide_eq_true (by kernel_rfl)) (by kernel_rfl) (by kernel_rfl) (by kernel_rfl) (by kernel_rfl) (fun _ _ _ h => h) (by kernel_rfl) ?_ hS0 ?_
        rotate_left
        · intro w' hSw
          simp only [List.getElem_toArray, List.getElem_cons_succ, List.getElem_cons_zero]
          go_simp
          all_goals with_reducible rfl
        simp only [List.getElem_toArray, List.getElem_cons_succ, List.getElem_cons_zero, Act.put, List.setIfInBounds_toArray, List.set_cons_zero, List.set_cons_succ]
        refine wpE_step' 16 (of_decide_eq_true (by kernel_rfl)) (by kernel_rfl) (by kernel_rfl) (fun K hK => ?_)
        simp only [List.getElem_toArray, List.getElem_cons_succ, List.getElem_cons_zero]
        go_simp
        refine hK.out _ _ (.inl rfl) ?_
        clear hK K
        simp only [Act.put, List.setIfInBounds_toArray, List.set_cons_zero, List.set_cons_succ]
        refine wpE_done (by kernel_rfl) ?_ _
        clear hOw hO hbW hS0 y1 yf1 y2 hown5 hown6 hg5 hat5
        generalize w5.setCell ⟨X, 1, none⟩ (.slice A5 (L.length + 1) c5) = W6 at hO6 ⊢
        go_wp2_with fail
        go_roundg (ks.length - (k + 1))
        case measure => go_light; omega
        case rel => go_light; exact ⟨k + 1, qs, A5, c5, by omega, rfl, by go_num, HN, hqsl, hO6⟩
      · obtain rfl : k = ks.length := by omega
        have e : L = rs := by rw [HL.out, List.take_length, Hq.out]
        subst e
        have x0 := hO.x.c0
        have x1 := hO.x.c1
        have y0 := hO.x.z.z0
        have y1 := hO.x.z.z1
        have yf0 := hO.x.z.zf 0
        have yf1 := hO.x.z.zf 1
        go_wp2_with fail
        obtain ⟨r0, r1, ho2, hb7⟩ := hO.x.z.fin (n := n) hO.x.bel hO.x.own hO.x.neY
        refine bodyPost_ret (v := .agg #[.int .i64 n, .slice A1 L.length c1]) (by simp [results, Try.results67, go_sem, r0, r1]) rfl ?_
        obtain ⟨g, hr⟩ := OwnB.readsA ho2
        first | exact ⟨A1, c1, g, rfl, hr, ho2, hb7⟩ | exact ⟨A1, c1, rfl, ⟨g, hr⟩, ho2, hb7⟩
end Go.Proofs.Ytledgblepdjjlaa
