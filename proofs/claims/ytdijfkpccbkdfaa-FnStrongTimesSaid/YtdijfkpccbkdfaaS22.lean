/-
  spec.l8Strong.
-/
import Derived.Test.YtdijfkpccbkdfaaL22a
import Derived.Test.YtdijfkpccbkdfaaE2
import Derived.Test.YtdijfkpccbkdfaaI3
namespace Go.Proofs.Ytdijfkpccbkdfaa
set_option linter.unusedVariables false
set_option linter.unusedSimpArgs false
open Go.RowKit Pp

/-- While the plan of the own points is made. -/
structure SO (w0 W : World) (base X Y b o : Nat) (n : Int) (A : Option Addr) (c : Nat) (bs : List Bd) (b2 o2 : Nat) (A2 : Option Addr) (c2 : Nat) (ps : List Pr) (A1 : Option Addr) (c1 : Nat) (L : List Bd) : Prop where
  d : PD w0 W w0.heap.size b o n A c bs b2 o2 A2 c2 ps
  y : ZB w0 W Y
  x : ZD w0 W X [.int .i64 n, .slice A1 L.length c1]
  own : OwnB base W (.slice A1 L.length c1) L
  hb : 0 < bs.length → b < base
  hb2 : 0 < ps.length → b2 < base
  hX : X < base
  hY : Y < base
  hd : w0.heap.size < base
  hxy : X ≠ Y ∧ X ≠ w0.heap.size
  hxb : (0 < bs.length → b ≠ X) ∧ (0 < ps.length → b2 ≠ X)
  hs : base ≤ W.heap.size
section
variable {w0 W W' : World} {base X Y b o b2 o2 g : Nat} {n : Int} {A A1 A' A2 : Option Addr} {c c1 c' c2 : Nat} {bs L L' : List Bd} {ps : List Pr}
theorem SO.grown (h : SO w0 W base X Y b o n A c bs b2 o2 A2 c2 ps A1 c1 L) {row : Option Nat} (hg : W.grownBy W' row) (hr : ∀ q, row = some q → base ≤ q) (hbel : Below w0.heap.size w0 W') (hown : OwnB base W' (.slice A1 L.length c1) L) : SO w0 W' base X Y b o n A c bs b2 o2 A2 c2 ps A1 c1 L := by
  have k : ∀ q, q < base → some q ≠ row := fun q hq e => by have := hr q e.symm; omega
  exact ⟨⟨hbel, h.d.lo, h.d.r.grown hg (k _ h.hd) (fun hx => k _ (h.hb hx)) (fun hx => k _ (h.hb2 hx))⟩, h.y.grown hg (fun q hq e => by have := hr q hq; have := h.hY; omega), h.x.grown hg (k _ h.hX), hown, h.hb, h.hb2, h.hX, h.hY, h.hd, h.hxy, h.hxb, Nat.le_trans h.hs hg.size⟩
theorem SO.below (h : SO w0 W base X Y b o n A c bs b2 o2 A2 c2 ps A1 c1 L) (hb : Below W.heap.size W W') : SO w0 W' base X Y b o n A c bs b2 o2 A2 c2 ps A1 c1 L :=
  h.grown (bel_grown hb) (by simp) (bthen h.d.bel hb) (own_below h.own hb)
theorem SO.alloc (h : SO w0 W base X Y b o n A c bs b2 o2 A2 c2 ps A1 c1 L) (x : Obj) : SO w0 (W.alloc x) base X Y b o n A c bs b2 o2 A2 c2 ps A1 c1 L := h.below (by go_grown)
theorem SO.drew (h : SO w0 W base X Y b o n A c bs b2 o2 A2 c2 ps A1 c1 L) : SO w0 W.drew base X Y b o n A c bs b2 o2 A2 c2 ps A1 c1 L := h.below (by go_grown)
theorem SO.set (h : SO w0 W base X Y b o n A c bs b2 o2 A2 c2 ps A1 c1 L) (i : Nat) (v : Value) (hg : base ≤ g) (hne : ∀ q, (Value.slice A1 L.length c1).ownBlock = some q → q ≠ g) : SO w0 (W.setCell ⟨g, i, none⟩ v) base X Y b o n A c bs b2 o2 A2 c2 ps A1 c1 L :=
  h.grown (grown_set W ⟨g, i, none⟩ v) (fun q hq => by cases hq; exact hg) (h.d.bel.setCell (p := ⟨g, i, none⟩) (by have := h.hd; dsimp only; omega) v) (own_set h.own (p := ⟨g, i, none⟩) (fun e => hne _ e rfl) v)
theorem SO.app (h : SO w0 W base X Y b o n A c bs b2 o2 A2 c2 ps A1 c1 L) (hg : W.grownBy W' (Value.slice A1 L.length c1).ownBlock) (len : Nat) (hlen : L'.length = len) (hown : OwnB base W' (.slice A' len c') L') :
    W'.cell? ⟨X, 1, none⟩ = some (.slice A1 L.length c1) ∧ W'.frozen? ⟨X, 1, none⟩ = false ∧ SO w0 (W'.setCell ⟨X, 1, none⟩ (.slice A' len c')) base X Y b o n A c bs b2 o2 A2 c2 ps A' c' L' := by
  subst hlen
  have hr : ∀ q, (Value.slice A1 L.length c1).ownBlock = some q → base ≤ q := fun q hq => (h.own.lt q hq).1
  have k : ∀ q, q < base → some q ≠ (Value.slice A1 L.length c1).ownBlock := fun q hq e => by have := hr q e.symm; omega
  have hx := h.x.grown hg (k _ h.hX)
  have hd := h.hd
  have hbel : Below w0.heap.size w0 W' := below_app h.d.bel h.own hg (by omega) h.hs
  have hd2 : PD w0 W' w0.heap.size b o n A c bs b2 o2 A2 c2 ps := ⟨hbel, h.d.lo, h.d.r.grown hg (k _ h.hd) (fun hx => k _ (h.hb hx)) (fun hx => k _ (h.hb2 hx))⟩
  have hy2 : ZB w0 W' Y := h.y.grown hg (fun q hq e => by have := hr q hq; have := h.hY; omega)
  refine ⟨hx.b.c 1 _ rfl, hx.zf 1, hd2.set 1 _ hx.lo (fun e => h.hxy.2 e.symm) h.hxb.1 h.hxb.2, hy2.set 1 _ (fun e => h.hxy.1 e.symm), hx.put 1 _ (by simp), own_set hown (p := ⟨X, 1, none⟩) (fun e => by have := (hown.lt _ e).1; have := h.hX; dsimp only at *; omega) _, h.hb, h.hb2, h.hX, h.hY, h.hd, h.hxy, h.hxb, by simpa using Nat.le_trans h.hs hg.size⟩
end

theorem ownS_bound {n M : Int} {x : Pr} (hx : PrOk n x) {c : Bd} (hm : -M ≤ c.m ∧ c.m ≤ M) : -(M + 12) ≤ (ownS c x).m ∧ (ownS c x).m ≤ M + 12 := by
  obtain ⟨xf, xt, xn, l0, l1, l2⟩ := hx
  have h1 : ¬ x.f = x.t := xn
  unfold ownS
  by_cases e1 : c.t = x.t <;> by_cases e2 : c.f = x.t <;> simp [e1, e2] <;> omega

set_option maxHeartbeats 8000000 in
set_option maxRecDepth 100000 in
theorem strong_q (n : Int) (bs : List Bd) (ps : List Pr) (hd : DealOk ⟨n, bs⟩ ps) (qs : List Bd) (hq : bs.map (ownB ps) = qs) (A A2 : Option Addr) (b o c b2 o2 c2 B : Nat) (w : World) (hB : B ≤ w.heap.size) (hR : BdsR w B b o A bs) (hP : CsR w B b2 o2 A2 ps.length (prCs ps)) :
    Calls Try.prog 77 #[.agg #[.int .i64 n, .slice A bs.length c, .slice A2 ps.length c2]] w fun e w' => ∃ A1 c1 g1, e = .returned (.agg #[.int .i64 n, .slice A1 qs.length c1]) ∧
      BdsR w' w'.heap.size g1 0 A1 qs ∧ OwnB w.heap.size w' (.slice A1 qs.length c1) qs ∧ Below w.heap.size w w' := by
  obtain ⟨j0, hj0, hy0, hy1, hy2⟩ := info_parts infoB
  have hbm : Hid (∀ (k : Nat) (x : Bd), bs[k]? = some x → -99 ≤ x.m ∧ x.m ≤ 99) := fun k x hx => by
    have h := (planOk_iff.1 hd.1).2.2 x (List.mem_of_getElem? hx)
    have := (bdOk_iff.1 h).2.2; exact this
  have hpm : Hid (∀ (k : Nat) (x : Pr), ps[k]? = some x → PrOk n x) := fun k x hx => (hd.2.2.2 k x (List.getElem?_eq_some_iff.1 hx).1 hx).1
  have hsame : Hid (∀ u, ownSs ps u = ownIs ps u) := fun u => own_same hd.2.2.1 hd.2.2.2 u
  have hbl : bs.length ≤ 12 := hd.2.1
  have hpl : ps.length ≤ 2 := hd.2.2.1
  clear hd
  have hql : qs.length = bs.length := by rw [← hq]; simp
  have Hq := hide hq
  have Hql := hide hql
  clear hq hql
  have hb0 : 0 < bs.length → b < w.heap.size := fun h => Nat.lt_of_lt_of_le (hR.lt h) hB
  have hb20 : 0 < ps.length → b2 < w.heap.size := fun h => Nat.lt_of_lt_of_le (hP.lt h) hB
  have hD := ((pd_new (n := n) (c := c) (c2 := c2) (t := 28) hB hR hP).alloc (.cells #[.int .i64 0, .slice none 0 0] 25)).alloc (.cells #[.int .i64 n, .slice none 0 0] 25)
  have hb1 : Below w.heap.size w (w.alloc (.cells #[.int .i64 n, .slice A bs.length c, .slice A2 ps.length c2] 28)) := by go_grown
  have hb2' : Below w.heap.size w ((w.alloc (.cells #[.int .i64 n, .slice A bs.length c, .slice A2 ps.length c2] 28)).alloc (.cells #[.int .i64 0, .slice none 0 0] 25)) := by go_grown
  have hY : ZB w (((w.alloc (.cells #[.int .i64 n, .slice A bs.length c, .slice A2 ps.length c2] 28)).alloc (.cells #[.int .i64 0, .slice none 0 0] 25)).alloc (.cells #[.int .i64 n, .slice none 0 0] 25)) (w.heap.size + 1) := by
    have h : ZB w ((w.alloc (.cells #[.int .i64 n, .slice A bs.length c, .slice A2 ps.length c2] 28)).alloc (.cells #[.int .i64 0, .slice none 0 0] 25)) (w.alloc (.cells #[.int .i64 n, .slice A bs.length c, .slice A2 ps.length c2] 28)).heap.size := zb_new (by simp)
    have h2 := h.al (.cells #[.int .i64 n, .slice none 0 0] 25)
    simpa using h2
  have hX : ZD w (((w.alloc (.cells #[.int .i64 n, .slice A bs.length c, .slice A2 ps.length c2] 28)).alloc (.cells #[.int .i64 0, .slice none 0 0] 25)).alloc (.cells #[.int .i64 n, .slice none 0 0] 25)) (w.heap.size + 1 + 1) [.int .i64 n, .slice none 0 0] := by
    have h := zd_new (t := 25) [.int .i64 n, .slice none 0 0] hb2'.size
    simpa using h
  clear hR hP hB hb1 hb2'
  go_enter Try.func77, Try.ntmps77
  go_upto_region 2 with fail
  have hb3 : 0 < bs.length → b < w.heap.size + 3 := fun h => by have := hb0 h; omega
  have hb23 : 0 < ps.length → b2 < w.heap.size + 3 := fun h => by have := hb20 h; omega
  have hS : SO w (((w.alloc (.cells #[.int .i64 n, .slice A bs.length c, .slice A2 ps.length c2] 28)).alloc (.cells #[.int .i64 0, .slice none 0 0] 25)).alloc (.cells #[.int .i64 n, .slice none 0 0] 25)) (w.heap.size + 3) (w.heap.size + 1 + 1) (w.heap.size + 1) b o n A c bs b2 o2 A2 c2 ps none 0 [] :=
    ⟨hD, hY, hX, World.ownsRow_nil _ _ _ _, hb3, hb23, by omega, by omega, by omega, ⟨by omega, by omega⟩, ⟨fun h => by have := hb0 h; omega, fun h => by have := hb20 h; omega⟩, by simp⟩
  generalize (((w.alloc (.cells #[.int .i64 n, .slice A bs.length c, .slice A2 ps.length c2] 28)).alloc (.cells #[.int .i64 0, .slice none 0 0] 25)).alloc (.cells #[.int .i64 n, .slice none 0 0] 25)) = W at hS ⊢
  generalize w.heap.size + 1 + 1 = X at hS ⊢
  generalize w.heap.size + 1 = Y at hS ⊢
  generalize w.heap.size + 3 = base at hS ⊢
  clear hD hY hX hb3 hb23 hb0 hb20
  go_upto_region 3 with fail
  go_loopg [4] bs.length (fun gh i wr => ∃ (k : Nat) (L : List Bd) (A1 : Option Addr) (c1 : Nat), k ≤ bs.length ∧ gh = bs.length - k ∧ i = .int .i64 k ∧ Hid (L = (bs.take k).map (ownB ps)) ∧ L.length ≤ k ∧ SO w wr base X Y b o n A c bs b2 o2 A2 c2 ps A1 c1 L)
  case atStart => exact ⟨0, [], none, 0, Nat.zero_le _, rfl, rfl, rfl, Nat.le_refl _, hS⟩
  case round =>
    clear hS
    obtain ⟨k, L, A1, c1, hk, rfl, rfl, HL, hLk, hS⟩ := hrel
    have p1 := hS.d.r.c1
    have p2 := hS.d.r.c2
    have x1 := hS.x.b.c 1 _ rfl
    have xf1 := hS.x.zf 1
    by_cases hlt : k < bs.length
    · have hlt' : (k : Int) < (bs.length : Int) := by omega
      have hk0 : (0 : Int) ≤ (k : Int) := by omega
      obtain rfl := hS.d.r.rd.addr (by omega)
      have hu := List.getElem?_eq_getElem hlt
      have hum := hbm.out k _ hu
      have d0 := hS.d.r.rd.c0 k _ hu
      have d1 := hS.d.r.rd.c1 k _ hu
      have d2 := hS.d.r.rd.c2 k _ hu
      have Ht : Hid (bs.take (k + 1) = bs.take k ++ [bs[k]]) := List.take_succ_eq_append_getElem hlt
      generalize bs[k] = u at hu d0 d1 d2 hum Ht
      obtain ⟨hum1, hum2⟩ := hum
      clear hu
      have hU := zd_new (t := 73) [.int .i64 u.f, .int .i64 u.t, .int .i64 u.m] hS.d.bel.size
      have hrU : ∀ q, (Value.slice A1 L.length c1).ownBlock = some q → q < wr.heap.size := fun q hq => (hS.own.lt q hq).2
      have hbU : base ≤ wr.heap.size := hS.hs
      replace hS := hS.alloc (.cells #[.int .i64 u.f, .int .i64 u.t, .int .i64 u.m] 73)
      go_upto_region 6 with fail
      generalize wr.alloc (.cells #[.int .i64 u.f, .int .i64 u.t, .int .i64 u.m] 73) = Wu at hS hU ⊢
      generalize wr.heap.size = U at hU hrU hbU ⊢
      clear d0 d1 d2 p1 p2 x1 xf1
      have u0 := hU.b.c 0 _ rfl
      have u1 := hU.b.c 1 _ rfl
      have u2 := hU.b.c 2 _ rfl
      have p2 := hS.d.r.c2
      have x1 := hS.x.b.c 1 _ rfl
      have xf1 := hS.x.zf 1
      by_cases he : u.f = u.t
      · have HN : Hid (L ++ [u] = (bs.take (k + 1)).map (ownB ps)) := by
          unfold Hid; rw [Ht.out, List.map_append, HL.out]
          have e : ownB ps u = u := by unfold ownB; rw [if_pos he]
          simp [e]
        go_upto_region 7 with fail
        clear he
        try (rename (u.f == u.t) = true => hee; clear hee)
        go_wp2_with (at_builtin; refine app_list _ rfl (.tmp 32) (.tmp 34) _ rfl base 73 j0 _ 3 24 Try.underlying23 hj0 hy0 hy1 hy2 rfl (by omega) (.slice A1 L.length c1) L.length (bdCs L) rfl ?_ _ 1 _ [.int .i64 u.f, .int .i64 u.t, .int .i64 u.m] rfl rfl (NewsAt.block (cs := #[.int .i64 u.f, .int .i64 u.t, .int .i64 u.m]) (at_new rfl)) (by simp [Value.oneCell']) (by omega) (by omega) ?_ ?_
                     · exact hS.own.alloc _
                     · exact (hS.alloc _).hs
                     intro A3 c3 w3 hown3 hg3 hat3
                     have hown4 : OwnB base w3 (.slice A3 (L.length + 1) c3) (L ++ [u]) := (by unfold OwnB; rw [bdCs_append]; simpa [bdCs] using hown3)
                     obtain ⟨v1, v2, v3⟩ := SO.app (hS.alloc _) hg3 (L.length + 1) (by simp) hown4)
        go_roundg (bs.length - (k + 1))
        case measure => go_light; omega
        case rel => go_light; exact ⟨k + 1, L ++ [u], A3, c3, by omega, rfl, by go_num, HN, by simp; omega, v3⟩
      have He : Hid (¬ u.f = u.t) := he
      go_upto_region 9 with fail
      clear he
      try (rename (u.f == u.t) = false => hee; clear hee)
      clear u0 u1 u2 p2 x1 xf1
      go_loopg [6] ps.length (fun gh i wr => ∃ (j : Nat) (y : Bd), j ≤ ps.length ∧ gh = ps.length - j ∧ i = .int .i64 j ∧ Hid (y = (ps.take j).foldl ownS u) ∧ -(99 + 12 * (j : Int)) ≤ y.m ∧ y.m ≤ 99 + 12 * (j : Int) ∧ SO w wr base X Y b o n (some ⟨b, o, none⟩) c bs b2 o2 A2 c2 ps A1 c1 L ∧ ZD w wr U [.int .i64 y.f, .int .i64 y.t, .int .i64 y.m])
      case atStart => exact ⟨0, u, Nat.zero_le _, rfl, rfl, by simp [Hid], by omega, by omega, hS, hU⟩
      case round =>
        clear hS hU
        obtain ⟨j, y, hj, rfl, rfl, Hyj, hm1, hm2, hS, hU⟩ := hrel
        have p2 := hS.d.r.c2
        by_cases hlj : j < ps.length
        · have hlj' : (j : Int) < (ps.length : Int) := by omega
          have hj0 : (0 : Int) ≤ (j : Int) := by omega
          obtain rfl := hS.d.r.rp.addr (by omega)
          have hx := List.getElem?_eq_getElem hlj
          have hpx := hpm.out j _ hx
          obtain ⟨d0, d1, d2, d3⟩ := pr_cells hS.d.r.rp hx
          generalize ps[j] = x at hx d0 d1 d2 d3 hpx
          have Hn : Hid ((ps.take (j + 1)).foldl ownS u = ownS y x) := by unfold Hid; rw [fold_next _ _ hx, ← Hyj.out]
          obtain ⟨_, _, _, l0, l1, l2⟩ := hpx
          clear hx
          have hV := cb_new wr [.int .i64 x.f, .int .i64 x.t, .int .i64 x.l, .int .i64 x.h] 40
          have hal : Below wr.heap.size wr (wr.alloc (.cells #[.int .i64 x.f, .int .i64 x.t, .int .i64 x.l, .int .i64 x.h] 40)) := by go_grown
          have hUl := hU.b.ex
          replace hS := hS.below hal
          replace hU := hU.below hal
          go_upto_region 12 with fail
          generalize wr.alloc (.cells #[.int .i64 x.f, .int .i64 x.t, .int .i64 x.l, .int .i64 x.h] 40) = Wx at hS hU hV ⊢
          have hVU : ¬ wr.heap.size = U := by omega
          generalize wr.heap.size = V at hV hVU ⊢
          clear p2 d0 d1 d2 d3 hal hUl
          have u0 := hU.b.c 0 _ rfl
          have u1 := hU.b.c 1 _ rfl
          have u2 := hU.b.c 2 _ rfl
          have v0 := hV.c 0 _ rfl
          have v1 := hV.c 1 _ rfl
          have v2 := hV.c 2 _ rfl
          have v3 := hV.c 3 _ rfl
          have uf0 := hU.zf 0
          have uf1 := hU.zf 1
          have uf2 := hU.zf 2
          by_cases e1 : y.t = x.t
          · go_upto_region 14 with fail
            have hnU : ∀ q, (Value.slice A1 L.length c1).ownBlock = some q → q ≠ U := fun q hq => by have := hrU q hq; omega
            have hS3 := ((hS.set (g := U) 0 (.int .i64 y.f) hbU hnU).set (g := U) 1 (.int .i64 x.f) hbU hnU).set (g := U) 2 (.int .i64 (y.m - x.h)) hbU hnU
            have hU3 := ((hU.put 0 (.int .i64 y.f) (by simp)).put 1 (.int .i64 x.f) (by simp)).put 2 (.int .i64 (y.m - x.h)) (by simp)
            have hV3 := ((hV.set (g := U) 0 (.int .i64 y.f) hVU).set (g := U) 1 (.int .i64 x.f) hVU).set (g := U) 2 (.int .i64 (y.m - x.h)) hVU
            simp only [List.set] at hU3
            generalize ((Wx.setCell ⟨U, 0, none⟩ (.int .i64 y.f)).setCell ⟨U, 1, none⟩ (.int .i64 x.f)).setCell ⟨U, 2, none⟩ (.int .i64 (y.m - x.h)) = W1 at hS3 hU3 hV3 ⊢
            clear hS hU hV u0 u1 u2 v0 v1 v2 v3
            have hS := hS3; have hU := hU3; have hV := hV3
            clear hS3 hU3 hV3
            have u0 := hU.b.c 0 _ rfl
            have u1 := hU.b.c 1 _ rfl
            have u2 := hU.b.c 2 _ rfl
            have v0 := hV.c 0 _ rfl
            have v1 := hV.c 1 _ rfl
            have v2 := hV.c 2 _ rfl
            have v3 := hV.c 3 _ rfl
            have uf0 := hU.zf 0
            have uf1 := hU.zf 1
            have uf2 := hU.zf 2
            by_cases e2 : y.f = x.t
            · have HN : Hid ((⟨x.f, x.f, y.m - x.h + x.l⟩ : Bd) = (ps.take (j + 1)).foldl ownS u) := by unfold Hid; rw [Hn.out]; simp [ownS, e1, e2]
              have hm3 : -(99 + 12 * ((j + 1 : Nat) : Int)) ≤ y.m - x.h + x.l := by omega
              have hm4 : y.m - x.h + x.l ≤ 99 + 12 * ((j + 1 : Nat) : Int) := by omega
              go_wp2_with fail
              have hnU : ∀ q, (Value.slice A1 L.length c1).ownBlock = some q → q ≠ U := fun q hq => by have := hrU q hq; omega
              have hS3 := ((hS.set (g := U) 0 (.int .i64 x.f) hbU hnU).set (g := U) 1 (.int .i64 x.f) hbU hnU).set (g := U) 2 (.int .i64 (y.m - x.h + x.l)) hbU hnU
              have hU3 := ((hU.put 0 (.int .i64 x.f) (by simp)).put 1 (.int .i64 x.f) (by simp)).put 2 (.int .i64 (y.m - x.h + x.l)) (by simp)
              have hV3 := ((hV.set (g := U) 0 (.int .i64 x.f) hVU).set (g := U) 1 (.int .i64 x.f) hVU).set (g := U) 2 (.int .i64 (y.m - x.h + x.l)) hVU
              simp only [List.set] at hU3
              go_roundg (ps.length - (j + 1))
              case measure => go_light; omega
              case rel => go_light; exact ⟨j + 1, ⟨x.f, x.f, y.m - x.h + x.l⟩, by omega, rfl, by go_num, HN, hm3, hm4, hS3, hU3⟩
            · have HN : Hid ((⟨y.f, x.f, y.m - x.h⟩ : Bd) = (ps.take (j + 1)).foldl ownS u) := by unfold Hid; rw [Hn.out]; simp [ownS, e1, e2]
              have hm3 : -(99 + 12 * ((j + 1 : Nat) : Int)) ≤ y.m - x.h := by omega
              have hm4 : y.m - x.h ≤ 99 + 12 * ((j + 1 : Nat) : Int) := by omega
              go_wp2_with fail
              go_roundg (ps.length - (j + 1))
              case measure => go_light; omega
              case rel => go_light; exact ⟨j + 1, ⟨y.f, x.f, y.m - x.h⟩, by omega, rfl, by go_num, HN, hm3, hm4, hS, hU⟩
          · by_cases e2 : y.f = x.t
            · have HN : Hid ((⟨x.f, y.t, y.m + x.l⟩ : Bd) = (ps.take (j + 1)).foldl ownS u) := by unfold Hid; rw [Hn.out]; simp [ownS, e1, e2]
              have hm3 : -(99 + 12 * ((j + 1 : Nat) : Int)) ≤ y.m + x.l := by omega
              have hm4 : y.m + x.l ≤ 99 + 12 * ((j + 1 : Nat) : Int) := by omega
              go_upto_region 15 with fail
              clear e1 e2
              go_wp2_with fail
              have hnU : ∀ q, (Value.slice A1 L.length c1).ownBlock = some q → q ≠ U := fun q hq => by have := hrU q hq; omega
              have hS3 := ((hS.set (g := U) 0 (.int .i64 x.f) hbU hnU).set (g := U) 1 (.int .i64 y.t) hbU hnU).set (g := U) 2 (.int .i64 (y.m + x.l)) hbU hnU
              have hU3 := ((hU.put 0 (.int .i64 x.f) (by simp)).put 1 (.int .i64 y.t) (by simp)).put 2 (.int .i64 (y.m + x.l)) (by simp)
              have hV3 := ((hV.set (g := U) 0 (.int .i64 x.f) hVU).set (g := U) 1 (.int .i64 y.t) hVU).set (g := U) 2 (.int .i64 (y.m + x.l)) hVU
              simp only [List.set] at hU3
              go_roundg (ps.length - (j + 1))
              case measure => go_light; omega
              case rel => go_light; exact ⟨j + 1, ⟨x.f, y.t, y.m + x.l⟩, by omega, rfl, by go_num, HN, hm3, hm4, hS3, hU3⟩
            · have HN : Hid (y = (ps.take (j + 1)).foldl ownS u) := by unfold Hid; rw [Hn.out]; simp [ownS, e1, e2]
              have hm3 : -(99 + 12 * ((j + 1 : Nat) : Int)) ≤ y.m := by omega
              have hm4 : y.m ≤ 99 + 12 * ((j + 1 : Nat) : Int) := by omega
              go_wp2_with fail
              go_roundg (ps.length - (j + 1))
              case measure => go_light; omega
              case rel => go_light; exact ⟨j + 1, y, by omega, rfl, by go_num, HN, hm3, hm4, hS, hU⟩
        · obtain rfl : j = ps.length := by omega
          have HN : Hid (L ++ [y] = (bs.take (k + 1)).map (ownB ps)) := by
            unfold Hid; rw [Ht.out, List.map_append, HL.out]
            have e : ownB ps u = y := by unfold ownB; rw [if_neg He.out, ← hsame.out, Hyj.out, List.take_length]; rfl
            simp [e]
          have u0 := hU.b.c 0 _ rfl
          have u1 := hU.b.c 1 _ rfl
          have u2 := hU.b.c 2 _ rfl
          have x1 := hS.x.b.c 1 _ rfl
          have xf1 := hS.x.zf 1
          go_wp2_with (at_builtin; refine app_list _ rfl (.tmp 80) (.tmp 82) _ rfl base 73 j0 _ 3 24 Try.underlying23 hj0 hy0 hy1 hy2 rfl (by omega) (.slice A1 L.length c1) L.length (bdCs L) rfl ?_ _ 1 _ [.int .i64 y.f, .int .i64 y.t, .int .i64 y.m] rfl rfl (NewsAt.block (cs := #[.int .i64 y.f, .int .i64 y.t, .int .i64 y.m]) (at_new rfl)) (by simp [Value.oneCell']) (by omega) (by omega) ?_ ?_
                       · exact hS.own.alloc _
                       · exact (hS.alloc _).hs
                       intro A3 c3 w3 hown3 hg3 hat3
                       have hown4 : OwnB base w3 (.slice A3 (L.length + 1) c3) (L ++ [y]) := (by unfold OwnB; rw [bdCs_append]; simpa [bdCs] using hown3)
                       obtain ⟨v1, v2, v3⟩ := SO.app (hS.alloc _) hg3 (L.length + 1) (by simp) hown4)
          go_roundg (bs.length - (k + 1))
          case measure => go_light; omega
          case rel => go_light; exact ⟨k + 1, L ++ [y], A3, c3, by omega, rfl, by go_num, HN, by simp; omega, v3⟩
    · obtain rfl : k = bs.length := by omega
      have e : L = qs := by rw [HL.out, List.take_length, Hq.out]
      subst e
      have x0 := hS.x.b.c 0 _ rfl
      have y0 := hS.y.z0
      have y1 := hS.y.z1
      have yf0 := hS.y.zf 0
      have yf1 := hS.y.zf 1
      go_wp2_with fail
      have ne : (Value.slice A1 L.length c1).ownBlock ≠ some Y := fun e => by have := (hS.own.lt _ e).1; have := hS.hY; omega
      have hbase : w.heap.size ≤ base := by have := hS.hd; omega
      obtain ⟨r0, r1, ho2, hb7⟩ := hS.y.fin (n := n) hS.d.bel (own_less hS.own hbase) ne
      refine bodyPost_ret (v := .agg #[.int .i64 n, .slice A1 L.length c1]) (by simp [results, Try.results77, go_sem, r0, r1]) rfl ?_
      obtain ⟨g, hr⟩ := OwnB.readsA ho2
      exact ⟨A1, c1, g, rfl, hr, ho2, hb7⟩
end Go.Proofs.Ytdijfkpccbkdfaa
