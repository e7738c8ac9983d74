/-
  impl.WayOf.
-/
import Derived.Test.YtledgblepdjjlaaL50
import Derived.Test.YtledgblepdjjlaaL11a
import Derived.Test.YtledgblepdjjlaaL1b
import Derived.Test.YtledgblepdjjlaaZ1
namespace Go.Proofs.Ytledgblepdjjlaa
set_option linter.unusedVariables false
set_option linter.unusedSimpArgs false
open Go.RowKit Pp

/-- A plan in the making beside a case's box D. -/
structure WQ (w0 W : World) (D Y X : Nat) (n : Int) (A1 : Option Addr) (c1 : Nat) (L : List Bd) (A2 : Option Addr) (m c2 : Nat) : Prop where
  o : OX w0 W Y X n A1 c1 L
  dx : D < W.heap.size
  d2 : W.cell? ⟨D, 2, none⟩ = some (.slice A2 m c2)
  neD : (Value.slice A1 L.length c1).ownBlock ≠ some D
  xD : X ≠ D
theorem WQ.below {w0 W W' : World} {D Y X : Nat} {n : Int} {A1 : Option Addr} {c1 : Nat} {L : List Bd} {A2 : Option Addr} {m c2 : Nat} (h : WQ w0 W D Y X n A1 c1 L A2 m c2) (hb : Below W.heap.size W W') : WQ w0 W' D Y X n A1 c1 L A2 m c2 :=
  ⟨h.o.below hb, Nat.lt_of_lt_of_le h.dx hb.size, ((bcell hb).1 _ _ h.dx).trans h.d2, h.neD, h.xD⟩
theorem WQ.put {w0 W : World} {D Y X : Nat} {n : Int} {A1 A' : Option Addr} {c1 c' : Nat} {L L' : List Bd} {A2 : Option Addr} {m c2 : Nat} (h : WQ w0 W D Y X n A1 c1 L A2 m c2) (own : OwnB w0.heap.size W (.slice A' L'.length c') L') (neY : (Value.slice A' L'.length c').ownBlock ≠ some Y) (neX : (Value.slice A' L'.length c').ownBlock ≠ some X) (neD : (Value.slice A' L'.length c').ownBlock ≠ some D) :
    WQ w0 ((W.setCell ⟨X, 0, none⟩ (.int .i64 n)).setCell ⟨X, 1, none⟩ (.slice A' L'.length c')) D Y X n A' c' L' A2 m c2 :=
  ⟨h.o.put own neY neX, by simpa using h.dx, (set_other h.xD).trans ((set_other h.xD).trans h.d2), neD, h.xD⟩

set_option maxHeartbeats 4000000 in
set_option maxRecDepth 100000 in
theorem wayOf_q (n : Int) (bs : List Bd) (cs : List (List Bd)) (ks : List Int) (q : Pl) (r : Bool) (hq : wayOf ⟨n, bs⟩ cs ks = (q, r)) (A A2 A3 : Option Addr) (b o c b2 o2 c2 b3 o3 c3 B : Nat) (w : World) (hn : bs.length ≤ 2000000) (hn2 : cs.length ≤ 2000000) (hn3 : ∀ l ∈ cs, l.length ≤ 2000000) (hk : ks.length ≤ 2000000) (hB : B ≤ w.heap.size) (hR : BdsR w B b o A bs) (hC : ChR w B b2 o2 A2 cs) (hK : IntsR w B b3 o3 A3 ks) :
    Calls Try.prog 19 #[.agg #[.int .i64 n, .slice A bs.length c, .slice A2 cs.length c2], .slice A3 ks.length c3] w fun e w' =>
      ∃ A1 c1 g1, e = .returned (.tuple #[.agg #[.int .i64 q.n, .slice A1 q.bs.length c1], .bool r]) ∧ BdsR w' w'.heap.size g1 0 A1 q.bs ∧ OwnB w.heap.size w' (.slice A1 q.bs.length c1) q.bs ∧ Below w.heap.size w w' := by
  have hD := (cc_new (n := n) (c := c) (c2 := c2) (t := 37) hB hR hC).alloc (.cells #[.int .i64 0, .slice none 0 0] 32)
  have hZ : ZB w ((w.alloc (.cells #[.int .i64 n, .slice A bs.length c, .slice A2 cs.length c2] 37)).alloc (.cells #[.int .i64 0, .slice none 0 0] 32)) (w.heap.size + 1) := by
    have h := zb_new (w0 := w) (W := w.alloc (.cells #[.int .i64 n, .slice A bs.length c, .slice A2 cs.length c2] 37)) (t := 32) (by simp)
    simpa using h
  have H3 := hide hn3
  clear hn3
  unfold wayOf at hq
  cases h1 : caseOk ⟨n, bs⟩ cs
  · rw [h1] at hq
    simp only [Bool.false_and, Bool.false_eq_true, if_false] at hq
    have Hq := hide hq
    have H1 := hide h1
    clear hq h1
    go_enter Try.func19, Try.ntmps19
    go_upto_region 1 with fail
    generalize (w.alloc (.cells #[.int .i64 n, .slice A bs.length c, .slice A2 cs.length c2] 37)).alloc (.cells #[.int .i64 0, .slice none 0 0] 32) = W at hD hZ ⊢
    generalize hYe : w.heap.size + 1 = Y at hZ ⊢
    have p0 := hD.r.c0
    have p1 := hD.r.c1
    have p2 := hD.r.c2
    go_wp2_with (go_at_call 44; go_fit (caseOk_c n bs cs A A2 b o c b2 o2 c2 _ _ hn hn2 H3.out (Nat.le_refl _) hD.r.rd hD.r.rc); rintro e w2 ⟨rfl, hb⟩; rw [H1.out]; replace hD := hD.below hb; clear p0 p1 p2; have p0 := hD.r.c0; have p1 := hD.r.c1; have p2 := hD.r.c2; replace hZ := hZ.below hb; have z0 := hZ.z0; have z1 := hZ.z1; have zf0 := hZ.zf 0; have zf1 := hZ.zf 1)
    have hBel := hD.bel
    obtain ⟨r0, r1, ho2, hb7⟩ := hZ.fin (n := 0) (A := none) (c := 0) (bs := []) hBel (World.ownsRow_nil _ _ _ _) (by simp [Value.ownBlock])
    simp only [List.length_nil] at r0 r1 ho2 hb7
    refine bodyPost_ret (v := .tuple #[.agg #[.int .i64 0, .slice none 0 0], .bool false]) (by simp [results, Try.results19, go_sem, r0, r1]) rfl ?_
    obtain ⟨rfl, rfl⟩ : (⟨0, []⟩ : Pl) = q ∧ false = r := ⟨(Prod.mk.inj Hq.out).1, (Prod.mk.inj Hq.out).2⟩
    first | exact ⟨none, 0, 0, rfl, BdsR.nil _ _ _, ho2, hb7⟩ | exact ⟨none, 0, rfl, ⟨0, BdsR.nil _ _ _⟩, ho2, hb7⟩
  by_cases hl : ks.length = cs.length
  · obtain ⟨h10, h12, h4, hlo⟩ := caseOk_iff.1 h1
    dsimp only at h12
    rw [h1] at hq
    simp only [Bool.true_and] at hq
    have hlz : ((ks.length : Int) == (cs.length : Int)) = true := by simp [hl]
    have Hlo : Hid (∀ (i : Nat) (l : List Bd), cs[i]? = some l → 1 ≤ l.length ∧ l.length ≤ 3) := fun i l hi => (listOk_iff.1 (hlo l (List.mem_of_getElem? hi))).1
    have Hl := hide hl
    have hlc : ks.length ≤ 4 := by omega
    have hlk : ks.length ≤ cs.length := by omega
    have Hq := hide hq
    have H1 := hide h1
    clear hq h1 h10 hlo hl
    go_enter Try.func19, Try.ntmps19
    go_upto_region 1 with fail
    generalize (w.alloc (.cells #[.int .i64 n, .slice A bs.length c, .slice A2 cs.length c2] 37)).alloc (.cells #[.int .i64 0, .slice none 0 0] 32) = W at hD hZ ⊢
    generalize hYe : w.heap.size + 1 = Y at hZ ⊢
    have p0 := hD.r.c0
    have p1 := hD.r.c1
    have p2 := hD.r.c2
    go_upto_region 4 with (first
      | (go_at_call 44; go_fit (caseOk_c n bs cs A A2 b o c b2 o2 c2 _ _ hn hn2 H3.out (Nat.le_refl _) hD.r.rd hD.r.rc); rintro e w2 ⟨rfl, hb⟩; rw [H1.out]; replace hD := hD.below hb; clear p0 p1 p2; have p0 := hD.r.c0; have p1 := hD.r.c1; have p2 := hD.r.c2; replace hZ := hZ.below hb; have z0 := hZ.z0; have z1 := hZ.z1; have zf0 := hZ.zf 0; have zf1 := hZ.zf 1)
      | (go_at_call 70; go_fit (clone_q ⟨n, bs⟩ A b o c _ _ hn (Nat.le_refl _) hD.r.rd); rintro e w3 ⟨A1, c1, g1, rfl, hr3, hown3, hb3⟩; have hD3 := hD.below hb3; have hZ3 := hZ.below hb3; have hsz := hD.bel.size))
    have hO := ox_new (n := n) (t := 32) hD3.bel hZ3 (own_less hown3 hsz) (fun e => by have := (hown3.lt _ e).1; have := hZ.ex; omega)
    try dsimp only at hO
    have hal : Below w3.heap.size w3 (w3.alloc (.cells #[.int .i64 n, .slice A1 bs.length c1] 32)) := by go_grown
    have hD4 := hD3.below hal
    have hQ : WQ w (w3.alloc (.cells #[.int .i64 n, .slice A1 bs.length c1] 32)) w.heap.size Y w3.heap.size n A1 c1 bs A2 cs.length c2 := ⟨hO, hD4.r.ex, hD4.r.c2, fun e => by have := (hown3.lt _ e).1; have := hD.r.ex; omega, by have := hD3.r.ex; omega⟩
    generalize w3.alloc (.cells #[.int .i64 n, .slice A1 bs.length c1] 32) = W4 at hQ ⊢
    generalize w3.heap.size = X at hQ ⊢
    clear hD hD3 hD4 hZ hZ3 hO hal hb3 hr3 hown3 p0 p1 p2 z0 z1 zf0 zf1 hsz
    go_upto_region 5 with fail
    go_loopg [26] ks.length (fun gh i wr => ∃ (k : Nat) (L : List Bd) (A1 : Option Addr) (c1 : Nat), k ≤ ks.length ∧ gh = ks.length - k ∧ i = .int .i64 k ∧ Hid (L = bs ++ picked cs (ks.take k)) ∧ Hid (picksOk (cs.take k) (ks.take k) = true) ∧ L.length ≤ 12 + k ∧ WQ w wr w.heap.size Y X n A1 c1 L A2 cs.length c2)
    case atStart => exact ⟨0, bs, A1, c1, Nat.zero_le _, rfl, rfl, by cases cs <;> simp [Hid, picked], rfl, by omega, hQ⟩
    case round =>
      clear hQ
      obtain ⟨k, L, A1, c1, hk, rfl, rfl, HL, HP, hLk, hQ⟩ := hrel
      have d2 := hQ.d2
      by_cases hlt : k < ks.length
      · have hlt' : (k : Int) < (ks.length : Int) := by omega
        have hltc' : (k : Int) < (cs.length : Int) := by omega
        have hltc : k < cs.length := by omega
        have hwW := hQ.o.bel
        have hKr := (hK.below (hwW.mono hB)).more (Nat.le_trans hB hwW.size)
        have hCr := (hC.below (hwW.mono hB)).more (Nat.le_trans hB hwW.size)
        obtain rfl := hKr.addr (by omega)
        obtain rfl := hCr.addr (by omega)
        have hx := List.getElem?_eq_getElem hlt
        have hxc := List.getElem?_eq_getElem hltc
        have k0 := hKr.cell k hlt
        rw [List.getD_eq_getElem?_getD, hx] at k0
        dsimp only [Option.getD_some] at k0
        obtain ⟨A4, b4, o4, c4, r0, hrd⟩ := hCr.row k _ hxc
        have hl3 := Hlo.out k _ hxc
        have HT : Hid (picked cs (ks.take (k + 1)) = picked cs (ks.take k) ++ [pickAt cs[k] ks[k]]) := picked_take hxc hx
        have hb2l := hCr.lt (by omega)
        have HPn : Hid (0 ≤ ks[k] ∧ ks[k] ≤ (cs[k].length : Int) - 1 → picksOk (cs.take (k + 1)) (ks.take (k + 1)) = true) := fun h => picksOk_take HP.out hxc hx h
        generalize ks[k] = v at hx k0 HT HPn
        generalize cs[k] = l at hxc r0 hrd hl3 HT HPn
        have Hx := hide hx
        have Hxc := hide hxc
        clear hx hxc hKr hCr
        have hwl : IntKind.i64.wrap ((l.length : Int) - 1) = (l.length : Int) - 1 := IntWalk.i64_in _ (by omega)
        cases hin : inB v 0 ((l.length : Int) - 1)
        · have hno : Hid ((⟨0, []⟩, false) = (q, r)) := by
            have e := Hq.out
            rw [picksOk_bad Hxc.out Hx.out (fun h => by rw [inB_iff.2 h] at hin; cases hin)] at e
            exact e
          have Hin := hide hin
          clear hin Hq
          have Hq := hno
          clear hno
          have hZ := hQ.o.z
          have z0 := hZ.z0
          have z1 := hZ.z1
          have zf0 := hZ.zf 0
          have zf1 := hZ.zf 1
          go_wp2_with (go_at_call 71; go_fit (in_c v 0 ((l.length : Int) - 1) _); rintro e w5 ⟨rfl, rfl⟩; rw [Hin.out])
          have hBel := hQ.o.bel
          obtain ⟨r0, r1, ho2, hb7⟩ := hZ.fin (n := 0) (A := none) (c := 0) (bs := []) hBel (World.ownsRow_nil _ _ _ _) (by simp [Value.ownBlock])
          simp only [List.length_nil] at r0 r1 ho2 hb7
          refine bodyPost_ret (v := .tuple #[.agg #[.int .i64 0, .slice none 0 0], .bool false]) (by simp [results, Try.results19, go_sem, r0, r1]) rfl ?_
          obtain ⟨rfl, rfl⟩ : (⟨0, []⟩ : Pl) = q ∧ false = r := ⟨(Prod.mk.inj Hq.out).1, (Prod.mk.inj Hq.out).2⟩
          first | exact ⟨none, 0, 0, rfl, BdsR.nil _ _ _, ho2, hb7⟩ | exact ⟨none, 0, rfl, ⟨0, BdsR.nil _ _ _⟩, ho2, hb7⟩
        · have hv := inB_iff.1 hin
          have HP2 : Hid (picksOk (cs.take (k + 1)) (ks.take (k + 1)) = true) := HPn.out hv
          obtain ⟨j, rfl⟩ : ∃ j : Nat, v = (j : Int) := Int.eq_ofNat_of_zero_le hv.1
          have hjl : j < l.length := by omega
          have hjl' : (j : Int) < (l.length : Int) := by omega
          have hbj := List.getElem?_eq_getElem hjl
          have d0' := hrd.c0 j _ hbj
          have d1' := hrd.c1 j _ hbj
          have d2' := hrd.c2 j _ hbj
          obtain rfl := hrd.addr (by omega)
          have hb4l := hrd.lt (by omega)
          have HT2 : Hid (bs ++ picked cs (ks.take (k + 1)) = L ++ [l[j]]) := by
            unfold Hid
            rw [HT.out, HL.out, List.append_assoc]
            have : pickAt l (j : Int) = l[j] := by unfold pickAt; rw [Int.toNat_natCast, List.getD_eq_getElem?_getD, hbj]; rfl
            rw [this]
          generalize l[j] = x at hbj d0' d1' d2' HT2
          have Hin := hide hin
          clear hin hbj hv HT HPn hrd
          go_upto_region 9 with (go_at_call 71; go_fit (in_c (j : Int) 0 ((l.length : Int) - 1) _); rintro e w5 ⟨rfl, rfl⟩; rw [Hin.out])
          have x0 := hQ.o.c0
          have x1 := hQ.o.c1
          have xe := hQ.o.ex
          have de := hQ.dx
          obtain ⟨gL, hrL⟩ := hQ.o.reads
          obtain ⟨qs, hqs⟩ : ∃ qs, L ++ [x] = qs := ⟨_, rfl⟩
          have hqsl : qs.length ≤ 12 + (k + 1) := by rw [← hqs]; simp; omega
          have HN : Hid (qs = bs ++ picked cs (ks.take (k + 1))) := by unfold Hid; rw [HT2.out, ← hqs]
          have Hqs := hide hqs
          clear hqs HT2
          have hbW : Below wr.heap.size wr (wr.alloc (.cells #[.int .i64 x.f, .int .i64 x.t, .int .i64 x.m] 66)).drew := by go_grown
          have hrL2 := (hrL.below hbW).more hbW.size
          have hB2 : BdsR (wr.alloc (.cells #[.int .i64 x.f, .int .i64 x.t, .int .i64 x.m] 66)).drew (wr.alloc (.cells #[.int .i64 x.f, .int .i64 x.t, .int .i64 x.m] 66)).drew.heap.size wr.heap.size 0 (some ⟨wr.heap.size, 0, none⟩) [x] :=
            blk_bd wr 66 x _ _ rfl (by go_grown) (by simp)
          clear hrL
          refine wp_regionE (fun w' => w'.cell? ⟨X, 0, none⟩ = some (.int .i64 n) ∧ w'.cell? ⟨X, 1, none⟩ = some (.slice A1 L.length c1) ∧ w'.cell? ⟨w.heap.size, 2, none⟩ = some (.slice (some ⟨b2, o2, none⟩) cs.length c2) ∧ w'.cell? ⟨b2, o2 + k, none⟩ = some (.slice (some ⟨b4, o4, none⟩) l.length c4) ∧ w'.cell? ⟨b4, o4 + j * 3, none⟩ = some (.int .i64 x.f) ∧ w'.cell? ⟨b4, o4 + j * 3 + 1, none⟩ = some (.int .i64 x.t) ∧ w'.cell? ⟨b4, o4 + j * 3 + 2, none⟩ = some (.int .i64 x.m)) 11 (by kernel_rfl) ?_
          change wpE _ _ _ _ _ _ 12 #[false, false, false, false, false, false, false, false, false, false, false, false] _ _
          have hS0 : wr.drew.cell? ⟨X, 0, none⟩ = some (.int .i64 n) ∧ wr.drew.cell? ⟨X, 1, none⟩ = some (.slice A1 L.length c1) ∧ wr.drew.cell? ⟨w.heap.size, 2, none⟩ = some (.slice (some ⟨b2, o2, none⟩) cs.length c2) ∧ wr.drew.cell? ⟨b2, o2 + k, none⟩ = some (.slice (some ⟨b4, o4, none⟩) l.length c4) ∧ wr.drew.cell? ⟨b4, o4 + j * 3, none⟩ = some (.int .i64 x.f) ∧ wr.drew.cell? ⟨b4, o4 + j * 3 + 1, none⟩ = some (.int .i64 x.t) ∧ wr.drew.cell? ⟨b4, o4 + j * 3 + 2, none⟩ = some (.int .i64 x.m) := ⟨x0, x1, d2, r0, d0', d1', d2'⟩
          refine wpE_take' (v := ?_) 0 [11] (of_decide_eq_true (by kernel_rfl)) (by kernel_rfl) (by kernel_rfl) (by kernel_rfl) (by kernel_rfl) (fun _ _ _ h => h) (by kernel_rfl) ?_ hS0 ?_
          rotate_left
          · intro w' hSw
            simp only [List.getElem_toArray, List.getElem_cons_succ, List.getElem_cons_zero]
            go_simp
            all_goals with_reducible rfl
          simp only [List.getElem_toArray, List.getElem_cons_succ, List.getElem_cons_zero, Act.put, List.setIfInBounds_toArray, List.set_cons_zero, List.set_cons_succ]
          refine wpE_take' (v := ?_) 1 [11] (of_decide_eq_true (by kernel_rfl)) (by kernel_rfl) (by kernel_rfl) (by kernel_rfl) (by kernel_rfl) (fun _ _ _ h => h) (by kernel_rfl) ?_ hS0 ?_
          rotate_left
          · intro w' hSw
            simp only [List.getElem_toArray, List.getElem_cons_succ, List.getElem_cons_zero]
            go_simp
            all_goals with_reducible rfl
          simp only [List.getElem_toArray, List.getElem_cons_succ, List.getElem_cons_zero, Act.put, List.setIfInBounds_toArray, List.set_cons_zero, List.set_cons_succ]
          refine wpE_take' (v := ?_) 2 [11] (of_decide_eq_true (by kernel_rfl)) (by kernel_rfl) (by kernel_rfl) (by kernel_rfl) (by kernel_rfl) (fun _ _ _ h => h) (by kernel_rfl) ?_ hS0 ?_
          rotate_left
          · intro w' hSw
            simp only [List.getElem_toArray, List.getElem_cons_succ, List.getElem_cons_zero]
            go_simp
            all_goals with_reducible rfl
          simp only [List.getElem_toArray, List.getElem_cons_succ, List.getElem_cons_zero, Act.put, List.setIfInBounds_toArray, List.set_cons_zero, List.set_cons_succ]
          refine wpE_take' (v := ?_) 3 [11] (of_decide_eq_true (by kernel_rfl)) (by kernel_rfl) (by kernel_rfl) (by kernel_rfl) (by kernel_rfl) (fun _ _ _ h => h) (by kernel_rfl) ?_ hS0 ?_
          rotate_left
          · intro w' hSw
            simp only [List.getElem_toArray, List.getElem_cons_succ, List.getElem_cons_zero]
            go_simp
            all_goals with_reducible rfl
          simp only [List.getElem_toArray, List.getElem_cons_succ, List.getElem_cons_zero, Act.put, List.setIfInBounds_toArray, List.set_cons_zero, List.set_cons_succ]
          refine wpE_take' (v := ?_) 4 [11] (of_decide_eq_true (by kernel_rfl)) (by kernel_rfl) (by kernel_rfl) (by kernel_rfl) (by kernel_rfl) (fun _ _ _ h => h) (by kernel_rfl) ?_ hS0 ?_
          rotate_left
          · intro w' hSw
            simp only [List.getElem_toArray, List.getElem_cons_succ, List.getElem_cons_zero]
            go_simp
            all_goals with_reducible rfl
          simp only [List.getElem_toArray, List.getElem_cons_succ, List.getElem_cons_zero, Act.put, List.setIfInBounds_toArray, List.set_cons_zero, List.set_cons_succ]
          refine wpE_take' (v := ?_) 5 [11] (of_decide_eq_true (by kernel_rfl)) (by kernel_rfl) (by kernel_rfl) (by kernel_rfl) (by kernel_rfl) (fun _ _ _ h => h) (by kernel_rfl) ?_ hS0 ?_
          rotate_left
          · intro w' hSw
            simp only [List.getElem_toArray, List.getElem_cons_succ, List.getElem_cons_zero]
            go_simp
            all_goals with_reducible rfl
          simp only [List.getElem_toArray, List.getElem_cons_succ, List.getElem_cons_zero, Act.put, List.setIfInBounds_toArray, List.set_cons_zero, List.set_cons_succ]
          refine wpE_take' (v := ?_) 6 [11] (of_decide_eq_true (by kernel_rfl)) (by kernel_rfl) (by kernel_rfl) (by kernel_rfl) (by kernel_rfl) (fun _ _ _ h => h) (by kernel_rfl) ?_ hS0 ?_
          rotate_left
          · intro w' hSw
            simp only [List.getElem_toArray, List.getElem_cons_succ, List.getElem_cons_zero]
            go_simp
            all_goals with_reducible rfl
          simp only [List.getElem_toArray, List.getElem_cons_succ, List.getElem_cons_zero, Act.put, List.setIfInBounds_toArray, List.set_cons_zero, List.set_cons_succ]
          refine wpE_take' (v := ?_) 7 [11] (of_decide_eq_true (by kernel_rfl)) (by kernel_rfl) (by kernel_rfl) (by kernel_rfl) (by kernel_rfl) (fun _ _ _ h => h) (by kernel_rfl) ?_ hS0 ?_
          rotate_left
          · intro w' hSw
            simp only [List.getElem_toArray, List.getElem_cons_succ, List.getElem_cons_zero]
            go_simp
            all_goals with_reducible rfl
          simp only [List.getElem_toArray, List.getElem_cons_succ, List.getElem_cons_zero, Act.put, List.setIfInBounds_toArray, List.set_cons_zero, List.set_cons_succ]
          refine wpE_take' (v := ?_) 8 [11] (of_decide_eq_true (by kernel_rfl)) (by kernel_rfl) (by kernel_rfl) (by kernel_rfl) (by kernel_rfl) (fun _ _ _ h => h) (by kernel_rfl) ?_ hS0 ?_
          rotate_left
          · intro w' hSw
            simp only [List.getElem_toArray, List.getElem_cons_succ, List.getElem_cons_zero]
            go_simp
            all_goals with_reducible rfl
          simp only [List.getElem_toArray, List.getElem_cons_succ, List.getElem_cons_zero, Act.put, List.setIfInBounds_toArray, List.set_cons_zero, List.set_cons_succ]
          refine wpE_step' 9 (of_decide_eq_true (by kernel_rfl)) (by kernel_rfl) (by kernel_rfl) (fun K hK => ?_)
          simp only [List.getElem_toArray, List.getElem_cons_succ, List.getElem_cons_zero]
          go_simp
          refine hK.out _ _ (.inr ?_) ?_
          · exact ⟨((bcell hbW).1 _ _ xe).trans x0, ((bcell hbW).1 _ _ xe).trans x1, ((bcell hbW).1 _ _ de).trans d2, ((bcell hbW).1 _ _ hb2l).trans r0, ((bcell hbW).1 _ _ hb4l).trans d0', ((bcell hbW).1 _ _ hb4l).trans d1', ((bcell hbW).1 _ _ hb4l).trans d2'⟩
          clear hK K
          simp only [Act.put, List.setIfInBounds_toArray, List.set_cons_zero, List.set_cons_succ]
          refine wpE_step' 10 (of_decide_eq_true (by kernel_rfl)) (by kernel_rfl) (by kernel_rfl) (fun K hK => ?_)
          simp only [List.getElem_toArray, List.getElem_cons_succ, List.getElem_cons_zero]
          go_simp
          go_at_call 72
          go_fit (with_q ⟨n, L⟩ [x] qs Hqs.out A1 _ gL 0 c1 _ 0 _ _ _ (by dsimp only; omega) (by simp) (Nat.le_refl _) hrL2 hB2)
          rintro e w5 ⟨A5, c5, g5, rfl, hr5, own5, hb5⟩
          have hb6 := bthen hbW hb5
          have hQ5 := hQ.below hb6
          have y0 := hQ5.o.c0
          have y1 := hQ5.o.c1
          have yf0 := hQ5.o.cf 0
          have yf1 := hQ5.o.cf 1
          refine hK.out _ _ (.inr ⟨y0, y1, hQ5.d2, ((bcell hb6).1 _ _ hb2l).trans r0, ((bcell hb6).1 _ _ hb4l).trans d0', ((bcell hb6).1 _ _ hb4l).trans d1', ((bcell hb6).1 _ _ hb4l).trans d2'⟩) ?_
          clear hK K
          simp only [Act.put, List.setIfInBounds_toArray, List.set_cons_zero, List.set_cons_succ]
          refine wpE_step' 11 (of_decide_eq_true (by kernel_rfl)) (by kernel_rfl) (by kernel_rfl) (fun K hK => ?_)
          simp only [List.getElem_toArray, List.getElem_cons_succ, List.getElem_cons_zero]
          go_simp
          refine hK.out _ _ (.inl rfl) ?_
          clear hK K
          simp only [Act.put, List.setIfInBounds_toArray, List.set_cons_zero, List.set_cons_succ]
          refine wpE_done (by kernel_rfl) ?_ _
          have hWc := hbW.size
          have hzl := hQ.o.z.ex
          have hxl := hQ.o.ex
          have hww := hQ.o.bel.size
          have hQ6 := hQ5.put (own_less own5 (by omega)) (fun e => by have := (own5.lt _ e).1; omega) (fun e => by have := (own5.lt _ e).1; omega) (fun e => by have := (own5.lt _ e).1; omega)
          clear hrL2 hB2 hr5 own5 hb5 hQ5 hQ hbW hb6 hS0 y0 y1 yf0 yf1 x0 x1 xe de d2 r0 d0' d1' d2'
          generalize (w5.setCell ⟨X, 0, none⟩ (.int .i64 n)).setCell ⟨X, 1, none⟩ (.slice A5 qs.length c5) = W6 at hQ6 ⊢
          go_wp2_with fail
          go_roundg (ks.length - (k + 1))
          case measure => go_light; omega
          case rel => go_light; exact ⟨k + 1, qs, A5, c5, by omega, rfl, by go_num, HN, HP2, hqsl, hQ6⟩
      · obtain rfl : k = ks.length := by omega
        have hyes : (wayP ⟨n, bs⟩ cs ks, true) = (q, r) := by
          have e := Hq.out
          have h := HP.out
          rw [List.take_length, Hl.out, List.take_length] at h
          rw [if_pos h] at e
          exact e
        have hLq : L = q.bs ∧ n = q.n ∧ true = r := by
          rw [HL.out, List.take_length]
          have h1 := (Prod.mk.inj hyes).1
          have h2 := (Prod.mk.inj hyes).2
          exact ⟨by rw [← h1]; rfl, by rw [← h1]; rfl, h2⟩
        clear hyes Hq
        have HE := hide hLq
        clear hLq
        have x0 := hQ.o.c0
        have x1 := hQ.o.c1
        have hZ := hQ.o.z
        have z0 := hZ.z0
        have z1 := hZ.z1
        have zf0 := hZ.zf 0
        have zf1 := hZ.zf 1
        go_wp2_with fail
        obtain ⟨r0, r1, ho, hb7⟩ := hZ.fin (n := n) hQ.o.bel hQ.o.own hQ.o.neY
        refine bodyPost_ret (v := .tuple #[.agg #[.int .i64 n, .slice A1 L.length c1], .bool true]) (by simp [results, Try.results19, go_sem, r0, r1]) rfl ?_
        obtain ⟨g, hr⟩ := OwnB.readsA ho
        obtain ⟨rfl, rfl, rfl⟩ := HE.out
        first | exact ⟨A1, c1, g, rfl, hr, ho, hb7⟩ | exact ⟨A1, c1, rfl, ⟨g, hr⟩, ho, hb7⟩
  · rw [h1, picksOk_len hl] at hq
    simp only [Bool.and_false, Bool.false_eq_true, if_false] at hq
    have hlz : ((ks.length : Int) == (cs.length : Int)) = false := by simp; omega
    have Hq := hide hq
    have H1 := hide h1
    clear hq h1 hl
    go_enter Try.func19, Try.ntmps19
    go_upto_region 1 with fail
    generalize (w.alloc (.cells #[.int .i64 n, .slice A bs.length c, .slice A2 cs.length c2] 37)).alloc (.cells #[.int .i64 0, .slice none 0 0] 32) = W at hD hZ ⊢
    generalize hYe : w.heap.size + 1 = Y at hZ ⊢
    have p0 := hD.r.c0
    have p1 := hD.r.c1
    have p2 := hD.r.c2
    go_wp2_with (go_at_call 44; go_fit (caseOk_c n bs cs A A2 b o c b2 o2 c2 _ _ hn hn2 H3.out (Nat.le_refl _) hD.r.rd hD.r.rc); rintro e w2 ⟨rfl, hb⟩; rw [H1.out]; replace hD := hD.below hb; clear p0 p1 p2; have p0 := hD.r.c0; have p1 := hD.r.c1; have p2 := hD.r.c2; replace hZ := hZ.below hb; have z0 := hZ.z0; have z1 := hZ.z1; have zf0 := hZ.zf 0; have zf1 := hZ.zf 1)
    have hBel := hD.bel
    obtain ⟨r0, r1, ho2, hb7⟩ := hZ.fin (n := 0) (A := none) (c := 0) (bs := []) hBel (World.ownsRow_nil _ _ _ _) (by simp [Value.ownBlock])
    simp only [List.length_nil] at r0 r1 ho2 hb7
    refine bodyPost_ret (v := .tuple #[.agg #[.int .i64 0, .slice none 0 0], .bool false]) (by simp [results, Try.results19, go_sem, r0, r1]) rfl ?_
    obtain ⟨rfl, rfl⟩ : (⟨0, []⟩ : Pl) = q ∧ false = r := ⟨(Prod.mk.inj Hq.out).1, (Prod.mk.inj Hq.out).2⟩
    first | exact ⟨none, 0, 0, rfl, BdsR.nil _ _ _, ho2, hb7⟩ | exact ⟨none, 0, rfl, ⟨0, BdsR.nil _ _ _⟩, ho2, hb7⟩
end Go.Proofs.Ytledgblepdjjlaa
