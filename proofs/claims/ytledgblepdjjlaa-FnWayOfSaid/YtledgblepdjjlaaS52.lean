/-
  spec.WayOf.
-/
import Derived.Test.YtledgblepdjjlaaS51
namespace Go.Proofs.Ytledgblepdjjlaa
set_option linter.unusedVariables false
set_option linter.unusedSimpArgs false
open Go.RowKit Pp

set_option maxHeartbeats 4000000 in
set_option maxRecDepth 100000 in
theorem sWayOf_q (n : Int) (bs : List Bd) (cs : List (List Bd)) (ks : List Int) (q : Pl) (r : Bool) (hq : wayOf ⟨n, bs⟩ cs ks = (q, r)) (A A2 A3 : Option Addr) (b o c b2 o2 c2 b3 o3 c3 B : Nat) (w : World) (hn : bs.length ≤ 2000000) (hn2 : cs.length ≤ 2000000) (hn3 : ∀ l ∈ cs, l.length ≤ 2000000) (hk : ks.length ≤ 2000000) (hB : B ≤ w.heap.size) (hR : BdsR w B b o A bs) (hC : ChR w B b2 o2 A2 cs) (hK : IntsR w B b3 o3 A3 ks) :
    Calls Try.prog 16 #[.agg #[.int .i64 n, .slice A bs.length c, .slice A2 cs.length c2], .slice A3 ks.length c3] w fun e w' =>
      ∃ A1 c1 g1, e = .returned (.tuple #[.agg #[.int .i64 q.n, .slice A1 q.bs.length c1], .bool r]) ∧ BdsR w' w'.heap.size g1 0 A1 q.bs ∧ OwnB w.heap.size w' (.slice A1 q.bs.length c1) q.bs ∧ Below w.heap.size w w' := by
  have hD := (cc_new (n := n) (c := c) (c2 := c2) (t := 37) hB hR hC).alloc (.cells #[.int .i64 0, .slice none 0 0] 32)
  have hZ : ZB w ((w.alloc (.cells #[.int .i64 n, .slice A bs.length c, .slice A2 cs.length c2] 37)).alloc (.cells #[.int .i64 0, .slice none 0 0] 32)) (w.heap.size + 1) := by
    have h := zb_new (w0 := w) (W := w.alloc (.cells #[.int .i64 n, .slice A bs.length c, .slice A2 cs.length c2] 37)) (t := 32) (by simp)
    simpa using h
  have H3 := hide hn3
  clear hn3
  unfold wayOf at hq
  cases h1 : caseOk ⟨n, bs⟩ cs
  · rw [h1] at hq
    simp only [Bool.false_and, Bool.false_eq_true, if_false] at hq
    have Hq := hide hq
    have H1 := hide h1
    clear hq h1
    go_enter Try.func16, Try.ntmps16
    go_upto_region 1 with fail
    generalize (w.alloc (.cells #[.int .i64 n, .slice A bs.length c, .slice A2 cs.length c2] 37)).alloc (.cells #[.int .i64 0, .slice none 0 0] 32) = W at hD hZ ⊢
    generalize hYe : w.heap.size + 1 = Y at hZ ⊢
    have p0 := hD.r.c0
    have p1 := hD.r.c1
    have p2 := hD.r.c2
    go_wp2_with (go_at_call 53; go_fit (sCaseOk_c n bs cs A A2 b o c b2 o2 c2 _ _ hn hn2 H3.out (Nat.le_refl _) hD.r.rd hD.r.rc); rintro e w2 ⟨rfl, hb⟩; rw [H1.out]; replace hD := hD.below hb; clear p0 p1 p2; have p0 := hD.r.c0; have p1 := hD.r.c1; have p2 := hD.r.c2; replace hZ := hZ.below hb; have z0 := hZ.z0; have z1 := hZ.z1; have zf0 := hZ.zf 0; have zf1 := hZ.zf 1)
    have hBel := hD.bel
    obtain ⟨r0, r1, ho2, hb7⟩ := hZ.fin (n := 0) (A := none) (c := 0) (bs := []) hBel (World.ownsRow_nil _ _ _ _) (by simp [Value.ownBlock])
    simp only [List.length_nil] at r0 r1 ho2 hb7
    refine bodyPost_ret (v := .tuple #[.agg #[.int .i64 0, .slice none 0 0], .bool false]) (by simp [results, Try.results16, go_sem, r0, r1]) rfl ?_
    obtain ⟨rfl, rfl⟩ : (⟨0, []⟩ : Pl) = q ∧ false = r := ⟨(Prod.mk.inj Hq.out).1, (Prod.mk.inj Hq.out).2⟩
    first | exact ⟨none, 0, 0, rfl, BdsR.nil _ _ _, ho2, hb7⟩ | exact ⟨none, 0, rfl, ⟨0, BdsR.nil _ _ _⟩, ho2, hb7⟩
  by_cases hl : ks.length = cs.length
  · obtain ⟨h10, h12, h4, hlo⟩ := caseOk_iff.1 h1
    dsimp only at h12
    rw [h1] at hq
    simp only [Bool.true_and] at hq
    have hlz : ((ks.length : Int) == (cs.length : Int)) = true := by simp [hl]
    have Hlo : Hid (∀ (i : Nat) (l : List Bd), cs[i]? = some l → 1 ≤ l.length ∧ l.length ≤ 3) := fun i l hi => (listOk_iff.1 (hlo l (List.mem_of_getElem? hi))).1
    have Hl := hide hl
    have hlc : ks.length ≤ 4 := by omega
    have hlk : ks.length ≤ cs.length := by omega
    have Hq := hide hq
    have H1 := hide h1
    clear hq h1 h10 hlo hl
    go_enter Try.func16, Try.ntmps16
    go_upto_region 1 with fail
    generalize (w.alloc (.cells #[.int .i64 n, .slice A bs.length c, .slice A2 cs.length c2] 37)).alloc (.cells #[.int .i64 0, .slice none 0 0] 32) = W at hD hZ ⊢
    generalize hYe : w.heap.size + 1 = Y at hZ ⊢
    have p0 := hD.r.c0
    have p1 := hD.r.c1
    have p2 := hD.r.c2
    go_upto_region 4 with (go_at_call 53; go_fit (sCaseOk_c n bs cs A A2 b o c b2 o2 c2 _ _ hn hn2 H3.out (Nat.le_refl _) hD.r.rd hD.r.rc); rintro e w2 ⟨rfl, hb⟩; rw [H1.out]; replace hD := hD.below hb; clear p0 p1 p2; have p0 := hD.r.c0; have p1 := hD.r.c1; have p2 := hD.r.c2; replace hZ := hZ.below hb; have z0 := hZ.z0; have z1 := hZ.z1; have zf0 := hZ.zf 0; have zf1 := hZ.zf 1)
    clear hlz z0 z1 zf0 zf1
    go_loopg [6] ks.length (fun gh i wr => ∃ k : Nat, k ≤ ks.length ∧ gh = ks.length - k ∧ i = .int .i64 k ∧ Hid (picksOk (cs.take k) (ks.take k) = true) ∧ CC w wr w.heap.size b o n A c bs b2 o2 A2 c2 cs ∧ ZB w wr Y)
    case atStart => exact ⟨0, Nat.zero_le _, rfl, rfl, rfl, hD, hZ⟩
    case round =>
      clear hD hZ p0 p1 p2
      obtain ⟨k, hk, rfl, rfl, HP, hD, hZ⟩ := hrel
      have p0 := hD.r.c0
      have p1 := hD.r.c1
      have p2 := hD.r.c2
      by_cases hlt : k < ks.length
      · have hlt' : (k : Int) < (ks.length : Int) := by omega
        have hltc : k < cs.length := by omega
        have hltc' : (k : Int) < (cs.length : Int) := by omega
        have hKr := (hK.below (hD.bel.mono hB)).more (Nat.le_trans hB hD.bel.size)
        obtain rfl := hKr.addr (by omega)
        obtain rfl := hD.r.rc.addr (by omega)
        have hx := List.getElem?_eq_getElem hlt
        have hxc := List.getElem?_eq_getElem hltc
        have k0 := hKr.cell k hlt
        rw [List.getD_eq_getElem?_getD, hx] at k0
        dsimp only [Option.getD_some] at k0
        obtain ⟨A4, b4, o4, c4, r0, hrd⟩ := hD.r.rc.row k _ hxc
        have hl3 := Hlo.out k _ hxc
        have HPn : Hid (0 ≤ ks[k] ∧ ks[k] ≤ (cs[k].length : Int) - 1 → picksOk (cs.take (k + 1)) (ks.take (k + 1)) = true) := fun h => picksOk_take HP.out hxc hx h
        generalize ks[k] = v at hx k0 HPn
        generalize cs[k] = l at hxc r0 hrd hl3 HPn
        have Hx := hide hx
        have Hxc := hide hxc
        clear hx hxc hKr hrd
        have hd : ∀ m, Below wr.heap.size wr (wr.drewN m) := fun m => ⟨rfl, rfl, rfl, Nat.le_refl _, fun _ _ => rfl⟩
        have hD2 : ∀ m, CC w (wr.drewN m) w.heap.size b o n A c bs b2 o2 (some ⟨b2, o2, none⟩) c2 cs := fun m => hD.below (hd m)
        have hZ2 : ∀ m, ZB w (wr.drewN m) Y := fun m => hZ.below (hd m)
        have hwl : IntKind.i64.wrap ((l.length : Int) - 1) = (l.length : Int) - 1 := IntWalk.i64_in _ (by omega)
        cases hin : inB v 0 ((l.length : Int) - 1)
        · have hno : Hid ((⟨0, []⟩, false) = (q, r)) := by
            have e := Hq.out
            rw [picksOk_bad Hxc.out Hx.out (fun h => by rw [inB_iff.2 h] at hin; cases hin)] at e
            exact e
          have Hin := hide hin
          clear hin Hq
          have Hq := hno
          clear hno
          go_upto_region 6 with fail
          go_quiet ((go_at_call 66; exact Calls.quiet_of_same (l1In_s Hin.out _)))
          clear hZ hD
          have hZ := hZ2 nq
          have z0 := hZ.z0
          have z1 := hZ.z1
          have zf0 := hZ.zf 0
          have zf1 := hZ.zf 1
          have hBel := (hD2 nq).bel
          clear hZ2 hD2 hd
          generalize wr.drewN nq = wz at hZ z0 z1 zf0 zf1 hBel ⊢
          go_wp2_with fail
          obtain ⟨r0, r1, ho2, hb7⟩ := hZ.fin (n := 0) (A := none) (c := 0) (bs := []) hBel (World.ownsRow_nil _ _ _ _) (by simp [Value.ownBlock])
          simp only [List.length_nil] at r0 r1 ho2 hb7
          refine bodyPost_ret (v := .tuple #[.agg #[.int .i64 0, .slice none 0 0], .bool false]) (by simp [results, Try.results16, go_sem, r0, r1]) rfl ?_
          obtain ⟨rfl, rfl⟩ : (⟨0, []⟩ : Pl) = q ∧ false = r := ⟨(Prod.mk.inj Hq.out).1, (Prod.mk.inj Hq.out).2⟩
          first | exact ⟨none, 0, 0, rfl, BdsR.nil _ _ _, ho2, hb7⟩ | exact ⟨none, 0, rfl, ⟨0, BdsR.nil _ _ _⟩, ho2, hb7⟩
        · have HP2 : Hid (picksOk (cs.take (k + 1)) (ks.take (k + 1)) = true) := HPn.out (inB_iff.1 hin)
          have Hin := hide hin
          clear hin
          go_upto_region 6 with fail
          go_quiet ((go_at_call 66; exact Calls.quiet_of_same (l1In_s Hin.out _)))
          go_wp2_with fail
          go_roundg (ks.length - (k + 1))
          case measure => go_light; omega
          case rel => go_light; exact ⟨k + 1, by omega, rfl, by go_num, HP2, hD2 _, hZ2 _⟩
      · obtain rfl : k = ks.length := by omega
        have hpk : picksOk cs ks = true := by
          have h := HP.out
          rw [List.take_length, Hl.out, List.take_length] at h
          exact h
        have hyes : (wayP ⟨n, bs⟩ cs ks, true) = (q, r) := by
          have e := Hq.out
          rw [if_pos hpk] at e
          exact e
        have hLq : bs ++ picked cs ks = q.bs ∧ n = q.n ∧ true = r := by
          have h1 := (Prod.mk.inj hyes).1
          have h2 := (Prod.mk.inj hyes).2
          exact ⟨by rw [← h1]; rfl, by rw [← h1]; rfl, h2⟩
        clear hyes Hq
        have HE := hide hLq
        clear hLq
        have Hpk := hide hpk
        clear hpk
        have hKr := (hK.below (hD.bel.mono hB)).more (Nat.le_trans hB hD.bel.size)
        have hZx := hZ.ex
        have hws := hD.bel.size
        go_wp2_with (go_at_call 67; go_fit (l7Way_q n bs cs ks h12 h4 hlk H3.out (picksOk_iff.1 Hpk.out).2 q.bs HE.out.1 A A2 A3 b o c b2 o2 c2 b3 o3 c3 _ _ (Nat.le_refl _) hD.r.rd hD.r.rc hKr); rintro e w5 ⟨A1, c1, g1, rfl, hr5, own5, hb5⟩; replace hD := hD.below hb5; replace hZ := hZ.below hb5; have z0 := hZ.z0; have z1 := hZ.z1; have zf0 := hZ.zf 0; have zf1 := hZ.zf 1)
        obtain ⟨r0, r1, ho, hb7⟩ := hZ.fin (n := n) hD.bel (own_less own5 hws) (fun e => by have := (own5.lt _ e).1; omega)
        refine bodyPost_ret (v := .tuple #[.agg #[.int .i64 n, .slice A1 q.bs.length c1], .bool true]) (by simp [results, Try.results16, go_sem, r0, r1]) rfl ?_
        obtain ⟨g, hr⟩ := OwnB.readsA ho
        obtain ⟨-, e2, e3⟩ := HE.out
        rw [← e2, ← e3]
        first | exact ⟨A1, c1, g, rfl, hr, ho, hb7⟩ | exact ⟨A1, c1, rfl, ⟨g, hr⟩, ho, hb7⟩
  · rw [h1, picksOk_len hl] at hq
    simp only [Bool.and_false, Bool.false_eq_true, if_false] at hq
    have hlz : ((ks.length : Int) == (cs.length : Int)) = false := by simp; omega
    have Hq := hide hq
    have H1 := hide h1
    clear hq h1 hl
    go_enter Try.func16, Try.ntmps16
    go_upto_region 1 with fail
    generalize (w.alloc (.cells #[.int .i64 n, .slice A bs.length c, .slice A2 cs.length c2] 37)).alloc (.cells #[.int .i64 0, .slice none 0 0] 32) = W at hD hZ ⊢
    generalize hYe : w.heap.size + 1 = Y at hZ ⊢
    have p0 := hD.r.c0
    have p1 := hD.r.c1
    have p2 := hD.r.c2
    go_wp2_with (go_at_call 53; go_fit (sCaseOk_c n bs cs A A2 b o c b2 o2 c2 _ _ hn hn2 H3.out (Nat.le_refl _) hD.r.rd hD.r.rc); rintro e w2 ⟨rfl, hb⟩; rw [H1.out]; replace hD := hD.below hb; clear p0 p1 p2; have p0 := hD.r.c0; have p1 := hD.r.c1; have p2 := hD.r.c2; replace hZ := hZ.below hb; have z0 := hZ.z0; have z1 := hZ.z1; have zf0 := hZ.zf 0; have zf1 := hZ.zf 1)
    have hBel := hD.bel
    obtain ⟨r0, r1, ho2, hb7⟩ := hZ.fin (n := 0) (A := none) (c := 0) (bs := []) hBel (World.ownsRow_nil _ _ _ _) (by simp [Value.ownBlock])
    simp only [List.length_nil] at r0 r1 ho2 hb7
    refine bodyPost_ret (v := .tuple #[.agg #[.int .i64 0, .slice none 0 0], .bool false]) (by simp [results, Try.results16, go_sem, r0, r1]) rfl ?_
    obtain ⟨rfl, rfl⟩ : (⟨0, []⟩ : Pl) = q ∧ false = r := ⟨(Prod.mk.inj Hq.out).1, (Prod.mk.inj Hq.out).2⟩
    first | exact ⟨none, 0, 0, rfl, BdsR.nil _ _ _, ho2, hb7⟩ | exact ⟨none, 0, rfl, ⟨0, BdsR.nil _ _ _⟩, ho2, hb7⟩
end Go.Proofs.Ytledgblepdjjlaa
