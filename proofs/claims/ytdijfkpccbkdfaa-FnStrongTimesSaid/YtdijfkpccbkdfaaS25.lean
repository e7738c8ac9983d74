/-
  spec.PlanFor.
-/
import Derived.Test.YtdijfkpccbkdfaaS24
import Derived.Test.YtdijfkpccbkdfaaS21
namespace Go.Proofs.Ytdijfkpccbkdfaa
set_option linter.unusedVariables false
set_option linter.unusedSimpArgs false
open Go.RowKit Pp

theorem l1In_r {n lo hi : Int} {r : Bool} (h : inB n lo hi = r) (w : World) : Calls Try.prog 58 #[.int .i64 n, .int .i64 lo, .int .i64 hi] w fun e w' => e = .returned (.bool r) ∧ w' = w := by rw [← h]; exact (l1In_c n lo hi w).mono fun _ _ ⟨h1, h2⟩ => ⟨h1, h2.symm⟩

set_option maxHeartbeats 4000000 in
set_option maxRecDepth 100000 in
theorem sPlanFor_q (n : Int) (bs : List Bd) (ps : List Pr) (ls : List Int) (q : Pl) (r : Bool) (hq : planForR ⟨n, bs⟩ ps ls = (q, r)) (A A2 A3 : Option Addr) (b o c b2 o2 c2 b3 o3 c3 B : Nat) (w : World) (hn : bs.length ≤ 2000000) (hn2 : ps.length ≤ 2000000) (hn3 : ls.length ≤ 2000000) (hB : B ≤ w.heap.size) (hR : BdsR w B b o A bs) (hP : CsR w B b2 o2 A2 ps.length (prCs ps)) (hL : IntsR w B b3 o3 A3 ls) :
    Calls Try.prog 16 #[.agg #[.int .i64 n, .slice A bs.length c, .slice A2 ps.length c2], .slice A3 ls.length c3] w fun e w' => ∃ A1 c1 g1, e = .returned (.tuple #[.agg #[.int .i64 q.n, .slice A1 q.bs.length c1], .bool r]) ∧
      BdsR w' w'.heap.size g1 0 A1 q.bs ∧ OwnB w.heap.size w' (.slice A1 q.bs.length c1) q.bs ∧ Below w.heap.size w w' := by
  have hD := (pd_new (n := n) (c := c) (c2 := c2) (t := 28) hB hR hP).alloc (.cells #[.int .i64 0, .slice none 0 0] 25)
  have hY : ZB w ((w.alloc (.cells #[.int .i64 n, .slice A bs.length c, .slice A2 ps.length c2] 28)).alloc (.cells #[.int .i64 0, .slice none 0 0] 25)) (w.heap.size + 1) := by
    have h : ZB w ((w.alloc (.cells #[.int .i64 n, .slice A bs.length c, .slice A2 ps.length c2] 28)).alloc (.cells #[.int .i64 0, .slice none 0 0] 25)) (w.alloc (.cells #[.int .i64 n, .slice A bs.length c, .slice A2 ps.length c2] 28)).heap.size := zb_new (by simp)
    simpa using h
  clear hR hP
  have hno : lastsOk ⟨n, bs⟩ ps ls = false → q = ⟨0, []⟩ ∧ r = false := fun h => by unfold planForR at hq; rw [h] at hq; simpa [eq_comm] using hq
  have hyes : lastsOk ⟨n, bs⟩ ps ls = true → q = planFor ⟨n, bs⟩ ps ls ∧ r = true := fun h => by unfold planForR at hq; rw [h] at hq; simpa [eq_comm] using hq
  clear hq
  cases hd : dealOk ⟨n, bs⟩ ps
  · obtain ⟨rfl, rfl⟩ := hno (lastsOk_no fun h => by rw [dealOk_iff.2 h.1] at hd; cases hd)
    have Hd := hide hd
    clear hd hno hyes hL
    go_enter Try.func16, Try.ntmps16
    go_upto_region 1 with fail
    generalize (w.alloc (.cells #[.int .i64 n, .slice A bs.length c, .slice A2 ps.length c2] 28)).alloc (.cells #[.int .i64 0, .slice none 0 0] 25) = W at hD hY ⊢
    generalize w.heap.size + 1 = Y at hY ⊢
    have p0 := hD.r.c0
    have p1 := hD.r.c1
    have p2 := hD.r.c2
    go_wp2_with (go_at_call 41; go_fit (sDealOk_c n bs ps A A2 b o c b2 o2 c2 _ _ hn hn2 (Nat.le_refl _) hD.r.rd hD.r.rp); rintro e w2 ⟨rfl, hb⟩; rw [Hd.out]; replace hD := hD.below hb; clear p0 p1 p2; have p0 := hD.r.c0; have p1 := hD.r.c1; have p2 := hD.r.c2; replace hY := hY.below hb; have y0 := hY.z0; have y1 := hY.z1; have yf0 := hY.zf 0; have yf1 := hY.zf 1)
    obtain ⟨r0, r1, ho2, hb7⟩ := hY.fin (n := 0) (A := none) (c := 0) (bs := []) hD.bel (World.ownsRow_nil _ _ _ _) (by simp [Value.ownBlock])
    simp only [List.length_nil] at r0 r1 ho2 hb7
    refine bodyPost_ret (v := .tuple #[.agg #[.int .i64 0, .slice none 0 0], .bool false]) (by simp [results, Try.results16, go_sem, r0, r1]) rfl ?_
    first | exact ⟨none, 0, 0, rfl, BdsR.nil _ _ _, ho2, hb7⟩ | exact ⟨none, 0, rfl, ⟨0, BdsR.nil _ _ _⟩, ho2, hb7⟩
  by_cases hlen : ls.length = ps.length
  · have hzl : ((ls.length : Int) != (ps.length : Int)) = false := by simp [hlen]
    have HOk : Hid (LastsTo ps ls ls.length → q = planFor ⟨n, bs⟩ ps ls ∧ r = true) := fun h => hyes (lastsOk_iff.2 ⟨dealOk_iff.1 hd, hlen, h⟩)
    have HNo : Hid (∀ (k : Nat) (x : Pr) (l : Int), k < ls.length → ps[k]? = some x → ls[k]? = some l → inB l x.l x.h = false → q = ⟨0, []⟩ ∧ r = false) := fun k x l hk hx hl h => hno (lastsOk_no (fun ho => by have := ho.2.2 k x l hk hx hl; rw [h] at this; cases this))
    have hle1 : ls.length ≤ ps.length := by omega
    have hdl := dealOk_iff.1 hd
    have h12 : bs.length ≤ 12 := hdl.2.1
    have hp2 : ps.length ≤ 2 := hdl.2.2.1
    have Hsm : Hid (LastsTo ps ls ls.length → ∀ (i : Nat) (l : Int), ls[i]? = some l → 0 ≤ l ∧ l ≤ 12) := fun h => lasts_small ⟨hdl, hlen, h⟩
    have Hd := hide hd
    clear hd hlen hno hyes hdl
    go_enter Try.func16, Try.ntmps16
    go_upto_region 1 with fail
    generalize (w.alloc (.cells #[.int .i64 n, .slice A bs.length c, .slice A2 ps.length c2] 28)).alloc (.cells #[.int .i64 0, .slice none 0 0] 25) = W at hD hY ⊢
    generalize w.heap.size + 1 = Y at hY ⊢
    have p0 := hD.r.c0
    have p1 := hD.r.c1
    have p2 := hD.r.c2
    go_upto_region 4 with (go_at_call 41; go_fit (sDealOk_c n bs ps A A2 b o c b2 o2 c2 _ _ hn hn2 (Nat.le_refl _) hD.r.rd hD.r.rp); rintro e w2 ⟨rfl, hb⟩; rw [Hd.out]; replace hD := hD.below hb; clear p0 p1 p2; have p0 := hD.r.c0; have p1 := hD.r.c1; have p2 := hD.r.c2; replace hY := hY.below hb)
    clear hzl
    go_loopg [6] ls.length (fun gh i wr => ∃ k : Nat, k ≤ ls.length ∧ gh = ls.length - k ∧ i = .int .i64 k ∧ PD w wr w.heap.size b o n A c bs b2 o2 A2 c2 ps ∧ ZB w wr Y ∧ Hid (LastsTo ps ls k))
    case atStart => exact ⟨0, Nat.zero_le _, rfl, rfl, hD, hY, fun i x l h => by omega⟩
    case round =>
      clear hD hY p0 p1 p2
      obtain ⟨k, hk, rfl, rfl, hD, hY, hA⟩ := hrel
      have p0 := hD.r.c0
      have p1 := hD.r.c1
      have p2 := hD.r.c2
      by_cases hlt : k < ls.length
      · have hlt' : (k : Int) < (ls.length : Int) := by omega
        have hltp : (k : Int) < (ps.length : Int) := by omega
        have hk0 : (0 : Int) ≤ (k : Int) := by omega
        obtain rfl := hD.r.rp.addr (by omega)
        obtain rfl := hL.addr (by omega)
        have hx := List.getElem?_eq_getElem (show k < ps.length by omega)
        obtain ⟨_, _, d2, d3⟩ := pr_cells hD.r.rp hx
        have hl := List.getElem?_eq_getElem hlt
        have l0 := (hL.below (hD.bel.mono hB)).cell k hlt
        rw [List.getD_eq_getElem?_getD, hl] at l0
        dsimp only [Option.getD_some] at l0
        generalize ps[k] = x at hx d2 d3
        generalize ls[k] = l at hl l0
        have Hx := hide hx
        have Hl := hide hl
        clear hx hl
        have hdr : ∀ m, Below wr.heap.size wr (wr.drewN m) := fun m => ⟨rfl, rfl, rfl, Nat.le_refl _, fun _ _ => rfl⟩
        have hd : ∀ m, PD w (wr.drewN m) w.heap.size b o n A c bs b2 o2 (some ⟨b2, o2, none⟩) c2 ps := fun m => hD.below (hdr m)
        have hy : ∀ m, ZB w (wr.drewN m) Y := fun m => hY.below (hdr m)
        cases hin : inB l x.l x.h
        · obtain ⟨rfl, rfl⟩ := HNo.out k x l hlt Hx.out Hl.out hin
          have Hin := hide hin
          clear hin
          have y0 := hY.z0
          have y1 := hY.z1
          have yf0 := hY.zf 0
          have yf1 := hY.zf 1
          go_upto_region 6 with fail
          go_quiet ((go_at_call 58; exact Calls.quiet_of_same (l1In_r Hin.out _)))
          go_wp2_with fail
          replace hD := hd nq
          replace hY := hy nq
          obtain ⟨r0, r1, ho2, hb7⟩ := hY.fin (n := 0) (A := none) (c := 0) (bs := []) hD.bel (World.ownsRow_nil _ _ _ _) (by simp [Value.ownBlock])
          simp only [List.length_nil] at r0 r1 ho2 hb7
          refine bodyPost_ret (v := .tuple #[.agg #[.int .i64 0, .slice none 0 0], .bool false]) (by simp [results, Try.results16, go_sem, r0, r1]) rfl ?_
          first | exact ⟨none, 0, 0, rfl, BdsR.nil _ _ _, ho2, hb7⟩ | exact ⟨none, 0, rfl, ⟨0, BdsR.nil _ _ _⟩, ho2, hb7⟩
        · have HN : Hid (LastsTo ps ls (k + 1)) := lastsTo_step hA.out Hx.out Hl.out hin
          have Hin := hide hin
          clear hin
          go_upto_region 6 with fail
          go_quiet ((go_at_call 58; exact Calls.quiet_of_same (l1In_r Hin.out _)))
          go_wp2_with fail
          go_roundg (ls.length - (k + 1))
          case measure => go_light; omega
          case rel => go_light; exact ⟨k + 1, by omega, rfl, by go_num, hd _, hy _, HN⟩
      · obtain rfl : k = ls.length := by omega
        obtain ⟨rs, hrs⟩ : ∃ rs, bs ++ forBs ps ls = rs := ⟨_, rfl⟩
        have hqr : q = ⟨n, rs⟩ ∧ r = true := by obtain ⟨h1, h2⟩ := HOk.out hA.out; exact ⟨by rw [h1]; unfold planFor; rw [hrs], h2⟩
        obtain ⟨rfl, rfl⟩ := hqr
        have Hrs := hide hrs
        clear hrs
        have hsm := Hsm.out hA.out
        have hLr := (hL.below (hD.bel.mono hB)).more (Nat.le_trans hB hD.bel.size)
        have hYl := hY.ex
        have hws := hD.bel.size
        go_wp2_with (go_at_call 59; go_fit (l8Plan_q n bs ps ls h12 hp2 hle1 hsm rs Hrs.out A A2 A3 b o c b2 o2 c2 b3 o3 c3 _ _ (Nat.le_refl _) hD.r.rd hD.r.rp hLr); rintro e w5 ⟨A5, c5, g5, rfl, hr5, own5, hb5⟩; replace hD := hD.below hb5; replace hY := hY.below hb5; have y0 := hY.z0; have y1 := hY.z1; have yf0 := hY.zf 0; have yf1 := hY.zf 1)
        have ne : (Value.slice A5 rs.length c5).ownBlock ≠ some Y := fun e => by have := (own5.lt _ e).1; omega
        obtain ⟨r0, r1, ho2, hb7⟩ := hY.fin (n := n) hD.bel (own_less own5 hws) ne
        refine bodyPost_ret (v := .tuple #[.agg #[.int .i64 n, .slice A5 rs.length c5], .bool true]) (by simp [results, Try.results16, go_sem, r0, r1]) rfl ?_
        obtain ⟨g, hr⟩ := OwnB.readsA ho2
        first | exact ⟨A5, c5, g, rfl, hr, ho2, hb7⟩ | exact ⟨A5, c5, rfl, ⟨g, hr⟩, ho2, hb7⟩
  · have hzl : ¬ (ls.length : Int) = (ps.length : Int) := by omega
    obtain ⟨rfl, rfl⟩ := hno (lastsOk_no fun h => hlen h.2.1)
    have Hd := hide hd
    clear hd hno hyes hL hlen
    go_enter Try.func16, Try.ntmps16
    go_upto_region 1 with fail
    generalize (w.alloc (.cells #[.int .i64 n, .slice A bs.length c, .slice A2 ps.length c2] 28)).alloc (.cells #[.int .i64 0, .slice none 0 0] 25) = W at hD hY ⊢
    generalize w.heap.size + 1 = Y at hY ⊢
    have p0 := hD.r.c0
    have p1 := hD.r.c1
    have p2 := hD.r.c2
    go_wp2_with (go_at_call 41; go_fit (sDealOk_c n bs ps A A2 b o c b2 o2 c2 _ _ hn hn2 (Nat.le_refl _) hD.r.rd hD.r.rp); rintro e w2 ⟨rfl, hb⟩; rw [Hd.out]; replace hD := hD.below hb; clear p0 p1 p2; have p0 := hD.r.c0; have p1 := hD.r.c1; have p2 := hD.r.c2; replace hY := hY.below hb; have y0 := hY.z0; have y1 := hY.z1; have yf0 := hY.zf 0; have yf1 := hY.zf 1)
    obtain ⟨r0, r1, ho2, hb7⟩ := hY.fin (n := 0) (A := none) (c := 0) (bs := []) hD.bel (World.ownsRow_nil _ _ _ _) (by simp [Value.ownBlock])
    simp only [List.length_nil] at r0 r1 ho2 hb7
    refine bodyPost_ret (v := .tuple #[.agg #[.int .i64 0, .slice none 0 0], .bool false]) (by simp [results, Try.results16, go_sem, r0, r1]) rfl ?_
    first | exact ⟨none, 0, 0, rfl, BdsR.nil _ _ _, ho2, hb7⟩ | exact ⟨none, 0, rfl, ⟨0, BdsR.nil _ _ _⟩, ho2, hb7⟩
end Go.Proofs.Ytdijfkpccbkdfaa
