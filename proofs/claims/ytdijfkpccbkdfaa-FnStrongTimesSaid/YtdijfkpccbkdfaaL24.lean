/-
  (impl.Deal).lastsOk.
-/
import Derived.Test.YtdijfkpccbkdfaaL21
import Derived.Test.YtdijfkpccbkdfaaP9
namespace Go.Proofs.Ytdijfkpccbkdfaa
set_option linter.unusedVariables false
set_option linter.unusedSimpArgs false
open Go.RowKit Pp

theorem in_r {n lo hi : Int} {r : Bool} (h : inB n lo hi = r) (w : World) : Calls Try.prog 62 #[.int .i64 n, .int .i64 lo, .int .i64 hi] w fun e w' => e = .returned (.bool r) ∧ w' = w := by rw [← h]; exact (in_c n lo hi w).mono fun _ _ ⟨h1, h2⟩ => ⟨h1, h2.symm⟩

set_option maxHeartbeats 4000000 in
set_option maxRecDepth 100000 in
theorem lastsOk_c (n : Int) (bs : List Bd) (ps : List Pr) (ls : List Int) (A A2 A3 : Option Addr) (b o c b2 o2 c2 b3 o3 c3 B : Nat) (w : World) (hn : bs.length ≤ 2000000) (hn2 : ps.length ≤ 2000000) (hn3 : ls.length ≤ 2000000) (hB : B ≤ w.heap.size) (hR : BdsR w B b o A bs) (hP : CsR w B b2 o2 A2 ps.length (prCs ps)) (hL : IntsR w B b3 o3 A3 ls) :
    Calls Try.prog 55 #[.agg #[.int .i64 n, .slice A bs.length c, .slice A2 ps.length c2], .slice A3 ls.length c3] w fun e w' => e = .returned (.bool (lastsOk ⟨n, bs⟩ ps ls)) ∧ Below w.heap.size w w' := by
  have hD := pd_new (n := n) (c := c) (c2 := c2) (t := 28) hB hR hP
  cases hd : dealOk ⟨n, bs⟩ ps
  · have Hr : Hid (lastsOk ⟨n, bs⟩ ps ls = false) := lastsOk_no (fun h => by rw [dealOk_iff.2 h.1] at hd; cases hd)
    have Hd := hide hd
    clear hd hR hP hL hB
    go_enter Try.func55, Try.ntmps55
    go_upto_region 1 with fail
    generalize w.alloc (.cells #[.int .i64 n, .slice A bs.length c, .slice A2 ps.length c2] 28) = W at hD ⊢
    have p0 := hD.r.c0
    have p1 := hD.r.c1
    have p2 := hD.r.c2
    go_wp2_with (go_at_call 45; go_fit (dealOk_c n bs ps A A2 b o c b2 o2 c2 _ _ hn hn2 (Nat.le_refl _) hD.r.rd hD.r.rp); rintro e w2 ⟨rfl, hb⟩; rw [Hd.out]; replace hD := hD.below hb; clear p0 p1 p2; have p0 := hD.r.c0; have p1 := hD.r.c1; have p2 := hD.r.c2)
    go_ret
    exact ⟨by rw [Hr.out]; rfl, hD.bel⟩
  by_cases hlen : ls.length = ps.length
  · have hzl : ((ls.length : Int) != (ps.length : Int)) = false := by simp [hlen]
    have HOk : Hid (LastsTo ps ls ls.length → lastsOk ⟨n, bs⟩ ps ls = true) := fun h => lastsOk_iff.2 ⟨dealOk_iff.1 hd, hlen, h⟩
    have HNo : Hid (∀ (k : Nat) (x : Pr) (l : Int), k < ls.length → ps[k]? = some x → ls[k]? = some l → inB l x.l x.h = false → lastsOk ⟨n, bs⟩ ps ls = false) := fun k x l hk hx hl h => lastsOk_no (fun ho => by have := ho.2.2 k x l hk hx hl; rw [h] at this; cases this)
    have hle1 : ls.length ≤ ps.length := by omega
    have Hd := hide hd
    clear hd hlen
    have hLB := hB
    clear hR hP
    go_enter Try.func55, Try.ntmps55
    go_upto_region 1 with fail
    generalize w.alloc (.cells #[.int .i64 n, .slice A bs.length c, .slice A2 ps.length c2] 28) = W at hD ⊢
    have p0 := hD.r.c0
    have p1 := hD.r.c1
    have p2 := hD.r.c2
    go_upto_region 4 with (go_at_call 45; go_fit (dealOk_c n bs ps A A2 b o c b2 o2 c2 _ _ hn hn2 (Nat.le_refl _) hD.r.rd hD.r.rp); rintro e w2 ⟨rfl, hb⟩; rw [Hd.out]; replace hD := hD.below hb; clear p0 p1 p2; have p0 := hD.r.c0; have p1 := hD.r.c1; have p2 := hD.r.c2)
    clear hzl
    go_loopg [20] ls.length (fun gh i wr => ∃ k : Nat, k ≤ ls.length ∧ gh = ls.length - k ∧ i = .int .i64 k ∧ PD w wr w.heap.size b o n A c bs b2 o2 A2 c2 ps ∧ Hid (LastsTo ps ls k))
    case atStart => exact ⟨0, Nat.zero_le _, rfl, rfl, hD, fun i x l h => by omega⟩
    case round =>
      clear hD p0 p1 p2
      obtain ⟨k, hk, rfl, rfl, hD, hA⟩ := hrel
      have p2 := hD.r.c2
      by_cases hlt : k < ls.length
      · have hlt' : (k : Int) < (ls.length : Int) := by omega
        have hltp : (k : Int) < (ps.length : Int) := by omega
        have hk0 : (0 : Int) ≤ (k : Int) := by omega
        obtain rfl := hD.r.rp.addr (by omega)
        obtain rfl := hL.addr (by omega)
        have hx := List.getElem?_eq_getElem (show k < ps.length by omega)
        obtain ⟨_, _, d2, d3⟩ := pr_cells hD.r.rp hx
        have hl := List.getElem?_eq_getElem hlt
        have l0 := (hL.below (hD.bel.mono hB)).cell k hlt
        rw [List.getD_eq_getElem?_getD, hl] at l0
        dsimp only [Option.getD_some] at l0
        generalize ps[k] = x at hx d2 d3
        generalize ls[k] = l at hl l0
        have Hx := hide hx
        have Hl := hide hl
        clear hx hl
        have hbl := World.block_lt_of_cell? _ _ d2
        have hd : ∀ m, PD w (wr.drewN m) w.heap.size b o n A c bs b2 o2 (some ⟨b2, o2, none⟩) c2 ps := fun m => hD.below ⟨rfl, rfl, rfl, Nat.le_refl _, fun _ _ => rfl⟩
        cases hin : inB l x.l x.h
        · have Hr : Hid (lastsOk ⟨n, bs⟩ ps ls = false) := HNo.out k x l hlt Hx.out Hl.out hin
          have Hin := hide hin
          clear hin
          go_upto_region 6 with fail
          go_quiet ((go_at_call 62; exact Calls.quiet_of_same (in_r Hin.out _)))
          go_wp2_with fail
          go_ret
          exact ⟨by rw [Hr.out]; rfl, (hd _).bel⟩
        · have HN : Hid (LastsTo ps ls (k + 1)) := lastsTo_step hA.out Hx.out Hl.out hin
          have Hin := hide hin
          clear hin
          go_upto_region 6 with fail
          go_quiet ((go_at_call 62; exact Calls.quiet_of_same (in_r Hin.out _)))
          go_wp2_with fail
          go_roundg (ls.length - (k + 1))
          case measure => go_light; omega
          case rel => go_light; exact ⟨k + 1, by omega, rfl, by go_num, hd _, HN⟩
      · obtain rfl : k = ls.length := by omega
        have Hr : Hid (lastsOk ⟨n, bs⟩ ps ls = true) := HOk.out hA.out
        go_wp2_with fail
        go_ret
        exact ⟨by rw [Hr.out]; rfl, hD.bel⟩
  · have hzl : ¬ (ls.length : Int) = (ps.length : Int) := by omega
    have Hr : Hid (lastsOk ⟨n, bs⟩ ps ls = false) := lastsOk_no (fun h => hlen h.2.1)
    have Hd := hide hd
    clear hd hR hP hL hB hlen
    go_enter Try.func55, Try.ntmps55
    go_upto_region 1 with fail
    generalize w.alloc (.cells #[.int .i64 n, .slice A bs.length c, .slice A2 ps.length c2] 28) = W at hD ⊢
    have p0 := hD.r.c0
    have p1 := hD.r.c1
    have p2 := hD.r.c2
    go_wp2_with (go_at_call 45; go_fit (dealOk_c n bs ps A A2 b o c b2 o2 c2 _ _ hn hn2 (Nat.le_refl _) hD.r.rd hD.r.rp); rintro e w2 ⟨rfl, hb⟩; rw [Hd.out]; replace hD := hD.below hb; clear p0 p1 p2; have p0 := hD.r.c0; have p1 := hD.r.c1; have p2 := hD.r.c2)
    go_ret
    exact ⟨by rw [Hr.out]; rfl, hD.bel⟩
end Go.Proofs.Ytdijfkpccbkdfaa
