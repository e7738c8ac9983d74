/-
  laws.toDeal, laws.markDeal.
-/
import Derived.Test.YtdijfkpccbkdfaaE2
import Derived.Test.YtdijfkpccbkdfaaS2
namespace Go.Proofs.Ytdijfkpccbkdfaa
set_option linter.unusedVariables false
set_option linter.unusedSimpArgs false
open Go.RowKit Pp

set_option maxHeartbeats 2000000 in
set_option maxRecDepth 100000 in
theorem toDeal_q (n : Int) (bs : List Bd) (ps : List Pr) (A A2 : Option Addr) (b o c b2 o2 c2 B : Nat) (w : World) (hn : bs.length ≤ 2000000) (hn2 : ps.length ≤ 2000000) (hB : B ≤ w.heap.size) (hR : BdsR w B b o A bs) (hP : CsR w B b2 o2 A2 ps.length (prCs ps)) :
    Calls Try.prog 25 #[.agg #[.int .i64 n, .slice A bs.length c, .slice A2 ps.length c2]] w fun e w' => ∃ A1 c1 g1 A3 c3 g3, e = .returned (.agg #[.int .i64 n, .slice A1 bs.length c1, .slice A3 ps.length c3]) ∧
      BdsR w' w'.heap.size g1 0 A1 bs ∧ OwnB w.heap.size w' (.slice A1 bs.length c1) bs ∧ CsR w' w'.heap.size g3 0 A3 ps.length (prCs ps) ∧ w'.ownsRow w.heap.size 40 4 (.slice A3 ps.length c3) ps.length (prCs ps) ∧ Below w.heap.size w w' := by
  have hb0 : Below w.heap.size w (w.alloc (.cells #[.int .i64 n, .slice A bs.length c, .slice A2 ps.length c2] 47)) := by go_grown
  have hb1 : Below w.heap.size w ((w.alloc (.cells #[.int .i64 n, .slice A bs.length c, .slice A2 ps.length c2] 47)).alloc (.cells #[.int .i64 0, .slice none 0 0, .slice none 0 0] 28)) := by go_grown
  have hW : Below w.heap.size w (((w.alloc (.cells #[.int .i64 n, .slice A bs.length c, .slice A2 ps.length c2] 47)).alloc (.cells #[.int .i64 0, .slice none 0 0, .slice none 0 0] 28)).alloc (.cells #[.int .i64 0, .slice none 0 0, .slice none 0 0] 28)) := by go_grown
  have hD : CB (((w.alloc (.cells #[.int .i64 n, .slice A bs.length c, .slice A2 ps.length c2] 47)).alloc (.cells #[.int .i64 0, .slice none 0 0, .slice none 0 0] 28)).alloc (.cells #[.int .i64 0, .slice none 0 0, .slice none 0 0] 28)) w.heap.size [.int .i64 n, .slice A bs.length c, .slice A2 ps.length c2] := ((cb_new w _ _).alloc _).alloc _
  have hY : ZD w (((w.alloc (.cells #[.int .i64 n, .slice A bs.length c, .slice A2 ps.length c2] 47)).alloc (.cells #[.int .i64 0, .slice none 0 0, .slice none 0 0] 28)).alloc (.cells #[.int .i64 0, .slice none 0 0, .slice none 0 0] 28)) (w.heap.size + 1) [.int .i64 0, .slice none 0 0, .slice none 0 0] := by
    have h := zd_new (t := 28) [.int .i64 0, .slice none 0 0, .slice none 0 0] hb0.size
    simp only [World.size_alloc] at h
    exact h.below (by go_grown)
  have hX : ZD w (((w.alloc (.cells #[.int .i64 n, .slice A bs.length c, .slice A2 ps.length c2] 47)).alloc (.cells #[.int .i64 0, .slice none 0 0, .slice none 0 0] 28)).alloc (.cells #[.int .i64 0, .slice none 0 0, .slice none 0 0] 28)) (w.heap.size + 1 + 1) [.int .i64 0, .slice none 0 0, .slice none 0 0] := by
    have h := zd_new (t := 28) [.int .i64 0, .slice none 0 0, .slice none 0 0] hb1.size
    simp only [World.size_alloc] at h
    exact h
  go_enter Try.func25, Try.ntmps25
  go_upto_region 2 with fail
  generalize (((w.alloc (.cells #[.int .i64 n, .slice A bs.length c, .slice A2 ps.length c2] 47)).alloc (.cells #[.int .i64 0, .slice none 0 0, .slice none 0 0] 28)).alloc (.cells #[.int .i64 0, .slice none 0 0, .slice none 0 0] 28)) = W at hD hW hY hX ⊢
  have hDX : w.heap.size ≠ w.heap.size + 1 + 1 := by omega
  have hDY : w.heap.size ≠ w.heap.size + 1 := by omega
  have hXY : w.heap.size + 1 ≠ w.heap.size + 1 + 1 := by omega
  generalize w.heap.size + 1 + 1 = X at hX hXY hDX ⊢
  generalize w.heap.size + 1 = Y at hY hXY hDY ⊢
  clear hb0 hb1
  have p0 := hD.c 0 _ rfl
  have p1 := hD.c 1 _ rfl
  have x0 := hX.b.c 0 _ rfl
  have x1 := hX.b.c 1 _ rfl
  have xf0 := hX.zf 0
  have xf1 := hX.zf 1
  have hXl := hX.b.ex
  have hYl := hY.b.ex
  have hRW := hR.below (hW.mono hB)
  go_upto_region 3 with (go_at_call 69; go_fit (toPlan_q n bs A b o c B W hn (Nat.le_trans hB hW.size) hRW); rintro e w2 ⟨A1, c1, g1, rfl, hr1, own1, hb2⟩; replace hW := bthen hW hb2; replace hD := hD.below hb2; replace hX := hX.below hb2; replace hY := hY.below hb2; clear p0 p1 x0 x1 xf0 xf1; have x0 := hX.b.c 0 _ rfl; have x1 := hX.b.c 1 _ rfl; have xf0 := hX.zf 0; have xf1 := hX.zf 1)
  have nX : (Value.slice A1 bs.length c1).ownBlock ≠ some X := fun e => by have := (own1.lt _ e).1; omega
  have nY : (Value.slice A1 bs.length c1).ownBlock ≠ some Y := fun e => by have := (own1.lt _ e).1; omega
  have own2 : OwnB w.heap.size w2 (.slice A1 bs.length c1) bs := own_less own1 (by have := hX.lo; omega)
  have own3 : OwnB w.heap.size ((w2.setCell ⟨X, 0, none⟩ (.int .i64 n)).setCell ⟨X, 1, none⟩ (.slice A1 bs.length c1)) (.slice A1 bs.length c1) bs := own_set (own_set own2 nX _) nX _
  have hX3 : ZD w ((w2.setCell ⟨X, 0, none⟩ (.int .i64 n)).setCell ⟨X, 1, none⟩ (.slice A1 bs.length c1)) X [.int .i64 n, .slice A1 bs.length c1, .slice none 0 0] := (hX.put 0 (.int .i64 n) (by simp)).put 1 (.slice A1 bs.length c1) (by simp)
  have hg1 := grown_set w2 ⟨X, 0, none⟩ (.int .i64 n)
  have hg2 := grown_set (w2.setCell ⟨X, 0, none⟩ (.int .i64 n)) ⟨X, 1, none⟩ (.slice A1 bs.length c1)
  have hY3 : ZD w ((w2.setCell ⟨X, 0, none⟩ (.int .i64 n)).setCell ⟨X, 1, none⟩ (.slice A1 bs.length c1)) Y [.int .i64 0, .slice none 0 0, .slice none 0 0] := (hY.grown hg1 (by simpa using hXY)).grown hg2 (by simpa using hXY)
  have hD3 : CB ((w2.setCell ⟨X, 0, none⟩ (.int .i64 n)).setCell ⟨X, 1, none⟩ (.slice A1 bs.length c1)) w.heap.size [.int .i64 n, .slice A bs.length c, .slice A2 ps.length c2] := (hD.grown hg1 (by simpa using hDX)).grown hg2 (by simpa using hDX)
  have hW3 : Below w.heap.size w ((w2.setCell ⟨X, 0, none⟩ (.int .i64 n)).setCell ⟨X, 1, none⟩ (.slice A1 bs.length c1)) := (hW.setCell (p := ⟨X, 0, none⟩) hX.lo _).setCell (p := ⟨X, 1, none⟩) hX.lo _
  generalize (w2.setCell ⟨X, 0, none⟩ (.int .i64 n)).setCell ⟨X, 1, none⟩ (.slice A1 bs.length c1) = W3 at own3 hX3 hY3 hD3 hW3 ⊢
  clear hr1 own1 own2 hb2 hX hY hD hW hRW x0 x1 xf0 xf1 hg1 hg2 hXl hYl
  have p2 := hD3.c 2 _ rfl
  have x2 := hX3.b.c 2 _ rfl
  have xf2 := hX3.zf 2
  have hXl := hX3.b.ex
  have hYl := hY3.b.ex
  have hPW := hP.below (hW3.mono hB)
  go_upto_region 4 with (go_at_call 70; go_fit (toPromiseS_c A2 b2 o2 c2 B ps W3 hn2 (Nat.le_trans hB hW3.size) hPW); rintro e w4 ⟨A3, c3, rfl, ownP, hb4⟩; replace hW3 := bthen hW3 hb4; replace own3 := own_below own3 hb4; replace hX3 := hX3.below hb4; replace hY3 := hY3.below hb4; clear p2 x2 xf2; have x2 := hX3.b.c 2 _ rfl; have xf2 := hX3.zf 2)
  have mX : (Value.slice A3 ps.length c3).ownBlock ≠ some X := fun e => by have := (ownP.lt _ e).1; omega
  have mY : (Value.slice A3 ps.length c3).ownBlock ≠ some Y := fun e => by have := (ownP.lt _ e).1; omega
  have hX5 : ZD w (w4.setCell ⟨X, 2, none⟩ (.slice A3 ps.length c3)) X [.int .i64 n, .slice A1 bs.length c1, .slice A3 ps.length c3] := hX3.put 2 (.slice A3 ps.length c3) (by simp)
  have hY5 : ZD w (w4.setCell ⟨X, 2, none⟩ (.slice A3 ps.length c3)) Y [.int .i64 0, .slice none 0 0, .slice none 0 0] := hY3.grown (grown_set w4 ⟨X, 2, none⟩ _) (by simpa using hXY)
  have hW5 : Below w.heap.size w (w4.setCell ⟨X, 2, none⟩ (.slice A3 ps.length c3)) := hW3.setCell (p := ⟨X, 2, none⟩) hX3.lo _
  have own5 : OwnB w.heap.size (w4.setCell ⟨X, 2, none⟩ (.slice A3 ps.length c3)) (.slice A1 bs.length c1) bs := own_set own3 nX _
  have ownP5 : (w4.setCell ⟨X, 2, none⟩ (.slice A3 ps.length c3)).ownsRow w.heap.size 40 4 (.slice A3 ps.length c3) ps.length (prCs ps) := own_set (own_less ownP (by have := hX3.lo; omega)) mX _
  generalize w4.setCell ⟨X, 2, none⟩ (.slice A3 ps.length c3) = W5 at hX5 hY5 hW5 own5 ownP5 ⊢
  clear x2 xf2 hX3 hY3 hW3 own3 ownP hb4 hXl hYl hD3 hPW
  have x0 := hX5.b.c 0 _ rfl
  have x1 := hX5.b.c 1 _ rfl
  have x2 := hX5.b.c 2 _ rfl
  have y0 := hY5.b.c 0 _ rfl
  have y1 := hY5.b.c 1 _ rfl
  have y2 := hY5.b.c 2 _ rfl
  have yf0 := hY5.zf 0
  have yf1 := hY5.zf 1
  have yf2 := hY5.zf 2
  go_wp2_with fail
  have hY6 := ((hY5.put 0 (.int .i64 n) (by simp)).put 1 (.slice A1 bs.length c1) (by simp)).put 2 (.slice A3 ps.length c3) (by simp)
  have r0 := hY6.b.c 0 _ rfl
  have r1 := hY6.b.c 1 _ rfl
  have r2 := hY6.b.c 2 _ rfl
  have ho : OwnB w.heap.size _ (.slice A1 bs.length c1) bs := own_set (own_set (own_set own5 (p := ⟨Y, 0, none⟩) nY (.int .i64 n)) (p := ⟨Y, 1, none⟩) nY (.slice A1 bs.length c1)) (p := ⟨Y, 2, none⟩) nY (.slice A3 ps.length c3)
  have hoP := own_set (own_set (own_set ownP5 (p := ⟨Y, 0, none⟩) mY (.int .i64 n)) (p := ⟨Y, 1, none⟩) mY (.slice A1 bs.length c1)) (p := ⟨Y, 2, none⟩) mY (.slice A3 ps.length c3)
  have hb7 : Below w.heap.size w _ := ((hW5.setCell (p := ⟨Y, 0, none⟩) hY5.lo (.int .i64 n)).setCell (p := ⟨Y, 1, none⟩) hY5.lo (.slice A1 bs.length c1)).setCell (p := ⟨Y, 2, none⟩) hY5.lo (.slice A3 ps.length c3)
  refine bodyPost_ret (v := .agg #[.int .i64 n, .slice A1 bs.length c1, .slice A3 ps.length c3]) (by simp [results, Try.results25, go_sem, r0, r1, r2]) rfl ?_
  obtain ⟨g, hr⟩ := OwnB.readsA ho
  obtain ⟨g3, hr3⟩ := own_csR hoP
  exact ⟨A1, c1, g, A3, c3, g3, rfl, hr, ho, hr3, hoP, hb7⟩

set_option maxHeartbeats 1000000 in
set_option maxRecDepth 100000 in
theorem markDeal_c (n k0 : Int) (base : Nat) (A A2 : Option Addr) (c c2 : Nat) (bs : List Bd) (ps : List Pr) (w : World) (hk : 0 ≤ k0 ∧ k0 ≤ 100000000) (hn : bs.length ≤ 2000000) (hn2 : ps.length ≤ 2000000) (hown : OwnB base w (.slice A bs.length c) bs) (hownP : w.ownsRow base 40 4 (.slice A2 ps.length c2) ps.length (prCs ps)) (hw : base ≤ w.heap.size) :
    Calls Try.prog 30 #[.agg #[.int .i64 n, .slice A bs.length c, .slice A2 ps.length c2], .int .i64 k0] w fun e w' => e = .returned (.int .i64 (k0 + 3 * bs.length + 4 * ps.length)) ∧ ∃ w1, w.grownBy w1 (Value.slice A bs.length c).ownBlock ∧ w1.grownBy w' (Value.slice A2 ps.length c2).ownBlock := by
  have hne : (Value.slice A2 ps.length c2).ownBlock = none ∨ (Value.slice A2 ps.length c2).ownBlock ≠ (Value.slice A bs.length c).ownBlock := by
    cases h : (Value.slice A2 ps.length c2).ownBlock with
    | none => exact .inl rfl
    | some k => exact .inr (fun e => own_ne hownP hown (by decide) e.symm h)
  have hD := cb_new w [.int .i64 n, .slice A bs.length c, .slice A2 ps.length c2] 28
  have hown2 : OwnB base (w.alloc (.cells #[.int .i64 n, .slice A bs.length c, .slice A2 ps.length c2] 28)) (.slice A bs.length c) bs := hown.alloc _
  have hownP2 : (w.alloc (.cells #[.int .i64 n, .slice A bs.length c, .slice A2 ps.length c2] 28)).ownsRow base 40 4 (.slice A2 ps.length c2) ps.length (prCs ps) := hownP.alloc _
  have hG1 : w.grownBy (w.alloc (.cells #[.int .i64 n, .slice A bs.length c, .slice A2 ps.length c2] 28)) (Value.slice A bs.length c).ownBlock := World.grownBy_alloc w _ _
  have hw2 : base ≤ (w.alloc (.cells #[.int .i64 n, .slice A bs.length c, .slice A2 ps.length c2] 28)).heap.size := by simp; omega
  have hq : some w.heap.size ≠ (Value.slice A bs.length c).ownBlock := fun e => by have := (hown.lt _ e.symm).2; omega
  go_enter Try.func30, Try.ntmps30
  go_upto_region 1 with fail
  generalize w.alloc (.cells #[.int .i64 n, .slice A bs.length c, .slice A2 ps.length c2] 28) = W at hD hown2 hownP2 hG1 hw2 ⊢
  have p0 := hD.c 0 _ rfl
  have p1 := hD.c 1 _ rfl
  have p2 := hD.c 2 _ rfl
  clear hown hownP hw
  go_wp2_with (first
    | (go_at_call 32; go_fit (markPlan_c n k0 base A c bs _ (by omega) hn hown2 hw2); rintro e w2 ⟨rfl, ho, hG⟩; clear p0 p1 p2; replace hD := hD.grown hG hq; have p2 := hD.c 2 _ rfl; replace hownP2 := hownP2.kept hG hne; replace hw2 := Nat.le_trans hw2 hG.size; clear ho; replace hG1 := gr_trans hG1 hG)
    | (go_at_call 73; go_fit (markPromiseS_c (k0 + 3 * bs.length) base ps.length A2 c2 (prCs ps) _ (by omega) hn2 hownP2 hw2); rintro e w3 ⟨rfl, ho, hG3⟩))
  go_ret
  exact ⟨rfl, _, hG1, hG3⟩
end Go.Proofs.Ytdijfkpccbkdfaa
