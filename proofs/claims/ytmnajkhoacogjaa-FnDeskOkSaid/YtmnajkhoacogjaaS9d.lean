/-
  spec: DeskNew.
  spec: DeskNew, of any plan.
-/
import Derived.Test.YtmnajkhoacogjaaS9b
namespace Go.Proofs.Ytmnajkhoacogjaa
set_option linter.unusedVariables false
set_option linter.unusedSimpArgs false

open Go Go.RowKit Pp

namespace Pp
/-- A desk and a word that are handed back. -/
def DkV2 (w w' : World) (d : Dk) (r : Bool) (v : Value) : Prop := ∃ A c A2 c2, v = .tuple #[.agg #[.int .i64 d.now.n, .slice A d.now.bs.length c, .slice A2 d.past.length c2], .bool r] ∧ OwnB w.heap.size w' (.slice A d.now.bs.length c) d.now.bs ∧ OwnPs w.heap.size w' (.slice A2 d.past.length c2) d.past
end Pp
set_option maxHeartbeats 4000000 in
set_option maxRecDepth 100000 in
theorem sDeskNew_q (p : Pl) (hp : planOk p = true) (A : Option Addr) (b o c B : Nat) (w : World) (hB : B ≤ w.heap.size) (hR : BdsR w B b o A p.bs) :
    Calls Try.prog 12 #[.agg #[.int .i64 p.n, .slice A p.bs.length c]] w fun e w' => ∃ v, e = .returned v ∧ DkV2 w w' ⟨p, []⟩ true v ∧ Below w.heap.size w w' := by
  have h16 : p.bs.length ≤ 16 := (planOk_iff.1 hp).2.1
  obtain ⟨n, bs⟩ := p
  dsimp only at *
  have hD := (po_new (t := 25) (n := n) (c := c) (Below.refl w.heap.size w) (hR.more hB)).alloc (.cells #[.int .i64 0, .slice none 0 0, .slice none 0 0] 28)
  have hY : ZD w ((w.alloc (.cells #[.int .i64 n, .slice A bs.length c] 25)).alloc (.cells #[.int .i64 0, .slice none 0 0, .slice none 0 0] 28)) (w.heap.size + 1) := zd_at (by simp) (by simp)
  have Hp := hide hp
  clear hR hp hB
  go_enter Try.func12, Try.ntmps12
  go_upto_region 1 with fail
  generalize (w.alloc (.cells #[.int .i64 n, .slice A bs.length c] 25)).alloc (.cells #[.int .i64 0, .slice none 0 0, .slice none 0 0] 28) = W at hD hY ⊢
  have p0 := hD.c0
  have p1 := hD.c1
  go_upto_region 3 with (go_at_call 11; go_fit (sPlanOk_c ⟨n, bs⟩ A b o c _ _ (show bs.length ≤ 2000000 by omega) (Nat.le_refl _) hD.rd); rintro e w2 ⟨rfl, hb⟩; rw [Hp.out]; replace hY := hY.below hb; replace hD := hD.below hb)
  clear p0 p1 hb
  have p0 := hD.c0
  have p1 := hD.c1
  have hYl := hY.ex
  have hsz := hD.bel.size
  go_wp2_with (go_at_call 23; go_fit (l15Plan_q ⟨n, bs⟩ A b o c _ _ (show bs.length ≤ 100 by omega) (Nat.le_refl _) hD.rd); rintro e w3 ⟨A3, c3, g3, rfl, hr3, own3, hb3⟩; have hY3 := hY.below hb3; have z0 := hY3.z0; have z1 := hY3.z1; have z2 := hY3.z2; have zf0 := hY3.zf 0; have zf1 := hY3.zf 1; have zf2 := hY3.zf 2)
  have own9 := ((own3.setLow hYl 0 (.int .i64 n)).setLow hYl 1 (.slice A3 bs.length c3)).setLow hYl 2 (.slice none 0 0)
  obtain ⟨r0, r1, r2⟩ := three_cellsD (a := .int .i64 n) (b := .slice A3 bs.length c3) (d := .slice none 0 0) z0 z1 z2
  have hb9 := (((bthen hD.bel hb3).setCell (p := ⟨w.heap.size + 1, 0, none⟩) hY.lo (.int .i64 n)).setCell (p := ⟨w.heap.size + 1, 1, none⟩) hY.lo (.slice A3 bs.length c3)).setCell (p := ⟨w.heap.size + 1, 2, none⟩) hY.lo (.slice none 0 0)
  refine bodyPost_ret (v := .tuple #[.agg #[.int .i64 n, .slice A3 bs.length c3, .slice none 0 0], .bool true]) (by simp [results, Try.results12, go_sem, r0, r1, r2]) rfl ?_
  exact ⟨_, rfl, ⟨A3, c3, none, 0, rfl, own_less own9 hsz, OwnPs.nil _ _⟩, hb9⟩

open Go Go.RowKit Pp

namespace Pp
def newD (p : Pl) : Dk := if planOk p then ⟨p, []⟩ else ⟨⟨0, []⟩, []⟩
end Pp
set_option maxHeartbeats 4000000 in
set_option maxRecDepth 100000 in
theorem sDeskNew_no (p : Pl) (hp : planOk p = false) (A : Option Addr) (b o c B : Nat) (w : World) (hn : p.bs.length ≤ 2000000) (hB : B ≤ w.heap.size) (hR : BdsR w B b o A p.bs) :
    Calls Try.prog 12 #[.agg #[.int .i64 p.n, .slice A p.bs.length c]] w fun e w' => ∃ v, e = .returned v ∧ DkV2 w w' ⟨⟨0, []⟩, []⟩ false v ∧ Below w.heap.size w w' := by
  obtain ⟨n, bs⟩ := p
  dsimp only at *
  have hD := (po_new (t := 25) (n := n) (c := c) (Below.refl w.heap.size w) (hR.more hB)).alloc (.cells #[.int .i64 0, .slice none 0 0, .slice none 0 0] 28)
  have hY : ZD w ((w.alloc (.cells #[.int .i64 n, .slice A bs.length c] 25)).alloc (.cells #[.int .i64 0, .slice none 0 0, .slice none 0 0] 28)) (w.heap.size + 1) := zd_at (by simp) (by simp)
  have Hp := hide hp
  clear hR hp hB
  go_enter Try.func12, Try.ntmps12
  go_upto_region 1 with fail
  generalize (w.alloc (.cells #[.int .i64 n, .slice A bs.length c] 25)).alloc (.cells #[.int .i64 0, .slice none 0 0, .slice none 0 0] 28) = W at hD hY ⊢
  have p0 := hD.c0
  have p1 := hD.c1
  go_upto_region 2 with (go_at_call 11; go_fit (sPlanOk_c ⟨n, bs⟩ A b o c _ _ (show bs.length ≤ 2000000 by omega) (Nat.le_refl _) hD.rd); rintro e w2 ⟨rfl, hb⟩; rw [Hp.out]; replace hY := hY.below hb; replace hD := hD.below hb)
  clear p0 p1 hb
  have hbel := hD.bel
  clear hD
  have z0 := hY.z0
  have z1 := hY.z1
  have z2 := hY.z2
  have zf0 := hY.zf 0
  have zf1 := hY.zf 1
  have zf2 := hY.zf 2
  obtain ⟨r0, r1, r2⟩ := three_cellsD (a := .int .i64 0) (b := .slice none 0 0) (d := .slice none 0 0) z0 z1 z2
  have hb9 := ((hbel.setCell (p := ⟨w.heap.size + 1, 0, none⟩) hY.lo (.int .i64 0)).setCell (p := ⟨w.heap.size + 1, 1, none⟩) hY.lo (.slice none 0 0)).setCell (p := ⟨w.heap.size + 1, 2, none⟩) hY.lo (.slice none 0 0)
  go_wp2_with fail
  refine bodyPost_ret (v := .tuple #[.agg #[.int .i64 0, .slice none 0 0, .slice none 0 0], .bool false]) (by simp [results, Try.results12, go_sem, r0, r1, r2]) rfl ?_
  exact ⟨_, rfl, ⟨none, 0, none, 0, rfl, World.ownsRow_nil _ _ _ _, OwnPs.nil _ _⟩, hb9⟩
theorem sDeskNew_any (p : Pl) (A : Option Addr) (b o c B : Nat) (w : World) (hn : p.bs.length ≤ 2000000) (hB : B ≤ w.heap.size) (hR : BdsR w B b o A p.bs) :
    Calls Try.prog 12 #[.agg #[.int .i64 p.n, .slice A p.bs.length c]] w fun e w' => ∃ v, e = .returned v ∧ DkV2 w w' (newD p) (planOk p) v ∧ Below w.heap.size w w' := by
  unfold newD
  cases hp : planOk p
  · exact sDeskNew_no p hp A b o c B w hn hB hR
  · exact sDeskNew_q p hp A b o c B w hB hR
end Go.Proofs.Ytmnajkhoacogjaa
