/-
  Chapter 1 of the program: further bounds; and chapter 4's SetTo.
-/
import Derived.Test.YtmgikoaeomieeaaL1b
import Derived.Test.YtmgikoaeomieeaaI3
namespace Go.Proofs.Ytmgikoaeomieeaa
set_option linter.unusedVariables false
set_option linter.unusedSimpArgs false
open Go.RowKit Pp

set_option maxHeartbeats 1000000 in
set_option maxRecDepth 100000 in
theorem setTo_q (p : Pl) (f t by_ : Int) (q : Pl) (r : Bool) (hq : toldP ⟨p.n, p.bs ++ [⟨f, t, by_⟩, ⟨t, f, -by_⟩]⟩ = q) (hr : planOk ⟨p.n, p.bs ++ [⟨f, t, by_⟩, ⟨t, f, -by_⟩]⟩ = r) (hy : -1000000000 ≤ by_ ∧ by_ ≤ 1000000000)
    (A : Option Addr) (b o c B : Nat) (w : World) (hn : p.bs.length ≤ 10000) (hB : B ≤ w.heap.size) (hR : BdsR w B b o A p.bs) :
    Calls Try.prog 18 #[.agg #[.int .i64 p.n, .slice A p.bs.length c], .int .i64 f, .int .i64 t, .int .i64 by_] w fun e w' =>
      ∃ A1 c1 g1, e = .returned (.tuple #[.agg #[.int .i64 q.n, .slice A1 q.bs.length c1], .bool r]) ∧ BdsR w' w'.heap.size g1 0 A1 q.bs ∧ OwnB w.heap.size w' (.slice A1 q.bs.length c1) q.bs ∧ Below w.heap.size w w' := by
  obtain ⟨n, bs⟩ := p
  dsimp only at *
  obtain ⟨hy1, hy2⟩ := hy
  obtain ⟨qs, hqs⟩ : ∃ qs, bs ++ [⟨f, t, by_⟩, ⟨t, f, -by_⟩] = qs := ⟨_, rfl⟩
  have hql : qs.length ≤ 2000000 := by rw [← hqs]; simp; omega
  have Hqs := hide hqs
  rw [hqs] at hq hr
  have Hq := hide hq
  have Hr := hide hr
  clear hq hr hqs
  go_enter Try.func18, Try.ntmps18
  go_wp2_with (first
    | (go_at_call 53; go_fit (with_q ⟨n, bs⟩ [⟨f, t, by_⟩, ⟨t, f, -by_⟩] qs Hqs.out A _ b o c _ 0 _ (w.heap.size + 3) _ (by dsimp only; omega) (by simp) (by simp only [World.size_alloc, World.size_drew]; omega) (BdsR.more (hR.below ((show Below w.heap.size w _ by go_grown).mono hB)) (by omega)) (blk_bd2 _ _ ⟨f, t, by_⟩ ⟨t, f, -by_⟩ _ _ (by simp) (Below.refl _ _) (by omega))); rintro e w1 ⟨A1, c1, g1, rfl, hr1, hown, hb⟩; obtain ⟨hc, hf⟩ := bcell hb; have hW1 : Below w.heap.size w w1 := bthen (by go_grown) hb; clear hown)
    | (go_at_call 47; go_fit (told_q ⟨n, qs⟩ q r Hq.out Hr.out A1 g1 0 c1 w1.heap.size w1 hql (Nat.le_refl _) hr1); rintro e w2 ⟨A2, c2, g2, rfl, hr2, hown2, hb2⟩; have hb3 := bthen hb hb2; obtain ⟨hc2, hf2⟩ := bcell hb3))
  have hs0 : w2.cell? ⟨w.heap.size + 1, 0, none⟩ = some (.int .i64 0) := by rw [hc2 _ _ (by simp only [World.size_alloc, World.size_drew]; omega)]; simp [go_sem]
  have hs1 : w2.cell? ⟨w.heap.size + 1, 1, none⟩ = some (.slice none 0 0) := by rw [hc2 _ _ (by simp only [World.size_alloc, World.size_drew]; omega)]; simp [go_sem]
  obtain ⟨r0, r1⟩ := two_cells (a := .int .i64 q.n) (b := .slice A2 q.bs.length c2) hs0 hs1
  refine bodyPost_ret (v := .tuple #[.agg #[.int .i64 q.n, .slice A2 q.bs.length c2], .bool r]) (by simp [results, Try.results18, go_sem, r0, r1]) rfl ?_
  have hz : w.heap.size + 1 < w1.heap.size := by have := hb.size; simp only [World.size_alloc] at this; omega
  have ho : OwnB w.heap.size _ (.slice A2 q.bs.length c2) q.bs := own_less (own_set_low (p := ⟨w.heap.size + 1, 1, none⟩) (own_set_low (p := ⟨w.heap.size + 1, 0, none⟩) hown2 hz (.int .i64 q.n)) hz (.slice A2 q.bs.length c2)) hW1.size
  obtain ⟨g, hr⟩ := OwnB.readsA ho
  exact ⟨_, _, g, rfl, hr, ho, ((bthen hW1 hb2).setCell (by simp) _).setCell (by simp) _⟩
end Go.Proofs.Ytmgikoaeomieeaa
