/-
  Chapter 4 of the reference: a difference that is set, in two steps.
-/
import Derived.Test.YtjlaljnffmncpaaS3b
namespace Go.Proofs.Ytjlaljnffmncpaa
set_option linter.unusedVariables false
set_option linter.unusedSimpArgs false
open Go.RowKit Pp

theorem planOk_eq (n : Int) (l : List Bd) : planOk ⟨n, l⟩ = (inB n 1 6 && decide (l.length ≤ 16) && l.all (bdOk n)) := rfl
theorem planOk_less {n : Int} {a b : List Bd} (h : planOk ⟨n, a ++ b⟩ = true) : planOk ⟨n, a⟩ = true := by
  rw [planOk_eq] at h ⊢
  simp only [Bool.and_eq_true, decide_eq_true_eq, List.length_append, List.all_append] at h ⊢
  exact ⟨⟨h.1.1, by omega⟩, h.2.1⟩
/-- One bound behind the other, told each time, is both told at once. -/
theorem told_two (n : Int) (bs : List Bd) (x y : Bd) (q1 : Pl) (h1 : toldP ⟨n, bs ++ [x]⟩ = q1) :
    toldP ⟨q1.n, q1.bs ++ [y]⟩ = toldP ⟨n, bs ++ [x, y]⟩ ∧ planOk ⟨q1.n, q1.bs ++ [y]⟩ = planOk ⟨n, bs ++ [x, y]⟩ := by
  have e : bs ++ [x, y] = (bs ++ [x]) ++ [y] := by simp
  cases h : planOk ⟨n, bs ++ [x]⟩
  · have e1 : q1 = ⟨0, []⟩ := by rw [← h1, toldP, if_neg (by simp [h])]
    subst e1
    have n1 : planOk ⟨n, bs ++ [x, y]⟩ = false := by
      cases h2 : planOk ⟨n, bs ++ [x, y]⟩
      · rfl
      · rw [e] at h2; rw [planOk_less h2] at h; cases h
    have n2 : planOk ⟨0, [y]⟩ = false := by rw [planOk_eq]; simp [inB]
    simp only [List.nil_append, toldP, n1, n2]
    exact ⟨rfl, trivial⟩
  · have e1 : q1 = ⟨n, bs ++ [x]⟩ := by rw [← h1, toldP, if_pos h]
    subst e1
    dsimp only
    rw [e]
    exact ⟨rfl, rfl⟩

set_option maxHeartbeats 1000000 in
set_option maxRecDepth 100000 in
theorem sSetTo_q (n : Int) (bs : List Bd) (f t by_ : Int) (q : Pl) (r : Bool) (hq : toldP ⟨n, bs ++ [⟨f, t, by_⟩, ⟨t, f, -by_⟩]⟩ = q) (hr : planOk ⟨n, bs ++ [⟨f, t, by_⟩, ⟨t, f, -by_⟩]⟩ = r) (hy : -1000000000 ≤ by_ ∧ by_ ≤ 1000000000)
    (A : Option Addr) (b o c B : Nat) (w : World) (hn : bs.length ≤ 10000) (hB : B ≤ w.heap.size) (hR : BdsR w B b o A bs) :
    Calls Try.prog 37 #[.agg #[.int .i64 n, .slice A bs.length c], .int .i64 f, .int .i64 t, .int .i64 by_] w fun e w' =>
      ∃ A1 c1 g1, e = .returned (.tuple #[.agg #[.int .i64 q.n, .slice A1 q.bs.length c1], .bool r]) ∧ BdsR w' w'.heap.size g1 0 A1 q.bs ∧ OwnB w.heap.size w' (.slice A1 q.bs.length c1) q.bs ∧ Below w.heap.size w w' := by
  obtain ⟨hy1, hy2⟩ := hy
  obtain ⟨q1, hq1⟩ : ∃ q1, toldP ⟨n, bs ++ [⟨f, t, by_⟩]⟩ = q1 := ⟨_, rfl⟩
  obtain ⟨r1, hr1⟩ : ∃ r1, planOk ⟨n, bs ++ [⟨f, t, by_⟩]⟩ = r1 := ⟨_, rfl⟩
  have htw := told_two n bs ⟨f, t, by_⟩ ⟨t, f, -by_⟩ q1 hq1
  rw [hq, hr] at htw
  have hl1 : q1.bs.length ≤ 10000 := by
    rw [← hq1]; unfold toldP; split
    · rename_i h; rw [planOk_eq] at h; simp only [Bool.and_eq_true, decide_eq_true_eq] at h; have := h.1.2; dsimp only; omega
    · simp
  have Hq1 := hide hq1
  have Hr1 := hide hr1
  have Htw := hide htw
  clear hq1 hr1 htw hq hr
  go_enter Try.func37, Try.ntmps37
  go_wp2_with (first
    | (go_at_call 107; go_fit (sWithBound_reg n bs ⟨f, t, by_⟩ A b o c B _ hn (by simp only [World.size_alloc, World.size_drew]; omega) (hR.below ((show Below w.heap.size w _ by go_grown).mono hB)) q1 r1 Hq1.out Hr1.out); rintro e w1 ⟨A1, c1, g1, rfl, hx1, hown, hb⟩; obtain ⟨hc, hf⟩ := bcell hb; have hW1 : Below w.heap.size w w1 := bthen (by go_grown) hb)
    | (go_at_call 107; go_fit (sWithBound_reg q1.n q1.bs ⟨t, f, -by_⟩ A1 g1 0 c1 w1.heap.size _ hl1 (by simp only [World.size_alloc, World.size_drew]; omega) (hx1.below (by go_grown)) q r Htw.out.1 Htw.out.2); rintro e w2 ⟨A2, c2, g2, rfl, hx2, hown2, hb2⟩; have hb3 := bthen (hb.alloc hb.size _) hb2; clear hc hf; obtain ⟨hc2, hf2⟩ := bcell hb3))
  have hs0 : w2.cell? ⟨w.heap.size + 1, 0, none⟩ = some (.int .i64 0) := by rw [hc2 _ _ (by simp only [World.size_alloc, World.size_drew]; omega)]; simp [go_sem]
  have hs1 : w2.cell? ⟨w.heap.size + 1, 1, none⟩ = some (.slice none 0 0) := by rw [hc2 _ _ (by simp only [World.size_alloc, World.size_drew]; omega)]; simp [go_sem]
  obtain ⟨r0, r1⟩ := two_cells (a := .int .i64 q.n) (b := .slice A2 q.bs.length c2) hs0 hs1
  refine bodyPost_ret (v := .tuple #[.agg #[.int .i64 q.n, .slice A2 q.bs.length c2], .bool r]) (by simp [results, Try.results37, go_sem, r0, r1]) rfl ?_
  have hz : w.heap.size + 1 < (w1.alloc (.cells #[.int .i64 q1.n, .slice A1 q1.bs.length c1] 25)).heap.size := by have := hb.size; simp only [World.size_alloc] at this ⊢; omega
  have ho : OwnB w.heap.size _ (.slice A2 q.bs.length c2) q.bs := own_less (own_set_low (p := ⟨w.heap.size + 1, 1, none⟩) (own_set_low (p := ⟨w.heap.size + 1, 0, none⟩) hown2 hz (.int .i64 q.n)) hz (.slice A2 q.bs.length c2)) (by omega)
  obtain ⟨g, hr⟩ := OwnB.readsA ho
  exact ⟨_, _, g, rfl, hr, ho, ((bthen (hW1.alloc hW1.size _) hb2).setCell (by dsimp only; omega) _).setCell (by dsimp only; omega) _⟩
end Go.Proofs.Ytjlaljnffmncpaa
