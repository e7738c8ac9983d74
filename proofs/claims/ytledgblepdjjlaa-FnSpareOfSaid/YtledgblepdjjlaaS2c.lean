/-
  Chapter 2 of the reference: what fits; least and most.
-/
import Derived.Test.YtledgblepdjjlaaS2b
namespace Go.Proofs.Ytledgblepdjjlaa
set_option linter.unusedVariables false
set_option linter.unusedSimpArgs false
open Go.RowKit Pp

set_option maxRecDepth 100000 in
theorem l2Fits_c (T : Tb) (m c ob B : Nat) (rb rc : Nat → Nat) (w : World) (hm : m ≤ 1000) (hT : TabR w B ob rb rc m T) :
    Calls Try.prog 115 #[.slice (some ⟨ob, 0, none⟩) m c] w fun e w' => e = .returned (.bool (diagOk m T)) ∧ w = w' := by
  go_enter Try.func115, Try.ntmps115
  go_wp2
  go_loopg [3] m (fun g s wj => w = wj ∧ ∃ j : Nat, j ≤ m ∧ g = m - j ∧ s = .int .i64 j ∧ Hid (∀ i, i < j → 0 ≤ T i i))
  case atStart => exact ⟨rfl, 0, Nat.zero_le _, rfl, rfl, fun _ h => absurd h (Nat.not_lt_zero _)⟩
  case round =>
    obtain ⟨rfl, j, hj, rfl, rfl, Hall⟩ := hrel
    by_cases hlt : j < m
    · have hz : (j : Int) < (m : Int) := by omega
      have t1 := hT.top j hlt
      have t2 := hT.row j j hlt hlt
      by_cases g : T j j < 0
      · go_wp2
        go_ret
        refine ⟨?_, rfl⟩
        have hd : diagOk m T = false := by
          rw [Bool.eq_false_iff]
          intro h
          have := diagOk_iff.1 h j hlt
          omega
        rw [hd]; rfl
      · go_wp2
        go_roundg (m - (j + 1))
        case measure => go_light; omega
        case rel =>
          go_light
          exact ⟨rfl, j + 1, by omega, rfl, by go_num, fun i hi => by
            by_cases e : i = j
            · subst e; omega
            · exact Hall.out i (by omega)⟩
    · go_wp2
      go_ret
      refine ⟨?_, rfl⟩
      have hd : diagOk m T = true := diagOk_iff.2 fun i hi => Hall.out i (by omega)
      rw [hd]; rfl

/-- The reference's closed table of a plan. -/
theorem sClosed_c (p : Pl) (A : Option Addr) (b o c B : Nat) (w : World) (hp : planOk p = true) (hB : B ≤ w.heap.size) (hR : BdsR w B b o A p.bs) :
    Calls Try.prog 116 #[.agg #[.int .i64 p.n, .slice A p.bs.length c]] w fun e w' => ∃ ob c1 rb rc, e = .returned (.slice (some ⟨ob, 0, none⟩) (nn p) c1) ∧ TabR w' w'.heap.size ob rb rc (nn p) (clT p) ∧ Below w.heap.size w w' := by
  have hn := nn_ok hp
  have hs := small_ok hn.1 (by omega) (by omega) (within_of_ok hp)
  have hl := (planOk_iff.1 hp).2.1
  rw [← hn.2.2]
  exact l2Closed_c (nn p) p.bs A b o c B w hn.2.1 (by omega) (by omega) hB hR hs.2

set_option maxHeartbeats 1000000 in
set_option maxRecDepth 100000 in
theorem sFitsOk_c (p : Pl) (A : Option Addr) (b o c B : Nat) (w : World) (hn : p.bs.length ≤ 2000000) (hB : B ≤ w.heap.size) (hR : BdsR w B b o A p.bs) :
    Calls Try.prog 80 #[.agg #[.int .i64 p.n, .slice A p.bs.length c]] w fun e w' => e = .returned (.bool (fits p)) ∧ Below w.heap.size w w' := by
  cases hp : planOk p
  · have e : fits p = false := by unfold fits; rw [hp]; rfl
    rw [e]
    have Hp := hide hp
    clear hp e
    obtain ⟨n, bs⟩ := p
    dsimp only at *
    go_enter Try.func80, Try.ntmps80
    go_wp2_with (go_at_call 105; refine (sPlanOk_c ⟨n, bs⟩ A b o c B _ hn (by simp only [World.size_alloc, World.size_drew]; omega) (hR.below ((show Below w.heap.size w _ by go_grown).mono hB))).mono ?_; rintro e w' ⟨rfl, hb⟩; rw [Hp.out]; obtain ⟨hc, hf⟩ := bcell hb; have hz := hb.size; (try simp only [World.size_alloc] at hz); have hz0 : w.heap.size < w'.heap.size := (by omega); have hW : Below w.heap.size w w' := bthen (by go_grown) hb)
    go_ret
    exact ⟨rfl, hW⟩
  · have e : fits p = diagOk (nn p) (clT p) := by unfold fits; rw [hp]; rfl
    rw [e]
    have hnn := nn_ok hp
    have Hp := hide hp
    clear hp e
    generalize hr : diagOk (nn p) (clT p) = r
    have Hr := hide hr
    clear hr
    obtain ⟨hn6, _, _⟩ := hnn
    obtain ⟨n, bs⟩ := p
    dsimp only at *
    go_enter Try.func80, Try.ntmps80
    go_wp2_with (first
      | (go_at_call 105; refine (sPlanOk_c ⟨n, bs⟩ A b o c B _ hn (by simp only [World.size_alloc, World.size_drew]; omega) (hR.below ((show Below w.heap.size w _ by go_grown).mono hB))).mono ?_; rintro e w' ⟨rfl, hb⟩; rw [Hp.out]; obtain ⟨hc, hf⟩ := bcell hb; have hz := hb.size; (try simp only [World.size_alloc] at hz); have hz0 : w.heap.size < w'.heap.size := (by omega); have hW : Below w.heap.size w w' := bthen (by go_grown) hb)
      | (go_at_call 116; refine (sClosed_c ⟨n, bs⟩ A b o c B _ Hp.out (Nat.le_trans hB hW.size) (hR.below (hW.mono hB))).mono ?_; rintro e w2 ⟨ob, c1, rb, rc, rfl, hT, hb2⟩; have hW2 := bthen hW hb2)
      | (go_at_call 115; refine (l2Fits_c _ _ c1 ob _ rb rc _ (by omega) hT).mono ?_; rintro e w3 ⟨rfl, rfl⟩; rw [Hr.out]))
    go_ret
    exact ⟨rfl, hW2⟩
end Go.Proofs.Ytledgblepdjjlaa
