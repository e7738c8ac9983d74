/-
  Chapter 1 of the program: plans that are handed on.
-/
import Derived.Test.YtofodhdpppjaoaaL1
namespace Go.Proofs.Ytofodhdpppjaoaa
set_option linter.unusedVariables false
set_option linter.unusedSimpArgs false
open Go.RowKit Pp

set_option maxHeartbeats 1000000 in
theorem clone_c (p : Pl) (A : Option Addr) (b o c B : Nat) (w : World) (hn : p.bs.length ≤ 2000000) (hB : B ≤ w.heap.size) (hR : BdsR w B b o A p.bs) :
    Calls Try.prog 72 #[.agg #[.int .i64 p.n, .slice A p.bs.length c]] w fun e w' => ∃ v, e = .returned (.agg #[.int .i64 p.n, v]) ∧ OwnB w.heap.size w' v p.bs ∧ Below w.heap.size w w' := by
  obtain ⟨n, bs⟩ := p
  dsimp only at *
  obtain ⟨i0, hi0, hz0, hz1, hz2⟩ := info_parts infoB
  go_enter Try.func72, Try.ntmps72
  go_wp2_with fail
  go_region_held3 (fun w' => w'.cell? ⟨w.heap.size, 0, none⟩ = some (.int .i64 n) ∧ w'.cell? ⟨w.heap.size, 1, none⟩ = some (.slice A bs.length c))
    (first | go_keep | (go_split_ands; refine ⟨?_, ?_⟩ <;> (rw [hgrow.cell_far _ (by simp only [World.size_alloc, World.size_drew]; omega) (by simp [Value.ownBlock])]; assumption)))
    ((refine app_step _ rfl _ _ _ rfl w.heap.size 75 i0 _ 3 24 Try.underlying27 hi0 hz0 hz1 hz2 rfl (by omega) (.slice none 0 0) 0 [] rfl (World.ownsRow_nil _ _ _ _)
        A bs.length c (bdCs bs) rfl (bdCs_length bs) ((hR.below ((show Below w.heap.size w _ by go_grown).mono hB)).news) (bdCs_one bs) (by omega) (by omega) (by simp only [World.size_alloc, World.size_drew]; omega) ?_
      intro A1 c1 w1 hown1 hgrow hat
      have hs0 : w1.cell? ⟨w.heap.size + 1, 0, none⟩ = some (.int .i64 0) := (by rw [hgrow.cell_far _ (by simp only [World.size_alloc, World.size_drew]; omega) (by simp [Value.ownBlock])]; simp [go_sem])
      have hs1 : w1.cell? ⟨w.heap.size + 1, 1, none⟩ = some (.slice none 0 0) := (by rw [hgrow.cell_far _ (by simp only [World.size_alloc, World.size_drew]; omega) (by simp [Value.ownBlock])]; simp [go_sem])
      have hf0 : w1.frozen? ⟨w.heap.size + 1, 0, none⟩ = false := (by rw [hgrow.frozen_far _ (by simp only [World.size_alloc, World.size_drew]; omega) (by simp [Value.ownBlock])]; simp [go_sem])
      have hf1 : w1.frozen? ⟨w.heap.size + 1, 1, none⟩ = false := (by rw [hgrow.frozen_far _ (by simp only [World.size_alloc, World.size_drew]; omega) (by simp [Value.ownBlock])]; simp [go_sem])))
  obtain ⟨r0, r1⟩ := two_cells (a := .int .i64 n) (b := .slice A1 bs.length c1) hs0 hs1
  go_wp2
  refine bodyPost_ret (v := .agg #[.int .i64 n, .slice A1 bs.length c1]) (by simp [results, Try.results72, go_sem, r0, r1]) rfl ?_
  rw [Nat.zero_add] at hown1
  rw [Nat.zero_add] at hat
  have hne : (Value.slice A1 bs.length c1).ownBlock ≠ some (w.heap.size + 1) := by
    rcases hat with e | e
    · rw [e]; simp [Value.ownBlock]
    · rw [e]; simp
  refine ⟨_, rfl, own_set (p := ⟨w.heap.size + 1, 1, none⟩) (own_set (p := ⟨w.heap.size + 1, 0, none⟩) hown1 hne _) hne _, ?_⟩
  exact ((Below.grown (row := none) (by go_grown) hgrow (by simp only [World.size_alloc, World.size_drew]; omega) (by simp)).setCell (by simp) _).setCell (by simp) _

def toldP (p : Pl) : Pl := if planOk p then p else ⟨0, []⟩

set_option maxHeartbeats 1000000 in
theorem told_c (p : Pl) (A : Option Addr) (b o c B : Nat) (w : World) (hn : p.bs.length ≤ 2000000) (hB : B ≤ w.heap.size) (hR : BdsR w B b o A p.bs) :
    Calls Try.prog 43 #[.agg #[.int .i64 p.n, .slice A p.bs.length c]] w fun e w' =>
      ∃ A1 c1, e = .returned (.tuple #[.agg #[.int .i64 (toldP p).n, .slice A1 (toldP p).bs.length c1], .bool (planOk p)]) ∧ OwnB w.heap.size w' (.slice A1 (toldP p).bs.length c1) (toldP p).bs ∧ Below w.heap.size w w' := by
  unfold toldP
  cases hp : planOk p
  · have Hp := hide hp
    clear hp
    obtain ⟨n, bs⟩ := p
    dsimp only at *
    go_enter Try.func43, Try.ntmps43
    go_wp2_with (go_at_call 25; refine (planOk_c ⟨n, bs⟩ A b o c B _ hn (by simp only [World.size_alloc, World.size_drew]; omega) (hR.below ((show Below w.heap.size w _ by go_grown).mono hB))).mono ?_; rintro e w' ⟨rfl, hb⟩; rw [Hp.out]; obtain ⟨hc, hf⟩ := bcell hb; have hz := hb.size; (try simp only [World.size_alloc] at hz); have hz0 : w.heap.size < w'.heap.size := (by omega); have hz1 : w.heap.size + 1 < w'.heap.size := (by omega); have hW : Below w.heap.size w w' := bthen (by go_grown) hb)
    have hs0 : w'.cell? ⟨w.heap.size + 1, 0, none⟩ = some (.int .i64 0) := by rw [hc _ _ (by simp only [World.size_alloc, World.size_drew]; omega)]; simp [go_sem]
    have hs1 : w'.cell? ⟨w.heap.size + 1, 1, none⟩ = some (.slice none 0 0) := by rw [hc _ _ (by simp only [World.size_alloc, World.size_drew]; omega)]; simp [go_sem]
    obtain ⟨r0, r1⟩ := two_cells (a := .int .i64 0) (b := .slice none 0 0) hs0 hs1
    refine bodyPost_ret (v := .tuple #[.agg #[.int .i64 0, .slice none 0 0], .bool false]) (by simp [results, Try.results43, go_sem, r0, r1]) rfl ?_
    exact ⟨none, 0, rfl, World.ownsRow_nil _ _ _ _, (hW.setCell (by simp) _).setCell (by simp) _⟩
  · have Hp := hide hp
    clear hp
    obtain ⟨n, bs⟩ := p
    dsimp only at *
    go_enter Try.func43, Try.ntmps43
    go_wp2_with (first | (go_at_call 25; refine (planOk_c ⟨n, bs⟩ A b o c B _ hn (by simp only [World.size_alloc, World.size_drew]; omega) (hR.below ((show Below w.heap.size w _ by go_grown).mono hB))).mono ?_; rintro e w' ⟨rfl, hb⟩; rw [Hp.out]; obtain ⟨hc, hf⟩ := bcell hb; have hz := hb.size; (try simp only [World.size_alloc] at hz); have hz0 : w.heap.size < w'.heap.size := (by omega); have hz1 : w.heap.size + 1 < w'.heap.size := (by omega); have hW : Below w.heap.size w w' := bthen (by go_grown) hb) | (go_at_call 72; refine (clone_c ⟨n, bs⟩ A b o c B _ hn (Nat.le_trans hB hW.size) (hR.below (hW.mono hB))).mono ?_; rintro e w2 ⟨v, rfl, hown, hb2⟩; obtain ⟨A1, g1, c1, rfl, _⟩ := own_form hown; obtain ⟨hc2, hf2⟩ := bcell hb2; have hs0 : w2.cell? ⟨w.heap.size + 1, 0, none⟩ = some (.int .i64 0) := (by rw [hc2 _ _ hz1, hc _ _ (by simp only [World.size_alloc, World.size_drew]; omega)]; simp [go_sem]); have hs1 : w2.cell? ⟨w.heap.size + 1, 1, none⟩ = some (.slice none 0 0) := (by rw [hc2 _ _ hz1, hc _ _ (by simp only [World.size_alloc, World.size_drew]; omega)]; simp [go_sem])))
    obtain ⟨r0, r1⟩ := two_cells (a := .int .i64 n) (b := .slice A1 bs.length c1) hs0 hs1
    refine bodyPost_ret (v := .tuple #[.agg #[.int .i64 n, .slice A1 bs.length c1], .bool true]) (by simp [results, Try.results43, go_sem, r0, r1]) rfl ?_
    exact ⟨_, _, rfl, own_less (own_set_low (p := ⟨w.heap.size + 1, 1, none⟩) (own_set_low (p := ⟨w.heap.size + 1, 0, none⟩) hown hz1 _) hz1 _) hW.size, ((bthen hW hb2).setCell (by simp) _).setCell (by simp) _⟩

theorem told_q (p : Pl) (q : Pl) (r : Bool) (hq : toldP p = q) (hr : planOk p = r) (A : Option Addr) (b o c B : Nat) (w : World) (hn : p.bs.length ≤ 2000000) (hB : B ≤ w.heap.size) (hR : BdsR w B b o A p.bs) :
    Calls Try.prog 43 #[.agg #[.int .i64 p.n, .slice A p.bs.length c]] w fun e w' =>
      ∃ A1 c1 g1, e = .returned (.tuple #[.agg #[.int .i64 q.n, .slice A1 q.bs.length c1], .bool r]) ∧ BdsR w' w'.heap.size g1 0 A1 q.bs ∧ OwnB w.heap.size w' (.slice A1 q.bs.length c1) q.bs ∧ Below w.heap.size w w' := by
  subst hq; subst hr
  refine (told_c p A b o c B w hn hB hR).mono ?_
  rintro e w' ⟨A1, c1, rfl, hown, hb⟩
  obtain ⟨A2, g1, c2, hv, hr⟩ := hown.reads
  injection hv with h1 h2 h3
  subst h1
  exact ⟨A1, c1, g1, rfl, hr, hown, hb⟩
theorem clone_q (p : Pl) (A : Option Addr) (b o c B : Nat) (w : World) (hn : p.bs.length ≤ 2000000) (hB : B ≤ w.heap.size) (hR : BdsR w B b o A p.bs) :
    Calls Try.prog 72 #[.agg #[.int .i64 p.n, .slice A p.bs.length c]] w fun e w' =>
      ∃ A1 c1 g1, e = .returned (.agg #[.int .i64 p.n, .slice A1 p.bs.length c1]) ∧ BdsR w' w'.heap.size g1 0 A1 p.bs ∧ OwnB w.heap.size w' (.slice A1 p.bs.length c1) p.bs ∧ Below w.heap.size w w' := by
  refine (clone_c p A b o c B w hn hB hR).mono ?_
  rintro e w' ⟨v, rfl, hown, hb⟩
  obtain ⟨A2, g1, c2, rfl, hr⟩ := hown.reads
  exact ⟨A2, c2, g1, rfl, hr, hown, hb⟩
end Go.Proofs.Ytofodhdpppjaoaa
