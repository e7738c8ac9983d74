/-
  Chapter 1 of the program: plans that are handed on.
-/
import Derived.Test.YtmgikoaeomieeaaL1
namespace Go.Proofs.Ytmgikoaeomieeaa
set_option linter.unusedVariables false
set_option linter.unusedSimpArgs false
open Go.RowKit Pp

set_option maxHeartbeats 1000000 in
theorem clone_c (p : Pl) (A : Option Addr) (b o c B : Nat) (w : World) (hn : p.bs.length ≤ 2000000) (hB : B ≤ w.heap.size) (hR : BdsR w B b o A p.bs) :
    Calls Try.prog 81 #[.agg #[.int .i64 p.n, .slice A p.bs.length c]] w fun e w' => ∃ v, e = .returned (.agg #[.int .i64 p.n, v]) ∧ OwnB w.heap.size w' v p.bs ∧ Below w.heap.size w w' := by
  obtain ⟨n, bs⟩ := p
  dsimp only at *
  obtain ⟨i0, hi0, hz0, hz1, hz2⟩ := info_parts infoB
  go_enter Try.func81, Try.ntmps81
  go_wp2_with fail
  go_region_held3 (fun w' => w'.cell? ⟨w.heap.size, 0, none⟩ = some (.int .i64 n) ∧ w'.cell? ⟨w.heap.size, 1, none⟩ = some (.slice A bs.length c))
    (first | go_keep | (go_split_ands; refine ⟨?_, ?_⟩ <;> (rw [hgrow.cell_far _ (by simp only [World.size_alloc, World.size_drew]; omega) (by simp [Value.ownBlock])]; assumption)))
    ((refine app_step _ rfl _ _ _ rfl w.heap.size 63 i0 _ 3 24 Try.underlying27 hi0 hz0 hz1 hz2 rfl (by omega) (.slice none 0 0) 0 [] rfl (World.ownsRow_nil _ _ _ _)
        A bs.length c (bdCs bs) rfl (bdCs_length bs) ((hR.below ((show Below w.heap.size w _ by go_grown).mono hB)).news) (bdCs_one bs) (by omega) (by omega) (by simp only [World.size_alloc, World.size_drew]; omega) ?_
      intro A1 c1 w1 hown1 hgrow hat
      have hs0 : w1.cell? ⟨w.heap.size + 1, 0, none⟩ = some (.int .i64 0) := (by rw [hgrow.cell_far _ (by simp only [World.size_alloc, World.size_drew]; omega) (by simp [Value.ownBlock])]; simp [go_sem])
      have hs1 : w1.cell? ⟨w.heap.size + 1, 1, none⟩ = some (.slice none 0 0) := (by rw [hgrow.cell_far _ (by simp only [World.size_alloc, World.size_drew]; omega) (by simp [Value.ownBlock])]; simp [go_sem])
      have hf0 : w1.frozen? ⟨w.heap.size + 1, 0, none⟩ = false := (by rw [hgrow.frozen_far _ (by simp only [World.size_alloc, World.size_drew]; omega) (by simp [Value.ownBlock])]; simp [go_sem])
      have hf1 : w1.frozen? ⟨w.heap.size + 1, 1, none⟩ = false := (by rw [hgrow.frozen_far _ (by simp only [World.size_alloc, World.size_drew]; omega) (by simp [Value.ownBlock])]; simp [go_sem])))
  obtain ⟨r0, r1⟩ := two_cells (a := .int .i64 n) (b := .slice A1 bs.length c1) hs0 hs1
  go_wp2
  refine bodyPost_ret (v := .agg #[.int .i64 n, .slice A1 bs.length c1]) (by simp [results, Try.results81, go_sem, r0, r1]) rfl ?_
  rw [Nat.zero_add] at hown1
  rw [Nat.zero_add] at hat
  have hne : (Value.slice A1 bs.length c1).ownBlock ≠ some (w.heap.size + 1) := by
    rcases hat with e | e
    · rw [e]; simp [Value.ownBlock]
    · rw [e]; simp
  refine ⟨_, rfl, own_set (p := ⟨w.heap.size + 1, 1, none⟩) (own_set (p := ⟨w.heap.size + 1, 0, none⟩) hown1 hne _) hne _, ?_⟩
  exact ((Below.grown (row := none) (by go_grown) hgrow (by simp only [World.size_alloc, World.size_drew]; omega) (by simp)).setCell (by simp) _).setCell (by simp) _

set_option maxRecDepth 100000 in
/-- slices.Grow of nil. -/
theorem grow_c (n : Nat) (w : World) (hn : n ≤ 2000000) :
    Calls Try.prog 96 #[.slice none 0 0, .int .i64 n] w fun e w' => ∃ A c, e = .returned (.slice A 0 c) ∧ w'.ownsRow w.heap.size 63 3 (.slice A 0 c) 0 [] ∧ Below w.heap.size w w' := by
  obtain ⟨i0, hi0, hz0, hz1, hz2⟩ := info_parts infoB
  by_cases h0 : n = 0
  · subst h0
    go_enter Try.func96, Try.ntmps96
    go_wp2
    go_ret
    exact ⟨none, 0, rfl, World.ownsRow_nil _ _ _ _, Below.refl _ _⟩
  · have hz : (0 : Int) < (n : Int) := by omega
    have hnb : (n : Int) * (Try.t63.bytes : Int) ≤ 281474976710656 := by show (n : Int) * 24 ≤ _; omega
    have hnc : Builtin.nextslicecap n 0 * Try.t63.bytes ≤ 281474976710656 := by
      rw [nextslicecap_zero (by omega)]; show n * 24 ≤ _; omega
    have hge := grownCap_ge w n 0 63
    have hle := grownCap_le_maxLen w n 0 63 (by unfold maxLen; omega)
    unfold grownCap at hge hle
    go_enter Try.func96, Try.ntmps96
    go_wp2
    go_ret
    refine ⟨_, _, rfl, ⟨rfl, .inr ⟨w.heap.size, _, _, rfl, Nat.le_refl _, heap_alloc_new w _, Nat.zero_le _, hle, ?_, by simp⟩⟩, by go_grown⟩
    simp only [Array.size_append, size_zeroCells, List.size_toArray, List.length_cons, List.length_nil]
    omega

def tot (X : Nat → List Bd) : Nat → Nat
  | 0 => 0
  | k + 1 => tot X k + (X k).length
def cat (X : Nat → List Bd) : Nat → List Bd
  | 0 => []
  | k + 1 => cat X k ++ X k
theorem cat_length (X : Nat → List Bd) : ∀ k, (cat X k).length = tot X k
  | 0 => rfl
  | k + 1 => by simp [cat, tot, cat_length X k]
theorem tot_le (X : Nat → List Bd) (h : ∀ k, (X k).length ≤ 100000) : ∀ k, tot X k ≤ k * 100000
  | 0 => by simp [tot]
  | k + 1 => by have := tot_le X h k; have := h k; simp only [tot]; omega

set_option maxHeartbeats 1000000 in
set_option maxRecDepth 100000 in
/-- slices.Concat of a few rows of bounds. -/
theorem concat_c (m c sb B : Nat) (A : Nat → Option Addr) (b o cp : Nat → Nat) (X : Nat → List Bd) (w : World) (hm : m ≤ 4) (hX : ∀ k, (X k).length ≤ 100000) (hB : B ≤ w.heap.size)
    (hs : sb < w.heap.size) (hS : ∀ k, k < m → w.cell? ⟨sb, k, none⟩ = some (.slice (A k) (X k).length (cp k))) (hR : ∀ k, k < m → BdsR w B (b k) (o k) (A k) (X k)) :
    Calls Try.prog 85 #[.slice (some ⟨sb, 0, none⟩) m c] w fun e w' => ∃ A1 c1, e = .returned (.slice A1 (cat X m).length c1) ∧ OwnB w.heap.size w' (.slice A1 (cat X m).length c1) (cat X m) ∧ Below w.heap.size w w' := by
  obtain ⟨i0, hi0, hz0, hz1, hz2⟩ := info_parts infoB
  go_enter Try.func85, Try.ntmps85
  go_wp2
  go_loopg [3, 11] m (fun g s i wr => w = wr ∧ ∃ k : Nat, k ≤ m ∧ g = m - k ∧ i = .int .i64 k ∧ s = .int .i64 (tot X k))
  case atStart => exact ⟨rfl, 0, Nat.zero_le _, rfl, rfl, rfl⟩
  case round =>
    obtain ⟨rfl, k, hk, rfl, rfl, rfl⟩ := hrel
    have ht := tot_le X hX k
    by_cases hlt : k < m
    · have hz : (k : Int) < (m : Int) := by omega
      have h1 := hS k hlt
      have h2 := hX k
      have h3 : decide (((tot X k : Nat) : Int) + ((X k).length : Int) < 0) = false := by simp; omega
      go_wp2
      go_roundg (m - (k + 1))
      case measure => go_light; omega
      case rel => go_light; exact ⟨rfl, k + 1, by omega, rfl, by go_num, by simp only [tot]; go_num⟩
    · obtain rfl : m = k := by omega
      have Ht := hide ht
      go_wp2_with (go_at_call 96; refine (grow_c _ _ (by omega)).mono ?_; rintro e w1 ⟨A1, c1, rfl, hown, hW⟩)
      go_loopg [6, 27] m (fun g s i wr => ∃ j : Nat, j ≤ m ∧ g = m - j ∧ i = .int .i64 j ∧ ∃ A2 c2, s = .slice A2 (tot X j) c2 ∧ wr.ownsRow w.heap.size 63 3 (.slice A2 (tot X j) c2) (tot X j) (bdCs (cat X j)) ∧ Below w.heap.size w wr)
      case atStart => exact ⟨0, Nat.zero_le _, rfl, rfl, A1, c1, rfl, hown, hW⟩
      case round =>
        clear hown hW
        obtain ⟨j, hj, rfl, rfl, A2, c2, rfl, hown, hW⟩ := hrel
        by_cases hlt : j < m
        · have hz : (j : Int) < (m : Int) := by omega
          have h1 : wr.cell? ⟨sb, j, none⟩ = some (.slice (A j) (X j).length (cp j)) := (hW.cell (p := ⟨sb, j, none⟩) hs).trans (hS j hlt)
          have hr := (hR j hlt).below (hW.mono hB)
          have h2 := hX j
          have h3 := tot_le X hX j
          go_wp2_with (at_builtin; refine app_list _ rfl (.tmp 31) (.tmp 32) _ rfl w.heap.size 63 i0 _ 3 24 Try.underlying27 hi0 hz0 hz1 hz2 rfl (by omega) _ _ _ rfl hown (A j) (X j).length (cp j) (bdCs (X j)) rfl (bdCs_length _) hr.news (bdCs_one _) (by omega) (by omega) hW.size ?_; intro A3 c3 w2 hown2 hg2 hat2)
          go_roundg (m - (j + 1))
          case measure => go_light; omega
          case rel =>
            go_light
            refine ⟨j + 1, by omega, rfl, by go_num, A3, c3, rfl, ?_, below_app hW hown hg2 (Nat.le_refl _) hW.size⟩
            rw [cat, bdCs_append]
            exact hown2
        · obtain rfl : m = j := by omega
          go_wp2
          go_ret
          refine ⟨A2, c2, ?_, ?_, hW⟩
          · rw [cat_length]; rfl
          · unfold OwnB; rw [cat_length]; exact hown

set_option maxHeartbeats 2000000 in
set_option maxRecDepth 100000 in
theorem with_c (p : Pl) (ms : List Bd) (A A' : Option Addr) (b o c b' o' c' B : Nat) (w : World) (hn : p.bs.length ≤ 100000) (hn' : ms.length ≤ 100000) (hB : B ≤ w.heap.size) (hR : BdsR w B b o A p.bs) (hR' : BdsR w B b' o' A' ms) :
    Calls Try.prog 53 #[.agg #[.int .i64 p.n, .slice A p.bs.length c], .slice A' ms.length c'] w fun e w' =>
      ∃ A1 c1, e = .returned (.agg #[.int .i64 p.n, .slice A1 (p.bs ++ ms).length c1]) ∧ OwnB w.heap.size w' (.slice A1 (p.bs ++ ms).length c1) (p.bs ++ ms) ∧ Below w.heap.size w w' := by
  obtain ⟨n, bs⟩ := p
  dsimp only at *
  let X : Nat → List Bd := fun k => if k = 0 then bs else if k = 1 then ms else []
  have eX : cat X 2 = bs ++ ms := by simp [cat, X]
  have HX : Hid (cat X 2 = bs ++ ms) := eX
  have hXl : ∀ k, (X k).length ≤ 100000 := by
    intro k; simp only [X]; split
    · exact hn
    · split
      · exact hn'
      · simp
  have HXl := hide hXl
  have hX0 : X 0 = bs := rfl
  have hX1 : X 1 = ms := rfl
  have HX0 := hide hX0
  have HX1 := hide hX1
  clear hXl hX0 hX1 eX
  clear_value X
  go_enter Try.func53, Try.ntmps53
  go_wp2_with fail
  go_region_held3 (fun w' => w'.cell? ⟨w.heap.size, 0, none⟩ = some (.int .i64 n) ∧ w'.cell? ⟨w.heap.size, 1, none⟩ = some (.slice A bs.length c))
    (first | go_keep | (go_split_ands; refine ⟨?_, ?_⟩ <;> (rw [hc _ _ (by simp only [World.size_alloc, World.size_drew]; omega)]; assumption)))
    ((go_at_call 85
      refine (concat_c 2 _ (w.heap.size + 2) B (fun k => if k = 0 then A else A') (fun k => if k = 0 then b else b') (fun k => if k = 0 then o else o') (fun k => if k = 0 then c else c') X _ (by omega) HXl.out (by simp only [World.size_alloc, World.size_drew]; omega) (by simp only [World.size_alloc, World.size_drew]; omega) ?_ ?_).mono ?_
      · intro k hk
        have hk' : k = 0 ∨ k = 1 := (by omega)
        rcases hk' with rfl | rfl
        · simp [go_sem, HX0.out]
        · simp [go_sem, HX1.out]
      · intro k hk
        have hk' : k = 0 ∨ k = 1 := (by omega)
        rcases hk' with rfl | rfl
        · rw [HX0.out]; exact hR.below ((show Below w.heap.size w _ by go_grown).mono hB)
        · rw [HX1.out]; exact hR'.below ((show Below w.heap.size w _ by go_grown).mono hB)
      rintro e w1 ⟨A1, c1, rfl, hown, hb⟩
      obtain ⟨hc, hf⟩ := bcell hb
      have hs0 : w1.cell? ⟨w.heap.size + 1, 0, none⟩ = some (.int .i64 0) := (by rw [hc _ _ (by simp only [World.size_alloc, World.size_drew]; omega)]; simp [go_sem])
      have hs1 : w1.cell? ⟨w.heap.size + 1, 1, none⟩ = some (.slice none 0 0) := (by rw [hc _ _ (by simp only [World.size_alloc, World.size_drew]; omega)]; simp [go_sem])
      have hf0 : w1.frozen? ⟨w.heap.size + 1, 0, none⟩ = false := (by rw [hf _ _ (by simp only [World.size_alloc, World.size_drew]; omega)]; simp [go_sem])
      have hf1 : w1.frozen? ⟨w.heap.size + 1, 1, none⟩ = false := (by rw [hf _ _ (by simp only [World.size_alloc, World.size_drew]; omega)]; simp [go_sem])))
  obtain ⟨r0, r1⟩ := two_cells (a := .int .i64 n) (b := .slice A1 (cat X 2).length c1) hs0 hs1
  go_wp2
  refine bodyPost_ret (v := .agg #[.int .i64 n, .slice A1 (cat X 2).length c1]) (by simp [results, Try.results53, go_sem, r0, r1]) rfl ?_
  rw [HX.out] at hown ⊢
  refine ⟨_, _, rfl, own_less (base := w.heap.size + 3) (own_set_low (p := ⟨w.heap.size + 1, 1, none⟩) (own_set_low (p := ⟨w.heap.size + 1, 0, none⟩) ?_ (by simp) _) (by simp) _) (by omega), ?_⟩
  · exact own_less hown (by simp only [World.size_alloc, World.size_drew]; omega)
  · exact (((Below.trans (b := (((w.alloc (Obj.cells #[Value.int IntKind.i64 n, Value.slice A bs.length c] 29)).alloc (Obj.cells #[Value.int IntKind.i64 0, Value.slice none 0 0] 29)).alloc
      (Obj.cells #[Value.slice A bs.length c, Value.slice A' ms.length c'] 27)).drew) (by go_grown) (hb.mono (by simp only [World.size_alloc, World.size_drew]; omega))).setCell (by simp) _).setCell (by simp) _)

def toldP (p : Pl) : Pl := if planOk p then p else ⟨0, []⟩

set_option maxHeartbeats 1000000 in
theorem told_c (p : Pl) (A : Option Addr) (b o c B : Nat) (w : World) (hn : p.bs.length ≤ 2000000) (hB : B ≤ w.heap.size) (hR : BdsR w B b o A p.bs) :
    Calls Try.prog 47 #[.agg #[.int .i64 p.n, .slice A p.bs.length c]] w fun e w' =>
      ∃ A1 c1, e = .returned (.tuple #[.agg #[.int .i64 (toldP p).n, .slice A1 (toldP p).bs.length c1], .bool (planOk p)]) ∧ OwnB w.heap.size w' (.slice A1 (toldP p).bs.length c1) (toldP p).bs ∧ Below w.heap.size w w' := by
  unfold toldP
  cases hp : planOk p
  · have Hp := hide hp
    clear hp
    obtain ⟨n, bs⟩ := p
    dsimp only at *
    go_enter Try.func47, Try.ntmps47
    go_wp2_with (go_at_call 50; refine (planOk_c ⟨n, bs⟩ A b o c B _ hn (by simp only [World.size_alloc, World.size_drew]; omega) (hR.below ((show Below w.heap.size w _ by go_grown).mono hB))).mono ?_; rintro e w' ⟨rfl, hb⟩; rw [Hp.out]; obtain ⟨hc, hf⟩ := bcell hb; have hz := hb.size; (try simp only [World.size_alloc] at hz); have hz0 : w.heap.size < w'.heap.size := (by omega); have hz1 : w.heap.size + 1 < w'.heap.size := (by omega); have hW : Below w.heap.size w w' := bthen (by go_grown) hb)
    have hs0 : w'.cell? ⟨w.heap.size + 1, 0, none⟩ = some (.int .i64 0) := by rw [hc _ _ (by simp only [World.size_alloc, World.size_drew]; omega)]; simp [go_sem]
    have hs1 : w'.cell? ⟨w.heap.size + 1, 1, none⟩ = some (.slice none 0 0) := by rw [hc _ _ (by simp only [World.size_alloc, World.size_drew]; omega)]; simp [go_sem]
    obtain ⟨r0, r1⟩ := two_cells (a := .int .i64 0) (b := .slice none 0 0) hs0 hs1
    refine bodyPost_ret (v := .tuple #[.agg #[.int .i64 0, .slice none 0 0], .bool false]) (by simp [results, Try.results47, go_sem, r0, r1]) rfl ?_
    exact ⟨none, 0, rfl, World.ownsRow_nil _ _ _ _, (hW.setCell (by simp) _).setCell (by simp) _⟩
  · have Hp := hide hp
    clear hp
    obtain ⟨n, bs⟩ := p
    dsimp only at *
    go_enter Try.func47, Try.ntmps47
    go_wp2_with (first | (go_at_call 50; refine (planOk_c ⟨n, bs⟩ A b o c B _ hn (by simp only [World.size_alloc, World.size_drew]; omega) (hR.below ((show Below w.heap.size w _ by go_grown).mono hB))).mono ?_; rintro e w' ⟨rfl, hb⟩; rw [Hp.out]; obtain ⟨hc, hf⟩ := bcell hb; have hz := hb.size; (try simp only [World.size_alloc] at hz); have hz0 : w.heap.size < w'.heap.size := (by omega); have hz1 : w.heap.size + 1 < w'.heap.size := (by omega); have hW : Below w.heap.size w w' := bthen (by go_grown) hb) | (go_at_call 81; refine (clone_c ⟨n, bs⟩ A b o c B _ hn (Nat.le_trans hB hW.size) (hR.below (hW.mono hB))).mono ?_; rintro e w2 ⟨v, rfl, hown, hb2⟩; obtain ⟨A1, g1, c1, rfl, _⟩ := own_form hown; obtain ⟨hc2, hf2⟩ := bcell hb2; have hs0 : w2.cell? ⟨w.heap.size + 1, 0, none⟩ = some (.int .i64 0) := (by rw [hc2 _ _ hz1, hc _ _ (by simp only [World.size_alloc, World.size_drew]; omega)]; simp [go_sem]); have hs1 : w2.cell? ⟨w.heap.size + 1, 1, none⟩ = some (.slice none 0 0) := (by rw [hc2 _ _ hz1, hc _ _ (by simp only [World.size_alloc, World.size_drew]; omega)]; simp [go_sem])))
    obtain ⟨r0, r1⟩ := two_cells (a := .int .i64 n) (b := .slice A1 bs.length c1) hs0 hs1
    refine bodyPost_ret (v := .tuple #[.agg #[.int .i64 n, .slice A1 bs.length c1], .bool true]) (by simp [results, Try.results47, go_sem, r0, r1]) rfl ?_
    exact ⟨_, _, rfl, own_less (own_set_low (p := ⟨w.heap.size + 1, 1, none⟩) (own_set_low (p := ⟨w.heap.size + 1, 0, none⟩) hown hz1 _) hz1 _) hW.size, ((bthen hW hb2).setCell (by simp) _).setCell (by simp) _⟩

/-- The same, the result behind a name. -/
theorem with_q (p : Pl) (ms qs : List Bd) (hq : p.bs ++ ms = qs) (A A' : Option Addr) (b o c b' o' c' B : Nat) (w : World) (hn : p.bs.length ≤ 100000) (hn' : ms.length ≤ 100000) (hB : B ≤ w.heap.size) (hR : BdsR w B b o A p.bs) (hR' : BdsR w B b' o' A' ms) :
    Calls Try.prog 53 #[.agg #[.int .i64 p.n, .slice A p.bs.length c], .slice A' ms.length c'] w fun e w' =>
      ∃ A1 c1 g1, e = .returned (.agg #[.int .i64 p.n, .slice A1 qs.length c1]) ∧ BdsR w' w'.heap.size g1 0 A1 qs ∧ OwnB w.heap.size w' (.slice A1 qs.length c1) qs ∧ Below w.heap.size w w' := by
  subst hq
  refine (with_c p ms A A' b o c b' o' c' B w hn hn' hB hR hR').mono ?_
  rintro e w' ⟨A1, c1, rfl, hown, hb⟩
  obtain ⟨A2, g1, c2, hv, hr⟩ := hown.reads
  injection hv with h1 h2 h3
  subst h1
  exact ⟨A1, c1, g1, rfl, hr, hown, hb⟩
theorem told_q (p : Pl) (q : Pl) (r : Bool) (hq : toldP p = q) (hr : planOk p = r) (A : Option Addr) (b o c B : Nat) (w : World) (hn : p.bs.length ≤ 2000000) (hB : B ≤ w.heap.size) (hR : BdsR w B b o A p.bs) :
    Calls Try.prog 47 #[.agg #[.int .i64 p.n, .slice A p.bs.length c]] w fun e w' =>
      ∃ A1 c1 g1, e = .returned (.tuple #[.agg #[.int .i64 q.n, .slice A1 q.bs.length c1], .bool r]) ∧ BdsR w' w'.heap.size g1 0 A1 q.bs ∧ OwnB w.heap.size w' (.slice A1 q.bs.length c1) q.bs ∧ Below w.heap.size w w' := by
  subst hq; subst hr
  refine (told_c p A b o c B w hn hB hR).mono ?_
  rintro e w' ⟨A1, c1, rfl, hown, hb⟩
  obtain ⟨A2, g1, c2, hv, hr⟩ := hown.reads
  injection hv with h1 h2 h3
  subst h1
  exact ⟨A1, c1, g1, rfl, hr, hown, hb⟩
theorem clone_q (p : Pl) (A : Option Addr) (b o c B : Nat) (w : World) (hn : p.bs.length ≤ 2000000) (hB : B ≤ w.heap.size) (hR : BdsR w B b o A p.bs) :
    Calls Try.prog 81 #[.agg #[.int .i64 p.n, .slice A p.bs.length c]] w fun e w' =>
      ∃ A1 c1 g1, e = .returned (.agg #[.int .i64 p.n, .slice A1 p.bs.length c1]) ∧ BdsR w' w'.heap.size g1 0 A1 p.bs ∧ OwnB w.heap.size w' (.slice A1 p.bs.length c1) p.bs ∧ Below w.heap.size w w' := by
  refine (clone_c p A b o c B w hn hB hR).mono ?_
  rintro e w' ⟨v, rfl, hown, hb⟩
  obtain ⟨A2, g1, c2, rfl, hr⟩ := hown.reads
  exact ⟨A2, c2, g1, rfl, hr, hown, hb⟩
end Go.Proofs.Ytmgikoaeomieeaa
