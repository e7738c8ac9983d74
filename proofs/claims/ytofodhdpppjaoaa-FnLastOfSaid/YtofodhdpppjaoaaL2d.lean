/-
  Chapters 2 and 4 of the program: least and most, and what may be.
-/
import Derived.Test.YtofodhdpppjaoaaL2c
namespace Go.Proofs.Ytofodhdpppjaoaa
set_option linter.unusedVariables false
set_option linter.unusedSimpArgs false
open Go.RowKit Pp

set_option maxRecDepth 100000 in
theorem leastOf_c (p : Pl) (f t : Int) (A : Option Addr) (b o c B : Nat) (w : World) (hn : p.bs.length ≤ 2000000) (hB : B ≤ w.heap.size) (hR : BdsR w B b o A p.bs) :
    Calls Try.prog 31 #[.agg #[.int .i64 p.n, .slice A p.bs.length c], .int .i64 f, .int .i64 t] w fun e w' => e = .returned (.tuple #[.int .i64 (Pp.leastOf p f t).1, .bool (Pp.leastOf p f t).2]) ∧ Below w.heap.size w w' := by
  obtain ⟨h1, h2⟩ := mostOf_abs p t f
  have e1 : (Pp.leastOf p f t).1 = -(mostOf p t f).1 := rfl
  have e2 : (Pp.leastOf p f t).2 = (mostOf p t f).2 := rfl
  rw [e1, e2]
  generalize hm : mostOf p t f = m at *
  obtain ⟨x, ok⟩ := m
  dsimp only at *
  have Hm := hide hm
  clear hm e1 e2
  obtain ⟨n, bs⟩ := p
  dsimp only at *
  go_enter Try.func31, Try.ntmps31
  go_wp2_with (go_at_call 24; refine (mostOf_c ⟨n, bs⟩ t f A b o c B _ hn (by simp only [World.size_alloc, World.size_drew]; omega) (hR.below ((show Below w.heap.size w _ by go_grown).mono hB))).mono ?_; rw [Hm.out]; rintro e w' ⟨rfl, hb⟩; have hW : Below w.heap.size w w' := bthen (by go_grown) hb)
  go_ret2
  exact ⟨rfl, hW⟩

set_option maxHeartbeats 4000000 in
set_option maxRecDepth 100000 in
/-- What may be by a table. -/
theorem mayT_c (T : Tb) (n ob : Nat) (rb rc : Nat → Nat) (c B f t : Nat) (by_ : Int) (w : World) (hT : TabR w B ob rb rc n T) (hn : n ≤ 1000) (hf : f < n) (ht : t < n) (h1 : -1000000 ≤ T t f) (h2 : T t f ≤ 2000000) :
    Calls Try.prog 69 #[.slice (some ⟨ob, 0, none⟩) n c, .int .i64 f, .int .i64 t, .int .i64 by_] w fun e w' => e = .returned (.bool (mayT T f t by_)) ∧ w = w' := by
  have a1 := hT.top f hf
  have a2 := hT.top t ht
  have a3 := hT.row f t hf ht
  have a4 := hT.row t f ht hf
  have hfz : (f : Int) < (n : Int) := by omega
  have htz : (t : Int) < (n : Int) := by omega
  unfold mayT Far
  clear hT
  generalize T f t = x at *
  generalize T t f = y at *
  by_cases g1 : x = 100000 <;> by_cases g2 : by_ ≤ x <;> by_cases g3 : y = 100000 <;> by_cases g4 : -y ≤ by_
  all_goals
    first | (have k1 : (x == 100000) = true := by simp [g1]) | (have k1 : (x == 100000) = false := by simp [g1])
    first | (have k3 : (y == 100000) = true := by simp [g3]) | (have k3 : (y == 100000) = false := by simp [g3])
    have G1 := hide g1
    have G3 := hide g3
    clear g1 g3
    first | exact (absurd G1.out (by omega)) | exact (absurd G3.out (by omega)) | skip
    go_enter Try.func69, Try.ntmps69
    go_wp2
    go_ret
    exact ⟨by simp [G1.out, G3.out, g2, g4], rfl⟩
set_option maxHeartbeats 4000000 in
set_option maxRecDepth 100000 in
theorem mayBeOk_c (p : Pl) (f t by_ : Int) (A : Option Addr) (b o c B : Nat) (w : World) (hn : p.bs.length ≤ 2000000) (hB : B ≤ w.heap.size) (hR : BdsR w B b o A p.bs) :
    Calls Try.prog 36 #[.agg #[.int .i64 p.n, .slice A p.bs.length c], .int .i64 f, .int .i64 t, .int .i64 by_] w fun e w' => e = .returned (.bool (mayBe p f t by_)) ∧ Below w.heap.size w w' := by
  cases hf : fits p
  · have e : mayBe p f t by_ = false := by unfold mayBe; rw [hf]; rfl
    rw [e]
    have Hf := hide hf
    clear hf e
    obtain ⟨n, bs⟩ := p
    dsimp only at *
    go_enter Try.func36, Try.ntmps36
    go_wp2_with (go_at_call 53; refine (closed_no ⟨n, bs⟩ A b o c B _ hn (by simp only [World.size_alloc, World.size_drew]; omega) (hR.below ((show Below w.heap.size w _ by go_grown).mono hB)) Hf.out).mono ?_; rintro e w' ⟨rfl, hb⟩; have hW : Below w.heap.size w w' := bthen (by go_grown) hb)
    go_ret
    exact ⟨rfl, hW⟩
  · have hp := planOk_of_fits hf
    obtain ⟨hn6, hn1, hnn⟩ := nn_ok hp
    cases h1 : inB f 0 (p.n - 1)
    · have e : mayBe p f t by_ = false := by unfold mayBe; rw [hf, h1]; rfl
      rw [e]
      have Hf := hide hf
      have H1 := hide h1
      clear hf e h1 hp
      obtain ⟨n, bs⟩ := p
      dsimp only at *
      go_enter Try.func36, Try.ntmps36
      go_wp2_with (first | (go_at_call 53; refine (closed_yes ⟨n, bs⟩ A b o c B _ (by simp only [World.size_alloc, World.size_drew]; omega) (hR.below ((show Below w.heap.size w _ by go_grown).mono hB)) Hf.out).mono ?_; rintro e w1 ⟨ob, rb, rfl, hT, _, _, hb⟩; obtain ⟨hc, hf⟩ := bcell hb; have hW : Below w.heap.size w w1 := bthen (by go_grown) hb; have hz := hb.size; simp only [World.size_alloc] at hz; have hz0 : w.heap.size < w1.heap.size := (by omega); clear hb) | (go_at_call 54; refine (has_c n _ A _ c _ (by omega) (by omega)).mono ?_; rintro e w2 ⟨rfl, hb2⟩; rw [H1.out]; have hW2 := bthen hW hb2))
      go_ret
      exact ⟨rfl, hW2⟩
    · cases h2 : inB t 0 (p.n - 1)
      · have e : mayBe p f t by_ = false := by unfold mayBe; rw [hf, h1, h2]; rfl
        rw [e]
        have Hf := hide hf
        have H1 := hide h1
        have H2 := hide h2
        clear hf e h1 h2 hp
        obtain ⟨n, bs⟩ := p
        dsimp only at *
        go_enter Try.func36, Try.ntmps36
        go_wp2_with (first | (go_at_call 53; refine (closed_yes ⟨n, bs⟩ A b o c B _ (by simp only [World.size_alloc, World.size_drew]; omega) (hR.below ((show Below w.heap.size w _ by go_grown).mono hB)) Hf.out).mono ?_; rintro e w1 ⟨ob, rb, rfl, hT, _, _, hb⟩; obtain ⟨hc, hf⟩ := bcell hb; have hW : Below w.heap.size w w1 := bthen (by go_grown) hb; have hz := hb.size; simp only [World.size_alloc] at hz; have hz0 : w.heap.size < w1.heap.size := (by omega); clear hb) | (go_at_call 54; refine (has_c n _ A _ c _ (by omega) (by omega)).mono ?_; rintro e w' ⟨rfl, hb⟩; (first | rw [H1.out] | rw [H2.out]); have hV : Below w1.heap.size w1 w' := (by first | exact hb | exact bthen (by assumption) hb); obtain ⟨hc', hf'⟩ := bcell hV; clear hb))
        go_ret
        exact ⟨rfl, bthen hW hV⟩
      · cases h3 : inB by_ (-2000) 2000
        · have e : mayBe p f t by_ = false := by unfold mayBe; rw [hf, h1, h2, h3]; rfl
          rw [e]
          have Hf := hide hf
          have H1 := hide h1
          have H2 := hide h2
          have H3 := hide h3
          clear hf e h1 h2 h3 hp
          obtain ⟨n, bs⟩ := p
          dsimp only at *
          go_enter Try.func36, Try.ntmps36
          go_wp2_with (first
            | (go_at_call 53; refine (closed_yes ⟨n, bs⟩ A b o c B _ (by simp only [World.size_alloc, World.size_drew]; omega) (hR.below ((show Below w.heap.size w _ by go_grown).mono hB)) Hf.out).mono ?_; rintro e w1 ⟨ob, rb, rfl, hT, _, _, hb⟩; obtain ⟨hc, hf⟩ := bcell hb; have hW : Below w.heap.size w w1 := bthen (by go_grown) hb; have hz := hb.size; simp only [World.size_alloc] at hz; have hz0 : w.heap.size < w1.heap.size := (by omega); clear hb)
            | (go_at_call 54; refine (has_c n _ A _ c _ (by omega) (by omega)).mono ?_; rintro e w' ⟨rfl, hb⟩; (first | rw [H1.out] | rw [H2.out]); have hV : Below w1.heap.size w1 w' := (by first | exact hb | exact bthen (by assumption) hb); obtain ⟨hc', hf'⟩ := bcell hV; clear hb)
            | (go_at_call 55; refine (in_c _ _ _ _).mono ?_; rintro e w' ⟨rfl, rfl⟩; rw [H3.out]))
          go_ret
          exact ⟨rfl, bthen hW hV⟩
        · have e : mayBe p f t by_ = mayT (clT p) f.toNat t.toNat by_ := by unfold mayBe; rw [hf, h1, h2, h3]; rfl
          rw [e]
          obtain ⟨hf1, hf2⟩ := inB_iff.1 h1
          obtain ⟨ht1, ht2⟩ := inB_iff.1 h2
          obtain ⟨hab1, hab2⟩ := clT_abs hp t.toNat f.toNat (by omega) (by omega)
          have Hf := hide hf
          have H1 := hide h1
          have H2 := hide h2
          have H3 := hide h3
          clear hf e h1 h2 h3 hp
          obtain ⟨n, bs⟩ := p
          dsimp only at *
          obtain ⟨f, rfl⟩ := Int.eq_ofNat_of_zero_le hf1
          obtain ⟨t, rfl⟩ := Int.eq_ofNat_of_zero_le ht1
          simp only [Int.toNat_natCast] at *
          generalize hm : nn ⟨n, bs⟩ = m at *
          have Hm := hide hm
          have hfm : f < m := by omega
          have htm : t < m := by omega
          generalize hT : clT ⟨n, bs⟩ = T at *
          have HT := hide hT
          have hn7 : n ≤ 6 := by omega
          have hn8 : 1 ≤ n := by omega
          clear hm hT hnn
          go_enter Try.func36, Try.ntmps36
          go_wp2_with (first
            | (go_at_call 53; go_fit (closed_yes ⟨n, bs⟩ A b o c B _ (by simp only [World.size_alloc, World.size_drew]; omega) (hR.below ((show Below w.heap.size w _ by go_grown).mono hB)) Hf.out); rw [HT.out, Hm.out]; rintro e w1 ⟨ob, rb, rfl, hT, _, _, hb⟩; obtain ⟨hc, hf⟩ := bcell hb; have hW : Below w.heap.size w w1 := bthen (by go_grown) hb; have hz := hb.size; simp only [World.size_alloc] at hz; have hz0 : w.heap.size < w1.heap.size := (by omega); clear hb)
            | (go_at_call 54; refine (has_c n _ A _ c _ (by omega) (by omega)).mono ?_; rintro e w' ⟨rfl, hb⟩; (first | rw [H1.out] | rw [H2.out]); have hV : Below w1.heap.size w1 w' := (by first | exact hb | exact bthen (by assumption) hb); obtain ⟨hc', hf'⟩ := bcell hV; clear hb)
            | (go_at_call 55; refine (in_c _ _ _ _).mono ?_; rintro e w' ⟨rfl, rfl⟩; rw [H3.out])
            | (go_at_call 69; refine (mayT_c T m ob rb _ m w1.heap.size f t by_ _ (hT.reads.below hV) (by omega) hfm htm (by omega) (by omega)).mono ?_; rintro e w' ⟨rfl, rfl⟩))
          go_ret
          exact ⟨rfl, bthen hW hV⟩
end Go.Proofs.Ytofodhdpppjaoaa
