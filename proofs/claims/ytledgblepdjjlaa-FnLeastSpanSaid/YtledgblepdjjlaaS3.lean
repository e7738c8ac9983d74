/-
  Chapters 2 and 4 of the reference: least and most, how wide.
-/
import Derived.Test.YtledgblepdjjlaaS2c
namespace Go.Proofs.Ytledgblepdjjlaa
set_option linter.unusedVariables false
set_option linter.unusedSimpArgs false
open Go.RowKit Pp

set_option maxHeartbeats 4000000 in
set_option maxRecDepth 100000 in
theorem sMostOf_c (p : Pl) (f t : Int) (A : Option Addr) (b o c B : Nat) (w : World) (hn : p.bs.length ≤ 2000000) (hB : B ≤ w.heap.size) (hR : BdsR w B b o A p.bs) :
    Calls Try.prog 126 #[.agg #[.int .i64 p.n, .slice A p.bs.length c], .int .i64 f, .int .i64 t] w fun e w' => e = .returned (.tuple #[.int .i64 (mostOf p f t).1, .bool (mostOf p f t).2]) ∧ Below w.heap.size w w' := by
  cases hf : fits p
  · have e : mostOf p f t = (0, false) := by unfold mostOf; rw [hf]; rfl
    rw [e]
    have Hf := hide hf
    clear hf e
    obtain ⟨n, bs⟩ := p
    dsimp only at *
    go_enter Try.func126, Try.ntmps126
    go_wp2_with (go_at_call 80; refine (sFitsOk_c ⟨n, bs⟩ A b o c B _ hn (by simp only [World.size_alloc, World.size_drew]; omega) (hR.below ((show Below w.heap.size w _ by go_grown).mono hB))).mono ?_; rintro e w1 ⟨rfl, hb⟩; rw [Hf.out]; obtain ⟨hc, hf⟩ := bcell hb; have hW : Below w.heap.size w w1 := bthen (by go_grown) hb; have hz := hb.size; (try simp only [World.size_alloc] at hz); have hz0 : w.heap.size < w1.heap.size := (by omega); clear hb)
    go_ret2
    exact ⟨rfl, hW⟩
  · have hp := planOk_of_fits hf
    obtain ⟨hn6, hn1, hnn⟩ := nn_ok hp
    cases h1 : inB f 0 (p.n - 1)
    · have e : mostOf p f t = (0, false) := by unfold mostOf; rw [hf, h1]; rfl
      rw [e]
      have Hf := hide hf
      have H1 := hide h1
      clear hf e h1 hp
      obtain ⟨n, bs⟩ := p
      dsimp only at *
      go_enter Try.func126, Try.ntmps126
      go_wp2_with (first
        | (go_at_call 80; refine (sFitsOk_c ⟨n, bs⟩ A b o c B _ hn (by simp only [World.size_alloc, World.size_drew]; omega) (hR.below ((show Below w.heap.size w _ by go_grown).mono hB))).mono ?_; rintro e w1 ⟨rfl, hb⟩; rw [Hf.out]; obtain ⟨hc, hf⟩ := bcell hb; have hW : Below w.heap.size w w1 := bthen (by go_grown) hb; have hz := hb.size; (try simp only [World.size_alloc] at hz); have hz0 : w.heap.size < w1.heap.size := (by omega); clear hb)
        | (go_at_call 66; refine (l1In_c _ _ _ _).mono ?_; rintro e w' ⟨rfl, rfl⟩; rw [H1.out]))
      go_ret2
      exact ⟨rfl, hW⟩
    · cases h2 : inB t 0 (p.n - 1)
      · have e : mostOf p f t = (0, false) := by unfold mostOf; rw [hf, h1, h2]; rfl
        rw [e]
        have Hf := hide hf
        have H1 := hide h1
        have H2 := hide h2
        clear hf e h1 h2 hp
        obtain ⟨n, bs⟩ := p
        dsimp only at *
        go_enter Try.func126, Try.ntmps126
        go_wp2_with (first
          | (go_at_call 80; refine (sFitsOk_c ⟨n, bs⟩ A b o c B _ hn (by simp only [World.size_alloc, World.size_drew]; omega) (hR.below ((show Below w.heap.size w _ by go_grown).mono hB))).mono ?_; rintro e w1 ⟨rfl, hb⟩; rw [Hf.out]; obtain ⟨hc, hf⟩ := bcell hb; have hW : Below w.heap.size w w1 := bthen (by go_grown) hb; have hz := hb.size; (try simp only [World.size_alloc] at hz); have hz0 : w.heap.size < w1.heap.size := (by omega); clear hb)
          | (go_at_call 66; refine (l1In_c _ _ _ _).mono ?_; rintro e w' ⟨rfl, rfl⟩; (first | rw [H1.out] | rw [H2.out])))
        go_ret2
        exact ⟨rfl, hW⟩
      · obtain ⟨hf1, hf2⟩ := inB_iff.1 h1
        obtain ⟨ht1, ht2⟩ := inB_iff.1 h2
        have hle := clT_le (p := p) f.toNat t.toNat
        have hm : mostOf p f t = if 100000 ≤ clT p f.toNat t.toNat then (0, false) else (clT p f.toNat t.toNat, true) := by
          unfold mostOf
          rw [hf, h1, h2]
          unfold Far at hle ⊢
          by_cases hq : 100000 ≤ clT p f.toNat t.toNat
          · rw [if_pos hq, if_neg (by simp; omega)]
          · rw [if_neg hq, if_pos (by simp; omega)]
        rw [hm]
        have Hf := hide hf
        have H1 := hide h1
        have H2 := hide h2
        have Hp := hide hp
        clear hf h1 h2 hp hm hle
        obtain ⟨n, bs⟩ := p
        dsimp only at *
        obtain ⟨f, rfl⟩ := Int.eq_ofNat_of_zero_le hf1
        obtain ⟨t, rfl⟩ := Int.eq_ofNat_of_zero_le ht1
        simp only [Int.toNat_natCast]
        generalize hm : nn ⟨n, bs⟩ = m at *
        have Hm := hide hm
        clear hm
        have hfm : f < m := by omega
        have htm : t < m := by omega
        have hfz : (f : Int) < (m : Int) := by omega
        have htz : (t : Int) < (m : Int) := by omega
        have hn7 : n ≤ 6 := by omega
        have hn8 : 1 ≤ n := by omega
        generalize hT : clT ⟨n, bs⟩ = T at *
        have HT := hide hT
        clear hT hnn
        by_cases hq : 100000 ≤ T f t
        · rw [if_pos hq]
          go_enter Try.func126, Try.ntmps126
          go_wp2_with (first
            | (go_at_call 80; refine (sFitsOk_c ⟨n, bs⟩ A b o c B _ hn (by simp only [World.size_alloc, World.size_drew]; omega) (hR.below ((show Below w.heap.size w _ by go_grown).mono hB))).mono ?_; rintro e w1 ⟨rfl, hb⟩; rw [Hf.out]; obtain ⟨hc, hf⟩ := bcell hb; have hW : Below w.heap.size w w1 := bthen (by go_grown) hb; have hz := hb.size; (try simp only [World.size_alloc] at hz); have hz0 : w.heap.size < w1.heap.size := (by omega); clear hb)
            | (go_at_call 66; refine (l1In_c _ _ _ _).mono ?_; rintro e w' ⟨rfl, rfl⟩; (first | rw [H1.out] | rw [H2.out]))
            | (go_at_call 116; go_fit (sClosed_c ⟨n, bs⟩ A b o c B _ Hp.out (Nat.le_trans hB hW.size) (hR.below (hW.mono hB))); rw [HT.out, Hm.out]; rintro e w2 ⟨ob, c1, rb, rc, rfl, hT, hb2⟩; have t1 := hT.top f hfm; have t2 := hT.row f t hfm htm; have hW2 := bthen hW hb2))
          go_ret2
          exact ⟨rfl, hW2⟩
        · rw [if_neg hq]
          have hq' : decide (100000 ≤ T f t) = false := by simp; omega
          go_enter Try.func126, Try.ntmps126
          go_wp2_with (first
            | (go_at_call 80; refine (sFitsOk_c ⟨n, bs⟩ A b o c B _ hn (by simp only [World.size_alloc, World.size_drew]; omega) (hR.below ((show Below w.heap.size w _ by go_grown).mono hB))).mono ?_; rintro e w1 ⟨rfl, hb⟩; rw [Hf.out]; obtain ⟨hc, hf⟩ := bcell hb; have hW : Below w.heap.size w w1 := bthen (by go_grown) hb; have hz := hb.size; (try simp only [World.size_alloc] at hz); have hz0 : w.heap.size < w1.heap.size := (by omega); clear hb)
            | (go_at_call 66; refine (l1In_c _ _ _ _).mono ?_; rintro e w' ⟨rfl, rfl⟩; (first | rw [H1.out] | rw [H2.out]))
            | (have _h0 := hz0; go_at_call 116; go_fit (sClosed_c ⟨n, bs⟩ A b o c B _ Hp.out (Nat.le_trans hB hW.size) (hR.below (hW.mono hB))); rw [HT.out, Hm.out]; rintro e w2 ⟨ob, c1, rb, rc, rfl, hT, hb2⟩; obtain ⟨hc2, hf2⟩ := bcell hb2; have hW2 := bthen hW hb2; have t1 := hT.top f hfm; have t2 := hT.row f t hfm htm; clear hz0)
            | (go_at_call 116; go_fit (sClosed_c ⟨n, bs⟩ A b o c B _ Hp.out (Nat.le_trans hB hW2.size) (hR.below (hW2.mono hB))); rw [HT.out, Hm.out]; rintro e w3 ⟨ob3, c3, rb3, rc3, rfl, hT3, hb3⟩; have hW3 := bthen hW2 hb3; have t3 := hT3.top f hfm; have t4 := hT3.row f t hfm htm))
          go_ret2
          exact ⟨rfl, hW3⟩

set_option maxRecDepth 100000 in
theorem sLeastOf_c (p : Pl) (f t : Int) (A : Option Addr) (b o c B : Nat) (w : World) (hn : p.bs.length ≤ 2000000) (hB : B ≤ w.heap.size) (hR : BdsR w B b o A p.bs) :
    Calls Try.prog 100 #[.agg #[.int .i64 p.n, .slice A p.bs.length c], .int .i64 f, .int .i64 t] w fun e w' => e = .returned (.tuple #[.int .i64 (Pp.leastOf p f t).1, .bool (Pp.leastOf p f t).2]) ∧ Below w.heap.size w w' := by
  obtain ⟨h1, h2⟩ := mostOf_abs p t f
  have e1 : (Pp.leastOf p f t).1 = -(mostOf p t f).1 := rfl
  have e2 : (Pp.leastOf p f t).2 = (mostOf p t f).2 := rfl
  rw [e1, e2]
  generalize hm : mostOf p t f = m at *
  obtain ⟨x, ok⟩ := m
  dsimp only at *
  have Hm := hide hm
  clear hm e1 e2
  obtain ⟨n, bs⟩ := p
  dsimp only at *
  go_enter Try.func100, Try.ntmps100
  go_wp2_with (go_at_call 126; refine (sMostOf_c ⟨n, bs⟩ t f A b o c B _ hn (by simp only [World.size_alloc, World.size_drew]; omega) (hR.below ((show Below w.heap.size w _ by go_grown).mono hB))).mono ?_; rw [Hm.out]; rintro e w' ⟨rfl, hb⟩; have hW : Below w.heap.size w w' := bthen (by go_grown) hb)
  go_ret2
  exact ⟨rfl, hW⟩

end Go.Proofs.Ytledgblepdjjlaa
