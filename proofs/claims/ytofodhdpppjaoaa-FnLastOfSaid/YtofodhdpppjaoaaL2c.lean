/-
  Chapter 2 of the program: the closed table of a plan, and what is asked of it.
-/
import Derived.Test.YtofodhdpppjaoaaL2b
namespace Go.Proofs.Ytofodhdpppjaoaa
set_option linter.unusedVariables false
set_option linter.unusedSimpArgs false
open Go.RowKit Pp

theorem clF_of_fits {p : Pl} (h : planOk p = true) : diagOk (nn p) (clF wrap64 (tab0 p.bs) (nn p) (nn p)) = fits p ∧ (fits p = true → EqT (nn p) (clF wrap64 (tab0 p.bs) (nn p) (nn p)) (clT p)) := by
  have hw := within_of_ok h
  have hn := nn_ok h
  have hs := small_ok hn.1 (by omega) (by omega) hw
  have hle : ∀ i j, i < nn p → j < nn p → tab0 p.bs i j ≤ Far := fun i j _ _ => (tab0_le _ i j).1
  have hd := clF_diag fine_wrap hle hs.2
  constructor
  · have e : fits p = diagOk (nn p) (clT p) := by unfold fits; rw [h]; rfl
    rw [e, Bool.eq_iff_iff, diagOk_iff, diagOk_iff]
    exact hd
  · intro hf
    have hf' : diagOk (nn p) (clT p) = true := by unfold fits at hf; rw [h] at hf; simpa using hf
    exact clF_eq fine_wrap hle hs.2 (nn p) (Nat.le_refl _) (.inl (diagOk_iff.1 hf'))

set_option maxHeartbeats 1000000 in
set_option maxRecDepth 100000 in
theorem closed_no (p : Pl) (A : Option Addr) (b o c B : Nat) (w : World) (hn : p.bs.length ≤ 2000000) (hB : B ≤ w.heap.size) (hR : BdsR w B b o A p.bs) (hfit : fits p = false) :
    Calls Try.prog 53 #[.agg #[.int .i64 p.n, .slice A p.bs.length c]] w fun e w' => e = .returned (.tuple #[.slice none 0 0, .bool false]) ∧ Below w.heap.size w w' := by
  cases hp : planOk p
  · have Hp := hide hp
    clear hp hfit
    obtain ⟨n, bs⟩ := p
    dsimp only at *
    go_enter Try.func53, Try.ntmps53
    go_wp2_with (go_at_call 25; refine (planOk_c ⟨n, bs⟩ A b o c B _ hn (by simp only [World.size_alloc, World.size_drew]; omega) (hR.below ((show Below w.heap.size w _ by go_grown).mono hB))).mono ?_; rintro e w' ⟨rfl, hb⟩; rw [Hp.out]; obtain ⟨hc, hf⟩ := bcell hb; have hz := hb.size; (try simp only [World.size_alloc] at hz); have hz0 : w.heap.size < w'.heap.size := (by omega); have hW : Below w.heap.size w w' := bthen (by go_grown) hb)
    go_ret2
    exact ⟨rfl, hW⟩
  · have hw := within_of_ok hp
    obtain ⟨hn6, _, hnn⟩ := nn_ok hp
    obtain ⟨hd, _⟩ := clF_of_fits hp
    rw [hfit] at hd
    have Hd := hide hd
    have Hw := hide hw
    have Hp := hide hp
    clear hp hw hfit hd
    obtain ⟨n, bs⟩ := p
    dsimp only at *
    generalize hm : nn ⟨n, bs⟩ = m at *
    subst hnn
    clear hm
    have hl : bs.length ≤ 100000 := by have := (planOk_iff.1 Hp.out).2.1; dsimp only at this; omega
    go_enter Try.func53, Try.ntmps53
    go_wp2_with (first
      | (go_at_call 25; refine (planOk_c ⟨_, bs⟩ A b o c B _ hn (by simp only [World.size_alloc, World.size_drew]; omega) (hR.below ((show Below w.heap.size w _ by go_grown).mono hB))).mono ?_; rintro e w' ⟨rfl, hb⟩; rw [Hp.out]; obtain ⟨hc, hf⟩ := bcell hb; have hz := hb.size; (try simp only [World.size_alloc] at hz); have hz0 : w.heap.size < w'.heap.size := (by omega); have hW : Below w.heap.size w w' := bthen (by go_grown) hb)
      | (go_at_call 73; refine (start_c m bs 99 A b o c B _ (by omega) hl (Nat.le_trans hB hW.size) (hR.below (hW.mono hB)) Hw.out).mono ?_; rintro e w2 ⟨rfl, hT, hb2⟩; have hW2 := bthen hW hb2; have hle := hb.size)
      | (go_at_call 78; refine (close_c _ (rbs w'.heap.size) m w.heap.size (tab0 bs) _ (by omega) hT (fun i _ => by have := hW.size; unfold rbs; omega)).mono ?_; rintro e w3 ⟨rfl, hT3, hS⟩; rw [Hd.out]; have hW3 : Below w.heap.size w w3 := hW2.trans (below_of hS)))
    go_ret2
    exact ⟨rfl, hW3⟩

set_option maxHeartbeats 1000000 in
set_option maxRecDepth 100000 in
theorem closed_yes (p : Pl) (A : Option Addr) (b o c B : Nat) (w : World) (hB : B ≤ w.heap.size) (hR : BdsR w B b o A p.bs) (hfit : fits p = true) :
    Calls Try.prog 53 #[.agg #[.int .i64 p.n, .slice A p.bs.length c]] w fun e w' => ∃ ob rb, e = .returned (.tuple #[.slice (some ⟨ob, 0, none⟩) (nn p) (nn p), .bool true]) ∧
      Tab w' ob rb (nn p) (clT p) ∧ w.heap.size ≤ ob ∧ (∀ i, w.heap.size ≤ rb i) ∧ Below w.heap.size w w' := by
  have hp : planOk p = true := by unfold fits at hfit; simp at hfit; exact hfit.1
  have hw := within_of_ok hp
  obtain ⟨hn6, _, hnn⟩ := nn_ok hp
  obtain ⟨hd, he⟩ := clF_of_fits hp
  have he := he hfit
  rw [hfit] at hd
  have Hd := hide hd
  have Hw := hide hw
  have Hp := hide hp
  have He := hide he
  clear hp hw hfit hd he
  obtain ⟨n, bs⟩ := p
  dsimp only at *
  generalize hm : nn ⟨n, bs⟩ = m at *
  subst hnn
  clear hm
  have hl : bs.length ≤ 100000 := by have := (planOk_iff.1 Hp.out).2.1; dsimp only at this; omega
  go_enter Try.func53, Try.ntmps53
  go_wp2_with (first
    | (go_at_call 25; refine (planOk_c ⟨_, bs⟩ A b o c B _ (by dsimp only; omega) (by simp only [World.size_alloc, World.size_drew]; omega) (hR.below ((show Below w.heap.size w _ by go_grown).mono hB))).mono ?_; rintro e w' ⟨rfl, hb⟩; rw [Hp.out]; obtain ⟨hc, hf⟩ := bcell hb; have hz := hb.size; (try simp only [World.size_alloc] at hz); have hz0 : w.heap.size < w'.heap.size := (by omega); have hW : Below w.heap.size w w' := bthen (by go_grown) hb)
    | (go_at_call 73; refine (start_c m bs 99 A b o c B _ (by omega) hl (Nat.le_trans hB hW.size) (hR.below (hW.mono hB)) Hw.out).mono ?_; rintro e w2 ⟨rfl, hT, hb2⟩; have hW2 := bthen hW hb2; have hle := hb.size)
    | (go_at_call 78; refine (close_c _ (rbs w'.heap.size) m w.heap.size (tab0 bs) _ (by omega) hT (fun i _ => by have := hW.size; unfold rbs; omega)).mono ?_; rintro e w3 ⟨rfl, hT3, hS⟩; rw [Hd.out]; have hW3 : Below w.heap.size w w3 := hW2.trans (below_of hS)))
  go_ret2
  exact ⟨w'.heap.size, rbs w'.heap.size, rfl, hT3.congr He.out, hW.size, fun i => by have := hW.size; unfold rbs; omega, hW3⟩

theorem fitsOk_c (p : Pl) (A : Option Addr) (b o c B : Nat) (w : World) (hn : p.bs.length ≤ 2000000) (hB : B ≤ w.heap.size) (hR : BdsR w B b o A p.bs) :
    Calls Try.prog 32 #[.agg #[.int .i64 p.n, .slice A p.bs.length c]] w fun e w' => e = .returned (.bool (fits p)) ∧ Below w.heap.size w w' := by
  cases hf : fits p
  · have Hf := hide hf
    clear hf
    obtain ⟨n, bs⟩ := p
    dsimp only at *
    go_enter Try.func32, Try.ntmps32
    go_wp2_with (go_at_call 53; refine (closed_no ⟨n, bs⟩ A b o c B _ hn (by simp only [World.size_alloc, World.size_drew]; omega) (hR.below ((show Below w.heap.size w _ by go_grown).mono hB)) Hf.out).mono ?_; rintro e w' ⟨rfl, hb⟩; have hW : Below w.heap.size w w' := bthen (by go_grown) hb)
    go_ret
    exact ⟨rfl, hW⟩
  · have Hf := hide hf
    clear hf
    obtain ⟨n, bs⟩ := p
    dsimp only at *
    go_enter Try.func32, Try.ntmps32
    go_wp2_with (go_at_call 53; refine (closed_yes ⟨n, bs⟩ A b o c B _ (by simp only [World.size_alloc, World.size_drew]; omega) (hR.below ((show Below w.heap.size w _ by go_grown).mono hB)) Hf.out).mono ?_; rintro e w' ⟨ob, rb, rfl, _, _, _, hb⟩; have hW : Below w.heap.size w w' := bthen (by go_grown) hb)
    go_ret
    exact ⟨rfl, hW⟩

set_option maxHeartbeats 2000000 in
set_option maxRecDepth 100000 in
theorem mostOf_c (p : Pl) (f t : Int) (A : Option Addr) (b o c B : Nat) (w : World) (hn : p.bs.length ≤ 2000000) (hB : B ≤ w.heap.size) (hR : BdsR w B b o A p.bs) :
    Calls Try.prog 24 #[.agg #[.int .i64 p.n, .slice A p.bs.length c], .int .i64 f, .int .i64 t] w fun e w' => e = .returned (.tuple #[.int .i64 (mostOf p f t).1, .bool (mostOf p f t).2]) ∧ Below w.heap.size w w' := by
  cases hf : fits p
  · have e : mostOf p f t = (0, false) := by unfold mostOf; rw [hf]; rfl
    rw [e]
    have Hf := hide hf
    clear hf e
    obtain ⟨n, bs⟩ := p
    dsimp only at *
    go_enter Try.func24, Try.ntmps24
    go_wp2_with (go_at_call 53; refine (closed_no ⟨n, bs⟩ A b o c B _ hn (by simp only [World.size_alloc, World.size_drew]; omega) (hR.below ((show Below w.heap.size w _ by go_grown).mono hB)) Hf.out).mono ?_; rintro e w' ⟨rfl, hb⟩; have hW : Below w.heap.size w w' := bthen (by go_grown) hb)
    go_ret2
    exact ⟨rfl, hW⟩
  · have hp := planOk_of_fits hf
    obtain ⟨hn6, hn1, hnn⟩ := nn_ok hp
    cases h1 : inB f 0 (p.n - 1)
    · have e : mostOf p f t = (0, false) := by unfold mostOf; rw [hf, h1]; rfl
      rw [e]
      have Hf := hide hf
      have H1 := hide h1
      clear hf e h1 hp
      obtain ⟨n, bs⟩ := p
      dsimp only at *
      go_enter Try.func24, Try.ntmps24
      go_wp2_with (first
        | (go_at_call 53; refine (closed_yes ⟨n, bs⟩ A b o c B _ (by simp only [World.size_alloc, World.size_drew]; omega) (hR.below ((show Below w.heap.size w _ by go_grown).mono hB)) Hf.out).mono ?_; rintro e w' ⟨ob, rb, rfl, _, _, _, hb⟩; obtain ⟨hc, hf⟩ := bcell hb; have hz := hb.size; (try simp only [World.size_alloc] at hz); have hz0 : w.heap.size < w'.heap.size := (by omega); have hW : Below w.heap.size w w' := bthen (by go_grown) hb)
        | (go_at_call 54; refine (has_c n _ A _ c _ (by omega) (by omega)).mono ?_; rintro e w2 ⟨rfl, hb2⟩; rw [H1.out]; have hW2 := bthen hW hb2))
      go_ret2
      exact ⟨rfl, hW2⟩
    · cases h2 : inB t 0 (p.n - 1)
      · have e : mostOf p f t = (0, false) := by unfold mostOf; rw [hf, h1, h2]; rfl
        rw [e]
        have Hf := hide hf
        have H1 := hide h1
        have H2 := hide h2
        clear hf e h1 h2 hp
        obtain ⟨n, bs⟩ := p
        dsimp only at *
        go_enter Try.func24, Try.ntmps24
        go_wp2_with (first
          | (go_at_call 53; refine (closed_yes ⟨n, bs⟩ A b o c B _ (by simp only [World.size_alloc, World.size_drew]; omega) (hR.below ((show Below w.heap.size w _ by go_grown).mono hB)) Hf.out).mono ?_; rintro e w1 ⟨ob, rb, rfl, _, _, _, hb⟩; obtain ⟨hc, hf⟩ := bcell hb; have hW : Below w.heap.size w w1 := bthen (by go_grown) hb; have hz := hb.size; simp only [World.size_alloc] at hz; have hz0 : w.heap.size < w1.heap.size := (by omega); clear hb)
          | (go_at_call 54; refine (has_c n _ A _ c _ (by omega) (by omega)).mono ?_; rintro e w' ⟨rfl, hb⟩; (first | rw [H1.out] | rw [H2.out]); have hV : Below w1.heap.size w1 w' := (by first | exact hb | exact bthen (by assumption) hb); obtain ⟨hc', hf'⟩ := bcell hV; clear hb))
        go_ret2
        exact ⟨rfl, bthen hW hV⟩
      · have hi1 := inB_iff.1 h1
        have hi2 := inB_iff.1 h2
        obtain ⟨hf1, hf2⟩ := hi1
        obtain ⟨ht1, ht2⟩ := hi2
        have hle := clT_le (p := p) f.toNat t.toNat
        have hm : mostOf p f t = if clT p f.toNat t.toNat = 100000 then (0, false) else (clT p f.toNat t.toNat, true) := by
          unfold mostOf
          rw [hf, h1, h2]
          unfold Far at hle ⊢
          by_cases hq : clT p f.toNat t.toNat = 100000
          · rw [if_pos hq, if_neg (by simp; omega)]
          · rw [if_neg hq, if_pos (by simp; omega)]
        rw [hm]
        have Hf := hide hf
        have H1 := hide h1
        have H2 := hide h2
        clear hf h1 h2 hp hm hle
        obtain ⟨n, bs⟩ := p
        dsimp only at *
        obtain ⟨f, rfl⟩ := Int.eq_ofNat_of_zero_le hf1
        obtain ⟨t, rfl⟩ := Int.eq_ofNat_of_zero_le ht1
        simp only [Int.toNat_natCast]
        generalize hm : nn ⟨n, bs⟩ = m at *
        have Hm := hide hm
        clear hm
        have hfm : f < m := by omega
        have htm : t < m := by omega
        have hfz : (f : Int) < (m : Int) := by omega
        have htz : (t : Int) < (m : Int) := by omega
        generalize hT : clT ⟨n, bs⟩ = T at *
        have HT := hide hT
        have hn7 : n ≤ 6 := by omega
        have hn8 : 1 ≤ n := by omega
        clear hT hnn
        by_cases hq : T f t = 100000
        all_goals
          first | rw [if_pos hq] | rw [if_neg hq]
          have hq' : (T f t == 100000) = decide (T f t = 100000) := rfl
          first | (have hq2 : (T f t == 100000) = true := by simp [hq]) | (have hq2 : (T f t == 100000) = false := by simp [hq])
          have Hq := hide hq
          clear hq hq'
          go_enter Try.func24, Try.ntmps24
          go_wp2_with (first
            | (go_at_call 53; go_fit (closed_yes ⟨n, bs⟩ A b o c B _ (by simp only [World.size_alloc, World.size_drew]; omega) (hR.below ((show Below w.heap.size w _ by go_grown).mono hB)) Hf.out); rw [HT.out, Hm.out]; rintro e w1 ⟨ob, rb, rfl, hT, _, _, hb⟩; obtain ⟨hc, hf⟩ := bcell hb; have hW : Below w.heap.size w w1 := bthen (by go_grown) hb; have hz := hb.size; simp only [World.size_alloc] at hz; have hz0 : w.heap.size < w1.heap.size := (by omega); have t1 := hT.top.cell hfm; have t2 := (hT.row f hfm).cell htm; have l1 := hT.lt1; have l2 := hT.lt2 f hfm; clear hb hT)
            | (go_at_call 54; refine (has_c n _ A _ c _ (by omega) (by omega)).mono ?_; rintro e w' ⟨rfl, hb⟩; (first | rw [H1.out] | rw [H2.out]); have hV : Below w1.heap.size w1 w' := (by first | exact hb | exact bthen (by assumption) hb); obtain ⟨hc', hf'⟩ := bcell hV; clear hb))
          go_ret2
          exact ⟨rfl, bthen hW hV⟩
end Go.Proofs.Ytofodhdpppjaoaa
