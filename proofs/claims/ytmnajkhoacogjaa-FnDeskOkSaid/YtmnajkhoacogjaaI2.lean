/-
  spec.ImpliesOk, spec.AlikeOk.
-/
import Derived.Test.YtmnajkhoacogjaaS2
import Derived.Test.YtmnajkhoacogjaaI1
namespace Go.Proofs.Ytmnajkhoacogjaa
set_option linter.unusedVariables false
set_option linter.unusedSimpArgs false
open Go.RowKit Pp

set_option maxHeartbeats 8000000 in
set_option maxRecDepth 100000 in
theorem sImpliesOk_c (p q : Pl) (A A' : Option Addr) (b o c b' o' c' B : Nat) (w : World) (hn : p.bs.length ≤ 100000) (hn' : q.bs.length ≤ 100000) (hB : B ≤ w.heap.size) (hR : BdsR w B b o A p.bs) (hR' : BdsR w B b' o' A' q.bs) :
    Calls Try.prog 50 #[.agg #[.int .i64 p.n, .slice A p.bs.length c], .agg #[.int .i64 q.n, .slice A' q.bs.length c']] w fun e w' => e = .returned (.bool (implies p q)) ∧ Below w.heap.size w w' := by
  obtain ⟨n, bs⟩ := p
  obtain ⟨n', bs'⟩ := q
  dsimp only at *
  have hl6 : bs.length ≤ 2000000 := by omega
  have hl6' : bs'.length ≤ 2000000 := by omega
  obtain ⟨r, Hr⟩ : ∃ r, Hid (implies ⟨n, bs⟩ ⟨n', bs'⟩ = r) := ⟨_, rfl⟩
  rw [Hr.out]
  go_enter Try.func50, Try.ntmps50
  go_upto_region 1 with fail
  have hP := (po_new (t := 25) (n := n) (c := c) (Below.refl w.heap.size w) (hR.more hB)).alloc (.cells #[.int .i64 n', .slice A' bs'.length c'] 25)
  have hb0 : Below w.heap.size w (w.alloc (.cells #[.int .i64 n, .slice A bs.length c] 25)) := by go_grown
  have hQ := po_new (t := 25) (n := n') (c := c') hb0 ((hR'.below (hb0.mono hB)).more (Nat.le_trans hB hb0.size))
  simp only [World.size_alloc] at hQ
  generalize (w.alloc (.cells #[.int .i64 n, .slice A bs.length c] 25)).alloc (.cells #[.int .i64 n', .slice A' bs'.length c'] 25) = W at hP hQ ⊢
  generalize w.heap.size + 1 = Y at hQ ⊢
  generalize hX : w.heap.size = X at hP ⊢
  clear hR hR' hb0
  have p0 := hP.c0
  have p1 := hP.c1
  cases hp : planOk ⟨n, bs⟩
  · obtain rfl : r = false := by rw [← Hr.out]; unfold implies; rw [hp]; rfl
    have Hp := hide hp
    clear hp
    go_wp2_with (go_at_call 11; go_fit (sPlanOk_c ⟨n, bs⟩ A b o c _ _ hl6 (Nat.le_refl _) hP.rd); rintro e w2 ⟨rfl, hb2⟩; rw [Hp.out]; have hP2 := hP.below hb2)
    go_ret
    exact ⟨rfl, hX ▸ hP2.bel⟩
  · have hnn := nn_ok hp
    cases hq : planOk ⟨n', bs'⟩
    · obtain rfl : r = false := by rw [← Hr.out]; unfold implies; rw [hp, hq]; rfl
      have Hp := hide hp
      have Hq := hide hq
      clear hp hq
      go_wp2_with (first
        | (go_at_call 11; go_fit (sPlanOk_c ⟨n, bs⟩ A b o c _ _ hl6 (Nat.le_refl _) hP.rd); rintro e w2 ⟨rfl, hb2⟩; rw [Hp.out]; have hQ2 := hQ.below hb2; have q0 := hQ2.c0; have q1 := hQ2.c1)
        | (go_at_call 11; go_fit (sPlanOk_c ⟨n', bs'⟩ A' b' o' c' _ _ hl6' (Nat.le_refl _) hQ2.rd); rintro e w3 ⟨rfl, hb3⟩; rw [Hq.out]; have hQ3 := hQ2.below hb3))
      go_ret
      exact ⟨rfl, hX ▸ hQ3.bel⟩
    · by_cases hnn' : n = n'
      · subst hnn'
        have hwq := within_of_ok hq
        cases hf : fits ⟨n, bs⟩
        · obtain rfl : r = true := by rw [← Hr.out]; unfold implies; rw [hp, hq, hf]; simp
          have Hp := hide hp
          have Hq := hide hq
          have Hf := hide hf
          clear hp hq hf
          go_wp2_with (first
            | (go_at_call 11; go_fit (sPlanOk_c ⟨n, bs⟩ A b o c _ _ hl6 (Nat.le_refl _) hP.rd); rintro e w2 ⟨rfl, hb2⟩; rw [Hp.out]; have hP2 := hP.below hb2; have hQ2 := hQ.below hb2; have q0 := hQ2.c0; have q1 := hQ2.c1)
            | (go_at_call 11; go_fit (sPlanOk_c ⟨n, bs'⟩ A' b' o' c' _ _ hl6' (Nat.le_refl _) hQ2.rd); rintro e w3 ⟨rfl, hb3⟩; rw [Hq.out]; have hP3 := hP2.below hb3; have hQ3 := hQ2.below hb3; have r0 := hP3.c0; have r1 := hP3.c1; have s0 := hQ3.c0)
            | (go_at_call 52; go_fit (sFitsOk_c ⟨n, bs⟩ A b o c _ _ hl6 (Nat.le_refl _) hP3.rd); rintro e w4 ⟨rfl, hb4⟩; rw [Hf.out]; have hP4 := hP3.below hb4))
          go_ret
          exact ⟨rfl, hX ▸ hP4.bel⟩
        · have hr : tabLe (clT ⟨n, bs⟩) (tab0 bs') (nn ⟨n, bs⟩) (nn ⟨n, bs⟩) = r := by rw [← Hr.out]; unfold implies; rw [hp, hq, hf]; simp
          have Hr2 := hide hr
          have Hp := hide hp
          have Hq := hide hq
          have Hf := hide hf
          clear hp hq hf hr
          obtain ⟨m, hm⟩ : ∃ m, nn ⟨n, bs⟩ = m := ⟨_, rfl⟩
          have hmq : nn ⟨n, bs'⟩ = m := by rw [← hm]; rfl
          rw [hmq] at hwq
          rw [hm] at hnn
          dsimp only at hnn
          obtain ⟨hm6, hm1, hmn⟩ := hnn
          obtain rfl : n = (m : Int) := hmn.symm
          unfold Hid at Hr2
          rw [hm] at Hr2
          have Hr2 := hide Hr2
          have Hm := hide hm
          clear hm hmq
          go_wp2_with (first
            | (go_at_call 11; go_fit (sPlanOk_c ⟨(m : Int), bs⟩ A b o c _ _ hl6 (Nat.le_refl _) hP.rd); rintro e w2 ⟨rfl, hb2⟩; rw [Hp.out]; have hP2 := hP.below hb2; have hQ2 := hQ.below hb2; have q0 := hQ2.c0; have q1 := hQ2.c1)
            | (go_at_call 11; go_fit (sPlanOk_c ⟨(m : Int), bs'⟩ A' b' o' c' _ _ hl6' (Nat.le_refl _) hQ2.rd); rintro e w3 ⟨rfl, hb3⟩; rw [Hq.out]; have hP3 := hP2.below hb3; have hQ3 := hQ2.below hb3; have r0 := hP3.c0; have r1 := hP3.c1; have s0 := hQ3.c0)
            | (go_at_call 52; go_fit (sFitsOk_c ⟨(m : Int), bs⟩ A b o c _ _ hl6 (Nat.le_refl _) hP3.rd); rintro e w6 ⟨rfl, hb6⟩; rw [Hf.out]; have hP6 := hP3.below hb6; have hQ6 := hQ3.below hb6; have u0 := hP6.c0; have u1 := hP6.c1)
            | (go_at_call 53; go_fit (sClosed_c ⟨(m : Int), bs⟩ A b o c _ _ Hp.out (Nat.le_refl _) hP6.rd); rintro e w4 ⟨ob, cc, rb, rc, rfl, hT, hb4⟩; rw [Hm.out] at hT ⊢; have hQ4 := hQ6.below hb4; have t0 := hQ4.c0; have t1 := hQ4.c1)
            | (go_at_call 54; go_fit (l2Table_c m bs' A' b' o' c' _ _ hm1 (by omega) hl6' (Nat.le_refl _) hQ4.rd); rintro e w5 ⟨A5, cc5, rb5, rc5, rfl, hT5, hb5⟩; have hQ5 := hQ4.below hb5; have hP5 := (hP6.below hb4).below hb5))
          have hD := (hT.below hb5).more hb5.size
          obtain ⟨ob2, rfl, hT6⟩ := hT5.tab (by omega)
          have v0 := hP5.c0
          have hW5 : Below w.heap.size w w5 := hX ▸ hQ5.bel
          have hX5 := hP5.ex
          clear hT hT5 hb2 hb3 hb4 hb5 hb6 hP hP2 hP3 hP5 hP6 hQ hQ2 hQ3 hQ4 hQ5 hQ6 p0 p1 q0 q1 r0 r1 s0 t0 t1 u0 u1 Hr hwq
          generalize clT ⟨(m : Int), bs⟩ = D at hD Hr2 ⊢
          generalize tab0 bs' = T at hT6 Hr2 ⊢
          rw [hX] at hW5
          go_wp2_with fail
          go_loopg [7, 8] m (fun gh s s8 wr => Below X w wr ∧ wr.cell? ⟨X, 0, none⟩ = some (.int .i64 (m : Int)) ∧ TabR wr w5.heap.size ob rb rc m D ∧ TabR wr w5.heap.size ob2 rb5 rc5 m T ∧ ∃ i : Nat, i ≤ m ∧ gh = m - i ∧ s = .int .i64 i ∧ Hid (tabLe D T m i = true))
          case atStart => exact ⟨hW5, v0, hD, hT6, 0, Nat.zero_le _, rfl, rfl, rfl⟩
          case round =>
            clear hW5 v0 hD hT6
            obtain ⟨hW5, v0, hD, hT6, i, hi, rfl, rfl, Hi⟩ := hrel
            by_cases hlt : i < m
            · have hlt' : (i : Int) < (m : Int) := by omega
              go_wp2_with fail
              go_loopg [8] m (fun gh s wr2 => Below X w wr2 ∧ wr2.cell? ⟨X, 0, none⟩ = some (.int .i64 (m : Int)) ∧ TabR wr2 w5.heap.size ob rb rc m D ∧ TabR wr2 w5.heap.size ob2 rb5 rc5 m T ∧ ∃ k : Nat, k ≤ m ∧ gh = m - k ∧ s = .int .i64 k ∧ Hid (rowLe D T i k = true))
              case atStart => exact ⟨hW5, v0, hD, hT6, 0, Nat.zero_le _, rfl, rfl, rfl⟩
              case round =>
                clear hW5 v0 hD hT6
                obtain ⟨hW5, v0, hD, hT6, k, hk, rfl, rfl, Hk⟩ := hrel
                by_cases hlk : k < m
                · have hlk' : (k : Int) < (m : Int) := by omega
                  have d0 := hD.top i hlt
                  have e0 := hT6.top i hlt
                  have d1 := hD.row i k hlt hlk
                  have e1 := hT6.row i k hlt hlk
                  by_cases hle : D i k ≤ T i k
                  · have Hk2 : Hid (rowLe D T i (k + 1) = true) := by unfold Hid; simp only [rowLe, Hk.out, decide_eq_true hle]; rfl
                    generalize D i k = x at d1 hle
                    generalize T i k = y at e1 hle
                    go_upto_region 13 with fail
                    go_region
                    go_wp2_with fail
                    go_roundg (m - (k + 1))
                    case measure => go_light; omega
                    case rel => go_light; exact ⟨hW5.drew, v0, hD.below (show Below w5.heap.size wr wr.drew by go_grown), hT6.below (show Below w5.heap.size wr wr.drew by go_grown), k + 1, by omega, rfl, by go_num, Hk2⟩
                  · obtain rfl : r = false := by rw [← Hr2.out]; exact tabLe_no hlt hlk hle
                    generalize D i k = x at d1 hle
                    generalize T i k = y at e1 hle
                    go_upto_region 13 with fail
                    go_region
                    go_wp2_with fail
                    (try rw [Exit.noGoto_ret])
                    go_ret
                    exact ⟨rfl, hX ▸ hW5.drew⟩
                · obtain rfl : k = m := by omega
                  have Hi2 : Hid (tabLe D T k (i + 1) = true) := by unfold Hid; simp only [tabLe, Hi.out, Hk.out]; rfl
                  go_wp2_with fail
                  go_roundg (k - (i + 1))
                  case measure => go_light; omega
                  case rel => go_light; exact ⟨hW5, v0, hD, hT6, i + 1, by omega, rfl, by go_num, Hi2⟩
            · obtain rfl : i = m := by omega
              obtain rfl : r = true := by rw [← Hr2.out]; exact Hi.out
              go_wp2_with fail
              go_ret
              exact ⟨rfl, hX ▸ hW5⟩
      · obtain rfl : r = false := by rw [← Hr.out]; unfold implies; rw [decide_eq_false hnn']; simp
        have Hp := hide hp
        have Hq := hide hq
        clear hp hq
        go_wp2_with (first
          | (go_at_call 11; go_fit (sPlanOk_c ⟨n, bs⟩ A b o c _ _ hl6 (Nat.le_refl _) hP.rd); rintro e w2 ⟨rfl, hb2⟩; rw [Hp.out]; have hP2 := hP.below hb2; have hQ2 := hQ.below hb2; have q0 := hQ2.c0; have q1 := hQ2.c1)
          | (go_at_call 11; go_fit (sPlanOk_c ⟨n', bs'⟩ A' b' o' c' _ _ hl6' (Nat.le_refl _) hQ2.rd); rintro e w3 ⟨rfl, hb3⟩; rw [Hq.out]; have hP3 := hP2.below hb3; have hQ3 := hQ2.below hb3; have r0 := hP3.c0; have s0 := hQ3.c0))
        go_ret
        exact ⟨rfl, hX ▸ hQ3.bel⟩

set_option maxHeartbeats 2000000 in
set_option maxRecDepth 100000 in
theorem sAlikeOk_c (p q : Pl) (A A' : Option Addr) (b o c b' o' c' B : Nat) (w : World) (hn : p.bs.length ≤ 100000) (hn' : q.bs.length ≤ 100000) (hB : B ≤ w.heap.size) (hR : BdsR w B b o A p.bs) (hR' : BdsR w B b' o' A' q.bs) :
    Calls Try.prog 47 #[.agg #[.int .i64 p.n, .slice A p.bs.length c], .agg #[.int .i64 q.n, .slice A' q.bs.length c']] w fun e w' => e = .returned (.bool (alike p q)) ∧ Below w.heap.size w w' := by
  obtain ⟨n, bs⟩ := p
  obtain ⟨n', bs'⟩ := q
  dsimp only at *
  have ea : alike ⟨n, bs⟩ ⟨n', bs'⟩ = (implies ⟨n, bs⟩ ⟨n', bs'⟩ && implies ⟨n', bs'⟩ ⟨n, bs⟩) := rfl
  rw [ea]
  clear ea
  have hP := (po_new (t := 25) (n := n) (c := c) (Below.refl w.heap.size w) (hR.more hB)).alloc (.cells #[.int .i64 n', .slice A' bs'.length c'] 25)
  have hb0 : Below w.heap.size w (w.alloc (.cells #[.int .i64 n, .slice A bs.length c] 25)) := by go_grown
  have hQ := po_new (t := 25) (n := n') (c := c') hb0 ((hR'.below (hb0.mono hB)).more (Nat.le_trans hB hb0.size))
  simp only [World.size_alloc] at hQ
  cases h1 : implies ⟨n, bs⟩ ⟨n', bs'⟩
  · have H1 := hide h1
    clear h1
    go_enter Try.func47, Try.ntmps47
    go_wp2_with (go_at_call 50; go_fit (sImpliesOk_c ⟨n, bs⟩ ⟨n', bs'⟩ A A' b o c b' o' c' _ _ hn hn' (Nat.le_refl _) hP.rd hQ.rd); rintro e w2 ⟨rfl, hb2⟩; rw [H1.out]; have hP2 := hP.below hb2)
    go_ret
    exact ⟨rfl, hP2.bel⟩
  · have H1 := hide h1
    clear h1
    obtain ⟨r, hr⟩ : ∃ r, implies ⟨n', bs'⟩ ⟨n, bs⟩ = r := ⟨_, rfl⟩
    rw [hr]
    have H2 := hide hr
    clear hr
    go_enter Try.func47, Try.ntmps47
    go_upto_region 1 with fail
    generalize (w.alloc (.cells #[.int .i64 n, .slice A bs.length c] 25)).alloc (.cells #[.int .i64 n', .slice A' bs'.length c'] 25) = W at hP hQ ⊢
    have p0 := hP.c0
    have p1 := hP.c1
    have q0 := hQ.c0
    have q1 := hQ.c1
    go_wp2_with (first
      | (go_at_call 50; go_fit (sImpliesOk_c ⟨n, bs⟩ ⟨n', bs'⟩ A A' b o c b' o' c' _ _ hn hn' (Nat.le_refl _) hP.rd hQ.rd); rintro e w2 ⟨rfl, hb2⟩; rw [H1.out]; have hP2 := hP.below hb2; have hQ2 := hQ.below hb2; have r0 := hP2.c0; have r1 := hP2.c1; have s0 := hQ2.c0; have s1 := hQ2.c1)
      | (go_at_call 50; go_fit (sImpliesOk_c ⟨n', bs'⟩ ⟨n, bs⟩ A' A b' o' c' b o c _ _ hn' hn (Nat.le_refl _) hQ2.rd hP2.rd); rintro e w3 ⟨rfl, hb3⟩; rw [H2.out]; have hP3 := hP2.below hb3))
    go_ret
    exact ⟨by cases r <;> rfl, hP3.bel⟩
end Go.Proofs.Ytmnajkhoacogjaa
