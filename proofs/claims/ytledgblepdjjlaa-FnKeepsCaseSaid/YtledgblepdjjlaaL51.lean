/-
  impl.KeepsCase.
-/
import Derived.Test.YtledgblepdjjlaaL50
import Derived.Test.YtledgblepdjjlaaP28
import Derived.Test.YtledgblepdjjlaaL6
namespace Go.Proofs.Ytledgblepdjjlaa
set_option linter.unusedVariables false
set_option linter.unusedSimpArgs false
open Go.RowKit Pp

set_option maxHeartbeats 1000000 in
set_option maxRecDepth 100000 in
theorem kcase1_c (X : Nat) (x : Bd) (xs : List Int) (A : Option Addr) (b o c B : Nat) (w : World) (hf : 0 ≤ x.f ∧ x.f < xs.length) (ht : 0 ≤ x.t ∧ x.t < xs.length) (hv : ∀ v ∈ xs, -2000 ≤ v ∧ v ≤ 2000) (hl : xs.length ≤ 2000000) (hB : B ≤ w.heap.size) (hR : IntsR w B b o A xs) (x0 : w.cell? ⟨X, 0, none⟩ = some (.slice A xs.length c)) (hX : X < w.heap.size) :
    Calls Try.prog 95 #[.agg #[.int .i64 x.f, .int .i64 x.t, .int .i64 x.m], .pointer (some ⟨X, 0, none⟩)] w fun e w' => e = .returned (.bool (keptB xs x)) ∧ Below w.heap.size w w' := by
  obtain ⟨r, hr⟩ : ∃ r, keptB xs x = r := ⟨_, rfl⟩
  rw [hr]
  have Hr := hide hr
  clear hr
  have hW : Below w.heap.size w (w.alloc (.cells #[.int .i64 x.f, .int .i64 x.t, .int .i64 x.m] 66)) := by go_grown
  have hf' := hide hf
  have ht' := hide ht
  have hv' := hide hv
  clear hf ht hv
  go_enter Try.func95, Try.ntmps95
  go_wp2_with (go_at_call 96; go_fit (keptBy_c x xs A b o c B _ hf'.out ht'.out hv'.out hl (Nat.le_trans hB hW.size) (hR.below (hW.mono hB))); rintro e w2 ⟨rfl, hb2⟩; rw [Hr.out])
  go_ret
  exact ⟨rfl, bthen hW hb2⟩

/-- slices.IndexFunc and slices.ContainsFunc over bounds, with the test 'impl.KeepsCase$1'. -/
theorem kcase1_idx (a : Addr) (A : Option Addr) (b o c B : Nat) (bs : List Bd) (f : Bd → Bool) (w : World) (hn : bs.length ≤ 2000000) (hB : B ≤ w.heap.size) (hR : BdsR w B b o A bs)
    (H : ∀ (x : Bd) (w1 : World), x ∈ bs → Below w.heap.size w w1 → Calls Try.prog 95 (#[.agg #[.int .i64 x.f, .int .i64 x.t, .int .i64 x.m]] ++ #[.pointer (some a)]) w1 fun e w' => e = .returned (.bool (f x)) ∧ Below w1.heap.size w1 w') :
    Calls Try.prog 122 #[.slice A bs.length c, .func (.func 95) #[] #[.pointer (some a)]] w fun e w' => ∃ k : Int, e = .returned (.int .i64 k) ∧ (0 ≤ k ↔ bs.any f = true) ∧ Below w.heap.size w w' := by
  have HH := hide H
  clear H
  go_enter Try.func122, Try.ntmps122
  go_wp2
  go_loopg [8] bs.length (fun g i wr => ∃ k : Nat, k ≤ bs.length ∧ g = bs.length - k ∧ i = .int .i64 k ∧ Below w.heap.size w wr ∧ Hid ((bs.take k).any f = false))
  case atStart => exact ⟨0, Nat.zero_le _, rfl, rfl, Below.refl _ _, by simp [Hid]⟩
  case round =>
    obtain ⟨k, hk, rfl, rfl, hW0, hA⟩ := hrel
    by_cases hlt : k < bs.length
    · obtain rfl := hR.addr (by omega)
      have hx := List.getElem?_eq_getElem hlt
      have hR' := hR.below (hW0.mono hB)
      have d0 := hR'.c0 k _ hx
      have d1 := hR'.c1 k _ hx
      have d2 := hR'.c2 k _ hx
      have hz : (k : Int) < (bs.length : Int) := by omega
      have hT : Hid (bs.take (k + 1) = bs.take k ++ [bs[k]]) := by rw [List.take_succ_eq_append_getElem hlt]; rfl
      generalize bs[k] = x at *
      clear hR' 
      have Hx := hide hx
      clear hx
      cases hfx : f x
      · have Hf := hide hfx
        clear hfx
        go_wp2_with (go_at_call 95; refine (HH.out x wr (List.mem_of_getElem? Hx.out) hW0).mono ?_; rintro e w' ⟨rfl, hb⟩; rw [Hf.out]; have hW : Below w.heap.size w w' := bthen hW0 hb; clear hb)
        go_roundg (bs.length - (k + 1))
        case measure => go_light; omega
        case rel => go_light; exact ⟨k + 1, by omega, rfl, by go_num, hW, by unfold Hid; rw [hT.out, List.any_append, hA.out]; simp [Hf.out]⟩
      · have Hf := hide hfx
        clear hfx
        go_wp2_with (go_at_call 95; refine (HH.out x wr (List.mem_of_getElem? Hx.out) hW0).mono ?_; rintro e w' ⟨rfl, hb⟩; rw [Hf.out]; have hW : Below w.heap.size w w' := bthen hW0 hb; clear hb)
        go_ret
        exact ⟨k, rfl, ⟨fun _ => List.any_eq_true.2 ⟨x, List.mem_of_getElem? Hx.out, Hf.out⟩, fun _ => by omega⟩, hW⟩
    · go_wp2
      go_ret
      refine ⟨-1, rfl, ⟨fun h => by omega, fun h => ?_⟩, hW0⟩
      have := hA.out
      rw [List.take_of_length_le (by omega), h] at this
      cases this
theorem kcase1_has (a : Addr) (A : Option Addr) (b o c B : Nat) (bs : List Bd) (f : Bd → Bool) (w : World) (hn : bs.length ≤ 2000000) (hB : B ≤ w.heap.size) (hR : BdsR w B b o A bs)
    (H : ∀ (x : Bd) (w1 : World), x ∈ bs → Below w.heap.size w w1 → Calls Try.prog 95 (#[.agg #[.int .i64 x.f, .int .i64 x.t, .int .i64 x.m]] ++ #[.pointer (some a)]) w1 fun e w' => e = .returned (.bool (f x)) ∧ Below w1.heap.size w1 w') :
    Calls Try.prog 91 #[.slice A bs.length c, .func (.func 95) #[] #[.pointer (some a)]] w fun e w' => e = .returned (.bool (bs.any f)) ∧ Below w.heap.size w w' := by
  have HH := hide H
  clear H
  cases hf : bs.any f
  · have Hf := hide hf
    clear hf
    go_enter Try.func91, Try.ntmps91
    go_wp2_with (go_at_call 122; refine (kcase1_idx _ A b o c B bs f w hn hB hR HH.out).mono ?_; rintro e w' ⟨k, rfl, hk, hW⟩; rw [Hf.out] at hk; have hk' : decide (0 ≤ k) = false := (by simp at hk ⊢; omega); clear hk)
    go_ret
    exact ⟨rfl, hW⟩
  · have Hf := hide hf
    clear hf
    go_enter Try.func91, Try.ntmps91
    go_wp2_with (go_at_call 122; refine (kcase1_idx _ A b o c B bs f w hn hB hR HH.out).mono ?_; rintro e w' ⟨k, rfl, hk, hW⟩; rw [Hf.out] at hk; have hk' : decide (0 ≤ k) = true := (by simp at hk ⊢; omega); clear hk)
    go_ret
    exact ⟨rfl, hW⟩

set_option maxHeartbeats 4000000 in
set_option maxRecDepth 100000 in
theorem keepsCase_c (n : Int) (bs : List Bd) (cs : List (List Bd)) (xs : List Int) (A A2 A' : Option Addr) (b o c b2 o2 c2 b' o' c' B : Nat) (w : World) (hn : bs.length ≤ 2000000) (hn2 : cs.length ≤ 2000000) (hn3 : ∀ l ∈ cs, l.length ≤ 2000000) (hn' : xs.length ≤ 2000000) (hB : B ≤ w.heap.size) (hR : BdsR w B b o A bs) (hC : ChR w B b2 o2 A2 cs) (hR' : IntsR w B b' o' A' xs) :
    Calls Try.prog 40 #[.agg #[.int .i64 n, .slice A bs.length c, .slice A2 cs.length c2], .slice A' xs.length c'] w fun e w' => e = .returned (.bool (keepsCase ⟨n, bs⟩ cs xs)) ∧ Below w.heap.size w w' := by
  have hD := (cc_new (n := n) (c := c) (c2 := c2) (t := 37) hB hR hC).alloc (.cells #[.slice A' xs.length c'] 28)
  have y0 : ((w.alloc (.cells #[.int .i64 n, .slice A bs.length c, .slice A2 cs.length c2] 37)).alloc (.cells #[.slice A' xs.length c'] 28)).cell? ⟨w.heap.size + 1, 0, none⟩ = some (.slice A' xs.length c') := by simp [go_sem]
  have hY : w.heap.size + 1 < ((w.alloc (.cells #[.int .i64 n, .slice A bs.length c, .slice A2 cs.length c2] 37)).alloc (.cells #[.slice A' xs.length c'] 28)).heap.size := by simp
  have hI := (hR'.below (hD.bel.mono hB)).more (Nat.le_trans hB hD.bel.size)
  clear hR hC hB hR'
  have H3 := hide hn3
  cases h1 : caseOk ⟨n, bs⟩ cs
  · have Hr : Hid (keepsCase ⟨n, bs⟩ cs xs = false) := by unfold Hid keepsCase; rw [h1]; rfl
    have H1 := hide h1
    clear h1
    go_enter Try.func40, Try.ntmps40
    go_upto_region 1 with fail
    generalize (w.alloc (.cells #[.int .i64 n, .slice A bs.length c, .slice A2 cs.length c2] 37)).alloc (.cells #[.slice A' xs.length c'] 28) = W at hD hI y0 hY ⊢
    have p0 := hD.r.c0
    have p1 := hD.r.c1
    have p2 := hD.r.c2
    go_wp2_with (go_at_call 44; go_fit (caseOk_c n bs cs A A2 b o c b2 o2 c2 _ _ hn hn2 H3.out (Nat.le_refl _) hD.r.rd hD.r.rc); rintro e w2 ⟨rfl, hb⟩; rw [H1.out]; have hYn := ((bcell hb).1 (w.heap.size + 1) 0 hY).trans y0; have hYx := Nat.lt_of_lt_of_le hY (hb).size; replace hI := (hI.below hb).more (hb).size; replace hD := hD.below hb; clear p0 p1 p2 y0 hY; have y0 := hYn; have hY := hYx; clear hYn hYx; have p0 := hD.r.c0; have p1 := hD.r.c1; have p2 := hD.r.c2)
    go_ret
    exact ⟨by rw [Hr.out]; rfl, hD.bel⟩
  cases h2 : keepsOk ⟨n, bs⟩ xs
  · have Hr : Hid (keepsCase ⟨n, bs⟩ cs xs = false) := by unfold Hid keepsCase; rw [h2, h1]; rfl
    have H1 := hide h1
    have H2 := hide h2
    clear h1 h2
    go_enter Try.func40, Try.ntmps40
    go_upto_region 1 with fail
    generalize (w.alloc (.cells #[.int .i64 n, .slice A bs.length c, .slice A2 cs.length c2] 37)).alloc (.cells #[.slice A' xs.length c'] 28) = W at hD hI y0 hY ⊢
    have p0 := hD.r.c0
    have p1 := hD.r.c1
    have p2 := hD.r.c2
    go_wp2_with (first | (go_at_call 44; go_fit (caseOk_c n bs cs A A2 b o c b2 o2 c2 _ _ hn hn2 H3.out (Nat.le_refl _) hD.r.rd hD.r.rc); rintro e w2 ⟨rfl, hb⟩; rw [H1.out]; have hYn := ((bcell hb).1 (w.heap.size + 1) 0 hY).trans y0; have hYx := Nat.lt_of_lt_of_le hY (hb).size; replace hI := (hI.below hb).more (hb).size; replace hD := hD.below hb; clear p0 p1 p2 y0 hY; have y0 := hYn; have hY := hYx; clear hYn hYx; have p0 := hD.r.c0; have p1 := hD.r.c1; have p2 := hD.r.c2) | (go_at_call 54; go_fit (keepsOk_c ⟨n, bs⟩ xs A A' b o c b' o' c' _ _ hn hn' (Nat.le_refl _) hD.r.rd hI); rintro e w2 ⟨rfl, hb⟩; rw [H2.out]; have hYn := ((bcell hb).1 (w.heap.size + 1) 0 hY).trans y0; have hYx := Nat.lt_of_lt_of_le hY (hb).size; replace hI := (hI.below hb).more (hb).size; replace hD := hD.below hb; clear p0 p1 p2 y0 hY; have y0 := hYn; have hY := hYx; clear hYn hYx; have p0 := hD.r.c0; have p1 := hD.r.c1; have p2 := hD.r.c2))
    go_ret
    exact ⟨by rw [Hr.out]; rfl, hD.bel⟩
  have ht : timesOk ⟨n, bs⟩ xs = true := by unfold keepsOk at h2; simp only [Bool.and_eq_true] at h2; exact h2.1
  have Hr : Hid (keepsCase ⟨n, bs⟩ cs xs = cs.all fun l => l.any (keptB xs)) := by unfold Hid keepsCase; rw [h2, h1]; rfl
  unfold timesOk at ht
  simp only [Bool.and_eq_true, decide_eq_true_eq, List.all_eq_true, inB_iff] at ht
  obtain ⟨⟨hp, hln⟩, hvs⟩ := ht
  have hnn := nn_ok hp
  dsimp only at hnn
  have hmem : ∀ l ∈ cs, ∀ x ∈ l, (0 ≤ x.f ∧ x.f < xs.length) ∧ (0 ≤ x.t ∧ x.t < xs.length) := fun l hl x hx => by
    have h := bdOk_iff.1 ((listOk_iff.1 ((caseOk_iff.1 h1).2.2.2 l hl)).2 x hx)
    have h1 := h.1
    have h2 := h.2.1
    dsimp only at h1 h2
    omega
  have Hmem := hide hmem
  have Hvs := hide hvs
  have H1 := hide h1
  have H2 := hide h2
  clear h1 h2 hmem hvs hp hnn hln hn3
  go_enter Try.func40, Try.ntmps40
  go_upto_region 1 with fail
  generalize (w.alloc (.cells #[.int .i64 n, .slice A bs.length c, .slice A2 cs.length c2] 37)).alloc (.cells #[.slice A' xs.length c'] 28) = W at hD hI y0 hY ⊢
  have p0 := hD.r.c0
  have p1 := hD.r.c1
  have p2 := hD.r.c2
  go_upto_region 4 with (first | (go_at_call 44; go_fit (caseOk_c n bs cs A A2 b o c b2 o2 c2 _ _ hn hn2 H3.out (Nat.le_refl _) hD.r.rd hD.r.rc); rintro e w2 ⟨rfl, hb⟩; rw [H1.out]; have hYn := ((bcell hb).1 (w.heap.size + 1) 0 hY).trans y0; have hYx := Nat.lt_of_lt_of_le hY (hb).size; replace hI := (hI.below hb).more (hb).size; replace hD := hD.below hb; clear p0 p1 p2 y0 hY; have y0 := hYn; have hY := hYx; clear hYn hYx; have p0 := hD.r.c0; have p1 := hD.r.c1; have p2 := hD.r.c2) | (go_at_call 54; go_fit (keepsOk_c ⟨n, bs⟩ xs A A' b o c b' o' c' _ _ hn hn' (Nat.le_refl _) hD.r.rd hI); rintro e w2 ⟨rfl, hb⟩; rw [H2.out]; have hYn := ((bcell hb).1 (w.heap.size + 1) 0 hY).trans y0; have hYx := Nat.lt_of_lt_of_le hY (hb).size; replace hI := (hI.below hb).more (hb).size; replace hD := hD.below hb; clear p0 p1 p2 y0 hY; have y0 := hYn; have hY := hYx; clear hYn hYx; have p0 := hD.r.c0; have p1 := hD.r.c1; have p2 := hD.r.c2))
  go_loopg [20] cs.length (fun gh i wr => ∃ k : Nat, k ≤ cs.length ∧ gh = cs.length - k ∧ i = .int .i64 k ∧ CC w wr w.heap.size b o n A c bs b2 o2 A2 c2 cs ∧ IntsR wr wr.heap.size b' o' A' xs ∧ wr.cell? ⟨w.heap.size + 1, 0, none⟩ = some (.slice A' xs.length c') ∧ w.heap.size + 1 < wr.heap.size ∧ Hid ((cs.take k).all (fun l => l.any (keptB xs)) = true))
  case atStart => exact ⟨0, Nat.zero_le _, rfl, rfl, hD, hI, y0, hY, rfl⟩
  case round =>
    clear hD hI y0 hY p0 p1 p2
    obtain ⟨k, hk, rfl, rfl, hD, hI, y0, hY, hA⟩ := hrel
    have p0 := hD.r.c0
    have p1 := hD.r.c1
    have p2 := hD.r.c2
    by_cases hlt : k < cs.length
    · have hlt' : (k : Int) < (cs.length : Int) := by omega
      obtain rfl := hD.r.rc.addr (by omega)
      have hx := List.getElem?_eq_getElem hlt
      obtain ⟨A3, b3, o3, c3, hcell, hrd⟩ := hD.r.rc.row k _ hx
      have hl2 : cs[k].length ≤ 2000000 := H3.out _ (List.getElem_mem hlt)
      have hm := Hmem.out _ (List.getElem_mem hlt)
      have hT : Hid (cs.take (k + 1) = cs.take k ++ [cs[k]]) := by rw [List.take_succ_eq_append_getElem hlt]; rfl
      generalize cs[k] = l at hx hcell hrd hl2 hm hT
      have Hm := hide hm
      have Hx := hide hx
      clear hx hm
      have hsz := hD.bel.size
      have HH : Hid (∀ (x : Bd) (w1 : World), x ∈ l → Below wr.heap.size wr w1 → Calls Try.prog 95 (#[.agg #[.int .i64 x.f, .int .i64 x.t, .int .i64 x.m]] ++ #[.pointer (some ⟨w.heap.size + 1, 0, none⟩)]) w1 fun e w' => e = .returned (.bool (keptB xs x)) ∧ Below w1.heap.size w1 w') := by
        intro x w1 hx hb1
        exact kcase1_c (w.heap.size + 1) x xs A' b' o' c' _ w1 (Hm.out x hx).1 (Hm.out x hx).2 Hvs.out hn' hb1.size (hI.below hb1) (((bcell hb1).1 _ _ hY).trans y0) (Nat.lt_of_lt_of_le hY hb1.size)
      cases h5 : l.any (keptB xs)
      · have Hr2 : Hid (keepsCase ⟨n, bs⟩ cs xs = false) := by
          unfold Hid
          rw [Hr.out, Bool.eq_false_iff]
          intro h
          have := List.all_eq_true.1 h l (List.mem_of_getElem? Hx.out)
          rw [h5] at this; cases this
        have H5 := hide h5
        clear h5
        go_wp2_with (go_at_call 91; go_fit (kcase1_has ⟨w.heap.size + 1, 0, none⟩ A3 b3 o3 c3 _ l (keptB xs) _ hl2 (Nat.le_refl _) hrd HH.out); rintro e w6 ⟨rfl, hb6⟩; rw [H5.out]; have hYn := ((bcell hb6).1 (w.heap.size + 1) 0 hY).trans y0; have hYx := Nat.lt_of_lt_of_le hY hb6.size; replace hI := (hI.below hb6).more hb6.size; replace hD := hD.below hb6)
        go_ret
        exact ⟨by rw [Hr2.out]; rfl, hD.bel⟩
      · have HN : Hid ((cs.take (k + 1)).all (fun l => l.any (keptB xs)) = true) := by
          unfold Hid
          rw [hT.out, List.all_append, hA.out]
          simp [h5]
        have H5 := hide h5
        clear h5
        go_wp2_with (go_at_call 91; go_fit (kcase1_has ⟨w.heap.size + 1, 0, none⟩ A3 b3 o3 c3 _ l (keptB xs) _ hl2 (Nat.le_refl _) hrd HH.out); rintro e w6 ⟨rfl, hb6⟩; rw [H5.out]; have hYn := ((bcell hb6).1 (w.heap.size + 1) 0 hY).trans y0; have hYx := Nat.lt_of_lt_of_le hY hb6.size; replace hI := (hI.below hb6).more hb6.size; replace hD := hD.below hb6)
        go_roundg (cs.length - (k + 1))
        case measure => go_light; omega
        case rel => go_light; exact ⟨k + 1, by omega, rfl, by go_num, hD, hI, hYn, hYx, HN⟩
    · obtain rfl : k = cs.length := by omega
      have Hr2 : Hid (keepsCase ⟨n, bs⟩ cs xs = true) := by
        have h := hA.out
        rw [List.take_length] at h
        unfold Hid; rw [Hr.out, h]
      go_wp2_with fail
      go_ret
      exact ⟨by rw [Hr2.out]; rfl, hD.bel⟩
end Go.Proofs.Ytledgblepdjjlaa
