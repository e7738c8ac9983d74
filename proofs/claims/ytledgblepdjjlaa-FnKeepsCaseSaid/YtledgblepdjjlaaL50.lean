/-
  impl.CaseOk.
-/
import Derived.Test.YtledgblepdjjlaaR50
import Derived.Test.YtledgblepdjjlaaL1
namespace Go.Proofs.Ytledgblepdjjlaa
set_option linter.unusedVariables false
set_option linter.unusedSimpArgs false
open Go.RowKit Pp

theorem caseOk1_c (n : Int) (b : Bd) (A : Option Addr) (l c pb : Nat) (w : World) (h1 : -1000000000 ≤ n) (h2 : n ≤ 1000000000) (hp0 : w.cell? ⟨pb, 0, none⟩ = some (.int .i64 n)) (hp1 : w.cell? ⟨pb, 1, none⟩ = some (.slice A l c)) :
    Calls Try.prog 99 #[.agg #[.int .i64 b.f, .int .i64 b.t, .int .i64 b.m], .pointer (some ⟨pb, 0, none⟩)] w fun e w' => e = .returned (.bool (!bdOk n b)) ∧ Below w.heap.size w w' := by
  have hlt := World.block_lt_of_cell? _ _ hp0
  go_enter Try.func99, Try.ntmps99
  go_wp2_with (go_at_call 93; refine (boundOk_c n b A l c _ h1 h2).mono ?_; rintro e w' ⟨rfl, hb⟩; obtain ⟨hc, hf⟩ := bcell hb; have hz := hb.size; (try simp only [World.size_alloc] at hz); have hz0 : w.heap.size < w'.heap.size := (by omega); have hW : Below w.heap.size w w' := bthen (by go_grown) hb)
  go_ret
  exact ⟨rfl, hW⟩

/-- slices.IndexFunc and slices.ContainsFunc over bounds, with the test 'impl.CaseOk$1'. -/
theorem caseOk1_idx (a : Addr) (A : Option Addr) (b o c B : Nat) (bs : List Bd) (f : Bd → Bool) (w : World) (hn : bs.length ≤ 2000000) (hB : B ≤ w.heap.size) (hR : BdsR w B b o A bs)
    (H : ∀ (x : Bd) (w1 : World), Below w.heap.size w w1 → Calls Try.prog 99 (#[.agg #[.int .i64 x.f, .int .i64 x.t, .int .i64 x.m]] ++ #[.pointer (some a)]) w1 fun e w' => e = .returned (.bool (f x)) ∧ Below w1.heap.size w1 w') :
    Calls Try.prog 122 #[.slice A bs.length c, .func (.func 99) #[] #[.pointer (some a)]] w fun e w' => ∃ k : Int, e = .returned (.int .i64 k) ∧ (0 ≤ k ↔ bs.any f = true) ∧ Below w.heap.size w w' := by
  have HH := hide H
  clear H
  go_enter Try.func122, Try.ntmps122
  go_wp2
  go_loopg [8] bs.length (fun g i wr => ∃ k : Nat, k ≤ bs.length ∧ g = bs.length - k ∧ i = .int .i64 k ∧ Below w.heap.size w wr ∧ Hid ((bs.take k).any f = false))
  case atStart => exact ⟨0, Nat.zero_le _, rfl, rfl, Below.refl _ _, by simp [Hid]⟩
  case round =>
    obtain ⟨k, hk, rfl, rfl, hW0, hA⟩ := hrel
    by_cases hlt : k < bs.length
    · obtain rfl := hR.addr (by omega)
      have hx := List.getElem?_eq_getElem hlt
      have hR' := hR.below (hW0.mono hB)
      have d0 := hR'.c0 k _ hx
      have d1 := hR'.c1 k _ hx
      have d2 := hR'.c2 k _ hx
      have hz : (k : Int) < (bs.length : Int) := by omega
      have hT : Hid (bs.take (k + 1) = bs.take k ++ [bs[k]]) := by rw [List.take_succ_eq_append_getElem hlt]; rfl
      generalize bs[k] = x at *
      clear hR' 
      have Hx := hide hx
      clear hx
      cases hfx : f x
      · have Hf := hide hfx
        clear hfx
        go_wp2_with (go_at_call 99; refine (HH.out x wr hW0).mono ?_; rintro e w' ⟨rfl, hb⟩; rw [Hf.out]; have hW : Below w.heap.size w w' := bthen hW0 hb; clear hb)
        go_roundg (bs.length - (k + 1))
        case measure => go_light; omega
        case rel => go_light; exact ⟨k + 1, by omega, rfl, by go_num, hW, by unfold Hid; rw [hT.out, List.any_append, hA.out]; simp [Hf.out]⟩
      · have Hf := hide hfx
        clear hfx
        go_wp2_with (go_at_call 99; refine (HH.out x wr hW0).mono ?_; rintro e w' ⟨rfl, hb⟩; rw [Hf.out]; have hW : Below w.heap.size w w' := bthen hW0 hb; clear hb)
        go_ret
        exact ⟨k, rfl, ⟨fun _ => List.any_eq_true.2 ⟨x, List.mem_of_getElem? Hx.out, Hf.out⟩, fun _ => by omega⟩, hW⟩
    · go_wp2
      go_ret
      refine ⟨-1, rfl, ⟨fun h => by omega, fun h => ?_⟩, hW0⟩
      have := hA.out
      rw [List.take_of_length_le (by omega), h] at this
      cases this
theorem caseOk1_has (a : Addr) (A : Option Addr) (b o c B : Nat) (bs : List Bd) (f : Bd → Bool) (w : World) (hn : bs.length ≤ 2000000) (hB : B ≤ w.heap.size) (hR : BdsR w B b o A bs)
    (H : ∀ (x : Bd) (w1 : World), Below w.heap.size w w1 → Calls Try.prog 99 (#[.agg #[.int .i64 x.f, .int .i64 x.t, .int .i64 x.m]] ++ #[.pointer (some a)]) w1 fun e w' => e = .returned (.bool (f x)) ∧ Below w1.heap.size w1 w') :
    Calls Try.prog 91 #[.slice A bs.length c, .func (.func 99) #[] #[.pointer (some a)]] w fun e w' => e = .returned (.bool (bs.any f)) ∧ Below w.heap.size w w' := by
  have HH := hide H
  clear H
  cases hf : bs.any f
  · have Hf := hide hf
    clear hf
    go_enter Try.func91, Try.ntmps91
    go_wp2_with (go_at_call 122; refine (caseOk1_idx _ A b o c B bs f w hn hB hR HH.out).mono ?_; rintro e w' ⟨k, rfl, hk, hW⟩; rw [Hf.out] at hk; have hk' : decide (0 ≤ k) = false := (by simp at hk ⊢; omega); clear hk)
    go_ret
    exact ⟨rfl, hW⟩
  · have Hf := hide hf
    clear hf
    go_enter Try.func91, Try.ntmps91
    go_wp2_with (go_at_call 122; refine (caseOk1_idx _ A b o c B bs f w hn hB hR HH.out).mono ?_; rintro e w' ⟨k, rfl, hk, hW⟩; rw [Hf.out] at hk; have hk' : decide (0 ≤ k) = true := (by simp at hk ⊢; omega); clear hk)
    go_ret
    exact ⟨rfl, hW⟩

theorem listOk_eq (n : Int) (l : List Bd) : listOk n l = (inB l.length 1 3 && !(l.any fun x => !bdOk n x)) := by unfold listOk; rw [all_any]
theorem caseOk_no {p : Pl} {cs : List (List Bd)} {k : Nat} {l : List Bd} (hl : cs[k]? = some l) (h : listOk p.n l = false) : caseOk p cs = false := by
  rw [Bool.eq_false_iff]
  intro e
  have := (caseOk_iff.1 e).2.2.2 l (List.mem_of_getElem? hl)
  rw [h] at this; cases this
set_option maxHeartbeats 4000000 in
set_option maxRecDepth 100000 in
theorem caseOk_c (n : Int) (bs : List Bd) (cs : List (List Bd)) (A A2 : Option Addr) (b o c b2 o2 c2 B : Nat) (w : World) (hn : bs.length ≤ 2000000) (hn2 : cs.length ≤ 2000000) (hn3 : ∀ l ∈ cs, l.length ≤ 2000000) (hB : B ≤ w.heap.size) (hR : BdsR w B b o A bs) (hC : ChR w B b2 o2 A2 cs) :
    Calls Try.prog 44 #[.agg #[.int .i64 n, .slice A bs.length c, .slice A2 cs.length c2]] w fun e w' => e = .returned (.bool (caseOk ⟨n, bs⟩ cs)) ∧ Below w.heap.size w w' := by
  have hD := cc_new (n := n) (c := c) (c2 := c2) (t := 37) hB hR hC
  clear hR hC hB
  cases h1 : planOk ⟨n, bs⟩
  · have Hr : Hid (caseOk ⟨n, bs⟩ cs = false) := by unfold Hid caseOk; rw [h1]; rfl
    have H1 := hide h1
    clear h1
    go_enter Try.func44, Try.ntmps44
    go_upto_region 1 with fail
    generalize w.alloc (.cells #[.int .i64 n, .slice A bs.length c, .slice A2 cs.length c2] 37) = W at hD ⊢
    have p0 := hD.r.c0
    have p1 := hD.r.c1
    have p2 := hD.r.c2
    go_wp2_with (go_at_call 38; go_fit (planOk_c ⟨n, bs⟩ A b o c _ _ hn (Nat.le_refl _) hD.r.rd); rintro e w2 ⟨rfl, hb⟩; rw [H1.out]; replace hD := hD.below hb; clear p0 p1 p2; have p0 := hD.r.c0; have p1 := hD.r.c1; have p2 := hD.r.c2)
    go_ret
    exact ⟨by rw [Hr.out]; rfl, hD.bel⟩
  have hn6 := (planOk_iff.1 h1).1
  obtain ⟨hn0, hn1⟩ := hn6
  dsimp only at hn0 hn1
  by_cases h2 : 12 < bs.length
  · have Hr : Hid (caseOk ⟨n, bs⟩ cs = false) := by unfold Hid; rw [Bool.eq_false_iff]; intro h; have := (caseOk_iff.1 h).2.1; dsimp only at this; omega
    have H1 := hide h1
    have hz : (12 : Int) < (bs.length : Int) := by omega
    clear h1
    go_enter Try.func44, Try.ntmps44
    go_upto_region 1 with fail
    generalize w.alloc (.cells #[.int .i64 n, .slice A bs.length c, .slice A2 cs.length c2] 37) = W at hD ⊢
    have p0 := hD.r.c0
    have p1 := hD.r.c1
    have p2 := hD.r.c2
    go_wp2_with (go_at_call 38; go_fit (planOk_c ⟨n, bs⟩ A b o c _ _ hn (Nat.le_refl _) hD.r.rd); rintro e w2 ⟨rfl, hb⟩; rw [H1.out]; replace hD := hD.below hb; clear p0 p1 p2; have p0 := hD.r.c0; have p1 := hD.r.c1; have p2 := hD.r.c2)
    go_ret
    exact ⟨by rw [Hr.out]; rfl, hD.bel⟩
  have hz : ¬ (12 : Int) < (bs.length : Int) := by omega
  by_cases h3 : 4 < cs.length
  · have Hr : Hid (caseOk ⟨n, bs⟩ cs = false) := by unfold Hid; rw [Bool.eq_false_iff]; intro h; have := (caseOk_iff.1 h).2.2.1; omega
    have H1 := hide h1
    have hzz : (4 : Int) < (cs.length : Int) := by omega
    clear h1
    go_enter Try.func44, Try.ntmps44
    go_upto_region 1 with fail
    generalize w.alloc (.cells #[.int .i64 n, .slice A bs.length c, .slice A2 cs.length c2] 37) = W at hD ⊢
    have p0 := hD.r.c0
    have p1 := hD.r.c1
    have p2 := hD.r.c2
    go_wp2_with (go_at_call 38; go_fit (planOk_c ⟨n, bs⟩ A b o c _ _ hn (Nat.le_refl _) hD.r.rd); rintro e w2 ⟨rfl, hb⟩; rw [H1.out]; replace hD := hD.below hb; clear p0 p1 p2; have p0 := hD.r.c0; have p1 := hD.r.c1; have p2 := hD.r.c2)
    go_ret
    exact ⟨by rw [Hr.out]; rfl, hD.bel⟩
  have hzz : ¬ (4 : Int) < (cs.length : Int) := by omega
  have HOk : Hid ((∀ j l, j < cs.length → cs[j]? = some l → listOk n l = true) → caseOk ⟨n, bs⟩ cs = true) := fun h => caseOk_iff.2 ⟨h1, by dsimp only; omega, by omega, fun l hl => by
    obtain ⟨j, hj, e⟩ := List.getElem_of_mem hl
    exact h j l hj (by rw [List.getElem?_eq_getElem hj, e])⟩
  have H1 := hide h1
  have H3 := hide hn3
  clear h1 hn3
  go_enter Try.func44, Try.ntmps44
  go_upto_region 1 with fail
  generalize w.alloc (.cells #[.int .i64 n, .slice A bs.length c, .slice A2 cs.length c2] 37) = W at hD ⊢
  have p0 := hD.r.c0
  have p1 := hD.r.c1
  have p2 := hD.r.c2
  go_upto_region 4 with (go_at_call 38; go_fit (planOk_c ⟨n, bs⟩ A b o c _ _ hn (Nat.le_refl _) hD.r.rd); rintro e w2 ⟨rfl, hb⟩; rw [H1.out]; replace hD := hD.below hb; clear p0 p1 p2; have p0 := hD.r.c0; have p1 := hD.r.c1; have p2 := hD.r.c2)
  go_loopg [25] cs.length (fun gh i wr => ∃ k : Nat, k ≤ cs.length ∧ gh = cs.length - k ∧ i = .int .i64 k ∧ CC w wr w.heap.size b o n A c bs b2 o2 A2 c2 cs ∧ Hid (∀ j l, j < k → cs[j]? = some l → listOk n l = true))
  case atStart => exact ⟨0, Nat.zero_le _, rfl, rfl, hD, fun i x h => by omega⟩
  case round =>
    clear hD p0 p1 p2
    obtain ⟨k, hk, rfl, rfl, hD, hA⟩ := hrel
    have p0 := hD.r.c0
    have p1 := hD.r.c1
    have p2 := hD.r.c2
    by_cases hlt : k < cs.length
    · have hlt' : (k : Int) < (cs.length : Int) := by omega
      have hk0 : (0 : Int) ≤ (k : Int) := by omega
      obtain rfl := hD.r.rc.addr (by omega)
      have hx := List.getElem?_eq_getElem hlt
      obtain ⟨A', b', o', c', hcell, hrd⟩ := hD.r.rc.row k _ hx
      have hl2 : cs[k].length ≤ 2000000 := H3.out _ (List.getElem_mem hlt)
      generalize cs[k] = l at hx hcell hrd hl2
      have Hx := hide hx
      clear hx
      have hsz := hD.bel.size
      have hexX := hD.r.ex
      cases h4 : inB l.length 1 3
      · have Hr : Hid (caseOk ⟨n, bs⟩ cs = false) := caseOk_no Hx.out (by rw [listOk_eq, h4]; rfl)
        have H4 := hide h4
        clear h4
        go_wp2_with (go_at_call 71; go_fit (in_c _ 1 3 _); rintro e w5 ⟨rfl, rfl⟩; rw [H4.out])
        go_ret
        exact ⟨by rw [Hr.out]; rfl, hD.bel⟩
      have HH : Hid (∀ (x : Bd) (w1 : World), Below wr.heap.size wr w1 → Calls Try.prog 99 (#[.agg #[.int .i64 x.f, .int .i64 x.t, .int .i64 x.m]] ++ #[.pointer (some ⟨w.heap.size, 0, none⟩)]) w1 fun e w' => e = .returned (.bool (!bdOk n x)) ∧ Below w1.heap.size w1 w') := by
        intro x w1 hb1
        have hD1 := hD.below hb1
        exact caseOk1_c n x A bs.length c w.heap.size w1 (by omega) (by omega) hD1.r.c0 hD1.r.c1
      cases h5 : l.any (fun x => !bdOk n x)
      · have HN : Hid (∀ j l, j < k + 1 → cs[j]? = some l → listOk n l = true) := by
          intro j l2 hj hl
          by_cases e : j = k
          · subst e; rw [Hx.out] at hl; cases hl; rw [listOk_eq, h4, h5]; rfl
          · exact hA.out j l2 (by omega) hl
        have H4 := hide h4
        have H5 := hide h5
        clear h4 h5
        go_wp2_with (first | (go_at_call 71; go_fit (in_c _ 1 3 _); rintro e w5 ⟨rfl, rfl⟩; rw [H4.out]) | (go_at_call 91; go_fit (caseOk1_has _ A' b' o' c' _ l (fun x => !bdOk n x) _ (by omega) (Nat.le_refl _) hrd HH.out); rintro e w6 ⟨rfl, hb6⟩; rw [H5.out]; replace hD := hD.below hb6))
        go_roundg (cs.length - (k + 1))
        case measure => go_light; omega
        case rel => go_light; exact ⟨k + 1, by omega, rfl, by go_num, hD, HN⟩
      · have Hr : Hid (caseOk ⟨n, bs⟩ cs = false) := caseOk_no Hx.out (by rw [listOk_eq, h4, h5]; rfl)
        have H4 := hide h4
        have H5 := hide h5
        clear h4 h5
        go_wp2_with (first | (go_at_call 71; go_fit (in_c _ 1 3 _); rintro e w5 ⟨rfl, rfl⟩; rw [H4.out]) | (go_at_call 91; go_fit (caseOk1_has _ A' b' o' c' _ l (fun x => !bdOk n x) _ (by omega) (Nat.le_refl _) hrd HH.out); rintro e w6 ⟨rfl, hb6⟩; rw [H5.out]; replace hD := hD.below hb6))
        go_ret
        exact ⟨by rw [Hr.out]; rfl, hD.bel⟩
    · obtain rfl : k = cs.length := by omega
      have Hr : Hid (caseOk ⟨n, bs⟩ cs = true) := HOk.out hA.out
      go_wp2_with fail
      go_ret
      exact ⟨by rw [Hr.out]; rfl, hD.bel⟩
end Go.Proofs.Ytledgblepdjjlaa
