/-
  spec.CaseOk.
-/
import Derived.Test.YtledgblepdjjlaaR50
import Derived.Test.YtledgblepdjjlaaS1
import Derived.Test.YtledgblepdjjlaaZ1
namespace Go.Proofs.Ytledgblepdjjlaa
set_option linter.unusedVariables false
set_option linter.unusedSimpArgs false
open Go.RowKit Pp

theorem listOk_eqP {p : Pl} (hp : planOk p = true) (l : List Bd) : listOk p.n l = (inB l.length 1 3 && planOk ⟨p.n, l⟩) := (listOk_plan hp).symm
theorem caseOk_noS {p : Pl} {cs : List (List Bd)} {k : Nat} {l : List Bd} (hl : cs[k]? = some l) (h : listOk p.n l = false) : caseOk p cs = false := by
  rw [Bool.eq_false_iff]
  intro e
  have := (caseOk_iff.1 e).2.2.2 l (List.mem_of_getElem? hl)
  rw [h] at this; cases this
theorem l1In_s {n lo hi : Int} {r : Bool} (h : inB n lo hi = r) (w : World) : Calls Try.prog 66 #[.int .i64 n, .int .i64 lo, .int .i64 hi] w fun e w' => e = .returned (.bool r) ∧ w' = w := by rw [← h]; exact (l1In_c n lo hi w).mono fun _ _ ⟨h1, h2⟩ => ⟨h1, h2.symm⟩
set_option maxHeartbeats 4000000 in
set_option maxRecDepth 100000 in
theorem sCaseOk_c (n : Int) (bs : List Bd) (cs : List (List Bd)) (A A2 : Option Addr) (b o c b2 o2 c2 B : Nat) (w : World) (hn : bs.length ≤ 2000000) (hn2 : cs.length ≤ 2000000) (hn3 : ∀ l ∈ cs, l.length ≤ 2000000) (hB : B ≤ w.heap.size) (hR : BdsR w B b o A bs) (hC : ChR w B b2 o2 A2 cs) :
    Calls Try.prog 53 #[.agg #[.int .i64 n, .slice A bs.length c, .slice A2 cs.length c2]] w fun e w' => e = .returned (.bool (caseOk ⟨n, bs⟩ cs)) ∧ Below w.heap.size w w' := by
  have hD := cc_new (n := n) (c := c) (c2 := c2) (t := 37) hB hR hC
  clear hR hC hB
  cases h1 : planOk ⟨n, bs⟩
  · have Hr : Hid (caseOk ⟨n, bs⟩ cs = false) := by unfold Hid caseOk; rw [h1]; rfl
    have H1 := hide h1
    clear h1
    go_enter Try.func53, Try.ntmps53
    go_upto_region 1 with fail
    generalize w.alloc (.cells #[.int .i64 n, .slice A bs.length c, .slice A2 cs.length c2] 37) = W at hD ⊢
    have p0 := hD.r.c0
    have p1 := hD.r.c1
    have p2 := hD.r.c2
    go_wp2_with (go_at_call 105; go_fit (sPlanOk_c ⟨n, bs⟩ A b o c _ _ hn (Nat.le_refl _) hD.r.rd); rintro e w2 ⟨rfl, hb⟩; rw [H1.out]; replace hD := hD.below hb; clear p0 p1 p2; have p0 := hD.r.c0; have p1 := hD.r.c1; have p2 := hD.r.c2)
    go_ret
    exact ⟨by rw [Hr.out]; rfl, hD.bel⟩
  by_cases h2 : 12 < bs.length
  · have Hr : Hid (caseOk ⟨n, bs⟩ cs = false) := by unfold Hid; rw [Bool.eq_false_iff]; intro h; have := (caseOk_iff.1 h).2.1; dsimp only at this; omega
    have H1 := hide h1
    have hz : (12 : Int) < (bs.length : Int) := by omega
    clear h1
    go_enter Try.func53, Try.ntmps53
    go_upto_region 1 with fail
    generalize w.alloc (.cells #[.int .i64 n, .slice A bs.length c, .slice A2 cs.length c2] 37) = W at hD ⊢
    have p0 := hD.r.c0
    have p1 := hD.r.c1
    have p2 := hD.r.c2
    go_wp2_with (go_at_call 105; go_fit (sPlanOk_c ⟨n, bs⟩ A b o c _ _ hn (Nat.le_refl _) hD.r.rd); rintro e w2 ⟨rfl, hb⟩; rw [H1.out]; replace hD := hD.below hb; clear p0 p1 p2; have p0 := hD.r.c0; have p1 := hD.r.c1; have p2 := hD.r.c2)
    go_ret
    exact ⟨by rw [Hr.out]; rfl, hD.bel⟩
  have hz : ¬ (12 : Int) < (bs.length : Int) := by omega
  by_cases h3 : 4 < cs.length
  · have Hr : Hid (caseOk ⟨n, bs⟩ cs = false) := by unfold Hid; rw [Bool.eq_false_iff]; intro h; have := (caseOk_iff.1 h).2.2.1; omega
    have H1 := hide h1
    have hzz : (4 : Int) < (cs.length : Int) := by omega
    clear h1
    go_enter Try.func53, Try.ntmps53
    go_upto_region 1 with fail
    generalize w.alloc (.cells #[.int .i64 n, .slice A bs.length c, .slice A2 cs.length c2] 37) = W at hD ⊢
    have p0 := hD.r.c0
    have p1 := hD.r.c1
    have p2 := hD.r.c2
    go_wp2_with (go_at_call 105; go_fit (sPlanOk_c ⟨n, bs⟩ A b o c _ _ hn (Nat.le_refl _) hD.r.rd); rintro e w2 ⟨rfl, hb⟩; rw [H1.out]; replace hD := hD.below hb; clear p0 p1 p2; have p0 := hD.r.c0; have p1 := hD.r.c1; have p2 := hD.r.c2)
    go_ret
    exact ⟨by rw [Hr.out]; rfl, hD.bel⟩
  have hzz : ¬ (4 : Int) < (cs.length : Int) := by omega
  have HOk : Hid ((∀ j l, j < cs.length → cs[j]? = some l → listOk n l = true) → caseOk ⟨n, bs⟩ cs = true) := fun h => caseOk_iff.2 ⟨h1, by dsimp only; omega, by omega, fun l hl => by
    obtain ⟨j, hj, e⟩ := List.getElem_of_mem hl
    exact h j l hj (by rw [List.getElem?_eq_getElem hj, e])⟩
  have HL : Hid (∀ l, listOk n l = (inB l.length 1 3 && planOk ⟨n, l⟩)) := fun l => listOk_eqP h1 l
  have H1 := hide h1
  have H3 := hide hn3
  clear h1 hn3
  go_enter Try.func53, Try.ntmps53
  go_upto_region 1 with fail
  generalize w.alloc (.cells #[.int .i64 n, .slice A bs.length c, .slice A2 cs.length c2] 37) = W at hD ⊢
  have p0 := hD.r.c0
  have p1 := hD.r.c1
  have p2 := hD.r.c2
  go_upto_region 4 with (go_at_call 105; go_fit (sPlanOk_c ⟨n, bs⟩ A b o c _ _ hn (Nat.le_refl _) hD.r.rd); rintro e w2 ⟨rfl, hb⟩; rw [H1.out]; replace hD := hD.below hb; clear p0 p1 p2; have p0 := hD.r.c0; have p1 := hD.r.c1; have p2 := hD.r.c2)
  go_loopg [3] cs.length (fun gh i wr => ∃ k : Nat, k ≤ cs.length ∧ gh = cs.length - k ∧ i = .int .i64 k ∧ CC w wr w.heap.size b o n A c bs b2 o2 A2 c2 cs ∧ Hid (∀ j l, j < k → cs[j]? = some l → listOk n l = true))
  case atStart => exact ⟨0, Nat.zero_le _, rfl, rfl, hD, fun i x h => by omega⟩
  case round =>
    clear hD p0 p1 p2
    obtain ⟨k, hk, rfl, rfl, hD, hA⟩ := hrel
    have p0 := hD.r.c0
    have p1 := hD.r.c1
    have p2 := hD.r.c2
    by_cases hlt : k < cs.length
    · have hlt' : (k : Int) < (cs.length : Int) := by omega
      have hk0 : (0 : Int) ≤ (k : Int) := by omega
      obtain rfl := hD.r.rc.addr (by omega)
      have hx := List.getElem?_eq_getElem hlt
      obtain ⟨A', b', o', c', hcell, hrd⟩ := hD.r.rc.row k _ hx
      have hl2 : cs[k].length ≤ 2000000 := H3.out _ (List.getElem_mem hlt)
      generalize cs[k] = l at hx hcell hrd hl2
      have Hx := hide hx
      clear hx
      have hex := hD.r.ex
      have hbl := hD.r.rc.lt (by omega)
      have hd : ∀ m, Below wr.heap.size wr (wr.drewN m) := fun m => ⟨rfl, rfl, rfl, Nat.le_refl _, fun _ _ => rfl⟩
      have hD2 : ∀ m, CC w (wr.drewN m) w.heap.size b o n A c bs b2 o2 (some ⟨b2, o2, none⟩) c2 cs := fun m => hD.below (hd m)
      cases h4 : inB l.length 1 3
      · have Hr : Hid (caseOk ⟨n, bs⟩ cs = false) := caseOk_noS Hx.out (by rw [HL.out, h4]; rfl)
        have H4 := hide h4
        clear h4
        go_upto_region 6 with fail
        go_quiet ((go_at_call 66; exact Calls.quiet_of_same (l1In_s H4.out _)))
        go_wp2_with fail
        go_ret
        exact ⟨by rw [Hr.out]; rfl, (hD2 _).bel⟩
      cases h5 : planOk ⟨n, l⟩
      · have Hr : Hid (caseOk ⟨n, bs⟩ cs = false) := caseOk_noS Hx.out (by rw [HL.out, h4, h5]; rfl)
        have H4 := hide h4
        have H5 := hide h5
        clear h4 h5
        go_upto_region 6 with fail
        go_region_held3 (fun w' => w'.cell? ⟨w.heap.size, 0, none⟩ = some (.int .i64 n) ∧ w'.cell? ⟨w.heap.size, 2, none⟩ = some (.slice (some ⟨b2, o2, none⟩) cs.length c2) ∧ w'.cell? ⟨b2, o2 + k, none⟩ = some (.slice A' l.length c'))
          (first
            | (go_split_ands; (repeat' apply And.intro) <;> assumption)
            | (go_keep; done))
          (first
            | (go_at_call 66; go_fit (l1In_c (l.length : Int) 1 3 _); rintro e w5 ⟨rfl, rfl⟩; rw [H4.out])
            | (go_at_call 105; go_fit (sPlanOk_c ⟨n, l⟩ A' b' o' c' _ wr.drew hl2 (by simp) (hrd.below (by go_grown))); rintro e w6 ⟨rfl, hb6⟩; rw [H5.out]; have q0 := ((bcell hb6).1 w.heap.size 0 hex).trans p0; have q2 := ((bcell hb6).1 w.heap.size 2 hex).trans p2; have q3 := ((bcell hb6).1 b2 (o2 + k) hbl).trans hcell))
        go_wp2_with fail
        go_ret
        exact ⟨by rw [Hr.out]; rfl, (hD.drew.below hb6).bel⟩
      · have HN : Hid (∀ j l, j < k + 1 → cs[j]? = some l → listOk n l = true) := by
          intro j l2 hj hl
          by_cases e : j = k
          · subst e; rw [Hx.out] at hl; cases hl; rw [HL.out, h4, h5]; rfl
          · exact hA.out j l2 (by omega) hl
        have H4 := hide h4
        have H5 := hide h5
        clear h4 h5
        go_upto_region 6 with fail
        go_region_held3 (fun w' => w'.cell? ⟨w.heap.size, 0, none⟩ = some (.int .i64 n) ∧ w'.cell? ⟨w.heap.size, 2, none⟩ = some (.slice (some ⟨b2, o2, none⟩) cs.length c2) ∧ w'.cell? ⟨b2, o2 + k, none⟩ = some (.slice A' l.length c'))
          (first
            | (go_split_ands; (repeat' apply And.intro) <;> assumption)
            | (go_keep; done))
          (first
            | (go_at_call 66; go_fit (l1In_c (l.length : Int) 1 3 _); rintro e w5 ⟨rfl, rfl⟩; rw [H4.out])
            | (go_at_call 105; go_fit (sPlanOk_c ⟨n, l⟩ A' b' o' c' _ wr.drew hl2 (by simp) (hrd.below (by go_grown))); rintro e w6 ⟨rfl, hb6⟩; rw [H5.out]; have q0 := ((bcell hb6).1 w.heap.size 0 hex).trans p0; have q2 := ((bcell hb6).1 w.heap.size 2 hex).trans p2; have q3 := ((bcell hb6).1 b2 (o2 + k) hbl).trans hcell))
        go_wp2_with fail
        go_roundg (cs.length - (k + 1))
        case measure => go_light; omega
        case rel => go_light; exact ⟨k + 1, by omega, rfl, by go_num, hD.drew.below hb6, HN⟩
    · obtain rfl : k = cs.length := by omega
      have Hr : Hid (caseOk ⟨n, bs⟩ cs = true) := HOk.out hA.out
      go_wp2_with fail
      go_ret
      exact ⟨by rw [Hr.out]; rfl, hD.bel⟩
end Go.Proofs.Ytledgblepdjjlaa
