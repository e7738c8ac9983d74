/-
  spec: KeepsCase.
-/
import Derived.Test.YtledgblepdjjlaaS58
namespace Go.Proofs.Ytledgblepdjjlaa
set_option linter.unusedVariables false
set_option linter.unusedSimpArgs false
open Go.RowKit Pp

set_option maxHeartbeats 4000000 in
set_option maxRecDepth 100000 in
theorem sKeepsCase_c (n : Int) (bs : List Bd) (cs : List (List Bd)) (xs : List Int) (A A2 A' : Option Addr) (b o c b2 o2 c2 b' o' c' B : Nat) (w : World) (hn : bs.length ≤ 2000000) (hn2 : cs.length ≤ 2000000) (hn3 : ∀ l ∈ cs, l.length ≤ 2000000) (hn' : xs.length ≤ 2000000) (hB : B ≤ w.heap.size) (hR : BdsR w B b o A bs) (hC : ChR w B b2 o2 A2 cs) (hR' : IntsR w B b' o' A' xs) :
    Calls Try.prog 52 #[.agg #[.int .i64 n, .slice A bs.length c, .slice A2 cs.length c2], .slice A' xs.length c'] w fun e w' => e = .returned (.bool (keepsCase ⟨n, bs⟩ cs xs)) ∧ Below w.heap.size w w' := by
  have hD := cc_new (n := n) (c := c) (c2 := c2) (t := 37) hB hR hC
  have hI := (hR'.below (hD.bel.mono hB)).more (Nat.le_trans hB hD.bel.size)
  clear hR hC hB hR'
  have H3 := hide hn3
  cases h1 : caseOk ⟨n, bs⟩ cs
  · have Hr : Hid (keepsCase ⟨n, bs⟩ cs xs = false) := by unfold Hid keepsCase; rw [h1]; rfl
    have H1 := hide h1
    clear h1
    go_enter Try.func52, Try.ntmps52
    go_upto_region 1 with fail
    generalize w.alloc (.cells #[.int .i64 n, .slice A bs.length c, .slice A2 cs.length c2] 37) = W at hD hI ⊢
    have p0 := hD.r.c0
    have p1 := hD.r.c1
    have p2 := hD.r.c2
    go_wp2_with (go_at_call 53; go_fit (sCaseOk_c n bs cs A A2 b o c b2 o2 c2 _ _ hn hn2 H3.out (Nat.le_refl _) hD.r.rd hD.r.rc); rintro e w2 ⟨rfl, hb⟩; rw [H1.out]; replace hI := (hI.below hb).more hb.size; replace hD := hD.below hb; clear p0 p1 p2; have p0 := hD.r.c0; have p1 := hD.r.c1; have p2 := hD.r.c2)
    go_ret
    exact ⟨by rw [Hr.out]; rfl, hD.bel⟩
  cases h2 : keepsOk ⟨n, bs⟩ xs
  · have Hr : Hid (keepsCase ⟨n, bs⟩ cs xs = false) := by unfold Hid keepsCase; rw [h2, h1]; rfl
    have H1 := hide h1
    have H2 := hide h2
    clear h1 h2
    go_enter Try.func52, Try.ntmps52
    go_upto_region 1 with fail
    generalize w.alloc (.cells #[.int .i64 n, .slice A bs.length c, .slice A2 cs.length c2] 37) = W at hD hI ⊢
    have p0 := hD.r.c0
    have p1 := hD.r.c1
    have p2 := hD.r.c2
    go_wp2_with (first | (go_at_call 53; go_fit (sCaseOk_c n bs cs A A2 b o c b2 o2 c2 _ _ hn hn2 H3.out (Nat.le_refl _) hD.r.rd hD.r.rc); rintro e w2 ⟨rfl, hb⟩; rw [H1.out]; replace hI := (hI.below hb).more hb.size; replace hD := hD.below hb; clear p0 p1 p2; have p0 := hD.r.c0; have p1 := hD.r.c1; have p2 := hD.r.c2) | (go_at_call 104; go_fit (sKeepsOk_c ⟨n, bs⟩ xs A A' b o c b' o' c' _ _ hn hn' (Nat.le_refl _) hD.r.rd hI); rintro e w2 ⟨rfl, hb⟩; rw [H2.out]; replace hI := (hI.below hb).more hb.size; replace hD := hD.below hb; clear p0 p1 p2; have p0 := hD.r.c0; have p1 := hD.r.c1; have p2 := hD.r.c2))
    go_ret
    exact ⟨by rw [Hr.out]; rfl, hD.bel⟩
  have ht : timesOk ⟨n, bs⟩ xs = true := by unfold keepsOk at h2; simp only [Bool.and_eq_true] at h2; exact h2.1
  have Hr : Hid (keepsCase ⟨n, bs⟩ cs xs = cs.all fun l => l.any (keptB xs)) := by unfold Hid keepsCase; rw [h2, h1]; rfl
  obtain ⟨hm, hvs⟩ := times_facts ht
  have hmem : ∀ l ∈ cs, ∀ x ∈ l, (0 ≤ x.f ∧ x.f < xs.length) ∧ (0 ≤ x.t ∧ x.t < xs.length) := fun l hl x hx => hm x ((listOk_iff.1 ((caseOk_iff.1 h1).2.2.2 l hl)).2 x hx)
  have Hmem := hide hmem
  have Hvs := hide hvs
  have H1 := hide h1
  have H2 := hide h2
  clear h1 h2 hmem hvs hm hn3 ht
  go_enter Try.func52, Try.ntmps52
  go_upto_region 1 with fail
  generalize w.alloc (.cells #[.int .i64 n, .slice A bs.length c, .slice A2 cs.length c2] 37) = W at hD hI ⊢
  have p0 := hD.r.c0
  have p1 := hD.r.c1
  have p2 := hD.r.c2
  go_upto_region 3 with (first | (go_at_call 53; go_fit (sCaseOk_c n bs cs A A2 b o c b2 o2 c2 _ _ hn hn2 H3.out (Nat.le_refl _) hD.r.rd hD.r.rc); rintro e w2 ⟨rfl, hb⟩; rw [H1.out]; replace hI := (hI.below hb).more hb.size; replace hD := hD.below hb; clear p0 p1 p2; have p0 := hD.r.c0; have p1 := hD.r.c1; have p2 := hD.r.c2) | (go_at_call 104; go_fit (sKeepsOk_c ⟨n, bs⟩ xs A A' b o c b' o' c' _ _ hn hn' (Nat.le_refl _) hD.r.rd hI); rintro e w2 ⟨rfl, hb⟩; rw [H2.out]; replace hI := (hI.below hb).more hb.size; replace hD := hD.below hb; clear p0 p1 p2; have p0 := hD.r.c0; have p1 := hD.r.c1; have p2 := hD.r.c2))
  clear p0 p1 p2
  go_wp2_with fail
  go_loopg [5] cs.length (fun gh i wr => ∃ k : Nat, k ≤ cs.length ∧ gh = cs.length - k ∧ i = .int .i64 k ∧ CC w wr w.heap.size b o n A c bs b2 o2 A2 c2 cs ∧ IntsR wr wr.heap.size b' o' A' xs ∧ Hid ((cs.take k).all (fun l => l.any (keptB xs)) = true))
  case atStart => exact ⟨0, Nat.zero_le _, rfl, rfl, hD, hI, rfl⟩
  case round =>
    clear hD hI
    obtain ⟨k, hk, rfl, rfl, hD, hI, hA⟩ := hrel
    have p2 := hD.r.c2
    by_cases hlt : k < cs.length
    · have hlt' : (k : Int) < (cs.length : Int) := by omega
      have hk0 : (0 : Int) ≤ (k : Int) := by omega
      obtain rfl := hD.r.rc.addr (by omega)
      have hx := List.getElem?_eq_getElem hlt
      have hl2 : cs[k].length ≤ 2000000 := H3.out _ (List.getElem_mem hlt)
      have hm := Hmem.out _ (List.getElem_mem hlt)
      have hT : Hid (cs.take (k + 1) = cs.take k ++ [cs[k]]) := by rw [List.take_succ_eq_append_getElem hlt]; rfl
      generalize cs[k] = l at hx hl2 hm hT
      have Hm := hide hm
      have Hx := hide hx
      clear hx hm
      obtain ⟨A3, b3, o3, c3, hcell, hrd⟩ := hD.r.rc.row k _ Hx.out
      go_upto_region 7 with fail
      generalize wr = wo at hD hI p2 hcell hrd ⊢
      go_wp2_with fail
      go_loopg [6, 7] l.length (fun gh s6 s7 wi => ∃ j : Nat, j ≤ l.length ∧ gh = l.length - j ∧ s7 = .int .i64 j ∧ s6 = .bool ((l.take j).any (keptB xs)) ∧ Below wo.heap.size wo wi)
      case atStart => exact ⟨0, Nat.zero_le _, rfl, rfl, rfl, Below.refl _ _⟩
      case round =>
        obtain ⟨j, hj, rfl, rfl, rfl, hW⟩ := hrel
        have hDi := hD.below hW
        have hIi := (hI.below hW).more hW.size
        have q2 := hDi.r.c2
        have hb2x := hD.r.rc.lt (by omega)
        have hcell2 := (hW.cell (p := ⟨b2, o2 + k, none⟩) hb2x).trans hcell
        have hrd2 := (hrd.below hW).more hW.size
        clear p2
        by_cases hltj : j < l.length
        · have hltj' : (j : Int) < (l.length : Int) := by omega
          obtain rfl := hrd2.addr (by omega)
          have hxj := List.getElem?_eq_getElem hltj
          have y0 := hrd2.c0 j _ hxj
          have y1 := hrd2.c1 j _ hxj
          have y2 := hrd2.c2 j _ hxj
          have HT : Hid (l.take (j + 1) = l.take j ++ [l[j]]) := by unfold Hid; rw [List.take_succ_eq_append_getElem hltj]
          have Hmx : Hid (l[j] ∈ l) := List.getElem_mem hltj
          generalize l[j] = x at hxj y0 y1 y2 HT Hmx
          clear hxj
          obtain ⟨r1, r2⟩ := Hm.out x Hmx.out
          obtain ⟨fn, tn, a, e, e1, e2, f1, f2, hA', z0, z1, hw, hdec⟩ := kept_cells r1 r2 Hvs.out hIi
          have E1 := hide e1
          have E2 := hide e2
          clear e1 e2
          obtain ⟨bx, hbx⟩ : ∃ bx, (l.take j).any (keptB xs) = bx := ⟨_, rfl⟩
          obtain ⟨by_, hby⟩ : ∃ by_, keptB xs x = by_ := ⟨_, rfl⟩
          have HN : Hid ((l.take (j + 1)).any (keptB xs) = (bx || by_)) := by
            unfold Hid
            rw [HT.out, List.any_append, hbx]
            simp [hby]
          rw [hby] at hdec
          have Hdec := hide hdec
          rw [hbx]
          go_upto_region 11 with fail
          have hW2 : Below wo.heap.size wo (wr.alloc (.cells #[.int .i64 x.f, .int .i64 x.t, .int .i64 x.m] 66)) := bthen hW (by go_grown)
          have u0 : (wr.alloc (.cells #[.int .i64 x.f, .int .i64 x.t, .int .i64 x.m] 66)).cell? ⟨wr.heap.size, 0, none⟩ = some (.int .i64 x.f) := by simp [go_sem]
          have u1 : (wr.alloc (.cells #[.int .i64 x.f, .int .i64 x.t, .int .i64 x.m] 66)).cell? ⟨wr.heap.size, 1, none⟩ = some (.int .i64 x.t) := by simp [go_sem]
          have u2 : (wr.alloc (.cells #[.int .i64 x.f, .int .i64 x.t, .int .i64 x.m] 66)).cell? ⟨wr.heap.size, 2, none⟩ = some (.int .i64 x.m) := by simp [go_sem]
          have hcc := (bcell (show Below wr.heap.size wr (wr.alloc (.cells #[.int .i64 x.f, .int .i64 x.t, .int .i64 x.m] 66)) by go_grown)).1
          have hbl := hIi.lt (by omega)
          have z0' := (hcc _ _ hbl).trans z0
          have z1' := (hcc _ _ hbl).trans z1
          clear hcc z0 z1 y0 y1 y2 hrd2 hcell2 q2 hDi hIi
          generalize wr.alloc (.cells #[.int .i64 x.f, .int .i64 x.t, .int .i64 x.m] 66) = Wb at hW2 u0 u1 u2 z0' z1' ⊢
          generalize wr.heap.size = X at u0 u1 u2 ⊢
          rw [E1.out] at u0
          rw [E2.out] at u1
          subst hA'
          have f1z : (fn : Int) < (xs.length : Int) := by omega
          have f2z : (tn : Int) < (xs.length : Int) := by omega
          clear hdec hbx hby r1 r2
          cases bx
          · have hle : (decide (e - a ≤ x.m)) = by_ := Hdec.out
            go_region
            go_wp2_with fail
            go_roundg (l.length - (j + 1))
            case measure => go_light; omega
            case rel => go_light; exact ⟨j + 1, by omega, rfl, by go_num, by rw [HN.out]; rfl, hW2.drew⟩
          · go_region
            go_wp2_with fail
            go_roundg (l.length - (j + 1))
            case measure => go_light; omega
            case rel => go_light; exact ⟨j + 1, by omega, rfl, by go_num, by rw [HN.out]; rfl, hW2.drew⟩
        · obtain rfl : j = l.length := by omega
          rw [List.take_length]

          cases h5 : l.any (keptB xs)
          · have Hr2 : Hid (keepsCase ⟨n, bs⟩ cs xs = false) := by
              unfold Hid
              rw [Hr.out, Bool.eq_false_iff]
              intro h
              have := List.all_eq_true.1 h l (List.mem_of_getElem? Hx.out)
              rw [h5] at this; cases this
            clear h5
            go_wp2_with fail
            go_ret
            exact ⟨by rw [Hr2.out]; rfl, hDi.bel⟩
          · have HN : Hid ((cs.take (k + 1)).all (fun l => l.any (keptB xs)) = true) := by
              unfold Hid
              rw [hT.out, List.all_append, hA.out]
              simp [h5]
            clear h5
            go_wp2_with fail
            go_roundg (cs.length - (k + 1))
            case measure => go_light; omega
            case rel => go_light; exact ⟨k + 1, by omega, rfl, by go_num, hDi, hIi, HN⟩
    · obtain rfl : k = cs.length := by omega
      have Hr2 : Hid (keepsCase ⟨n, bs⟩ cs xs = true) := by
        have h := hA.out
        rw [List.take_length] at h
        unfold Hid; rw [Hr.out, h]
      go_wp2_with fail
      go_ret
      exact ⟨by rw [Hr2.out]; rfl, hD.bel⟩
end Go.Proofs.Ytledgblepdjjlaa
