/-
  spec: TimesOk, KeepsOk, KeepsCase.
-/
import Derived.Test.YtledgblepdjjlaaS50
import Derived.Test.YtledgblepdjjlaaP28
namespace Go.Proofs.Ytledgblepdjjlaa
set_option linter.unusedVariables false
set_option linter.unusedSimpArgs false
open Go.RowKit Pp

set_option maxHeartbeats 2000000 in
set_option maxRecDepth 100000 in
theorem sTimesOk_c (p : Pl) (xs : List Int) (A A' : Option Addr) (b o c b' o' c' B : Nat) (w : World) (hn : p.bs.length ≤ 2000000) (hn' : xs.length ≤ 2000000) (hB : B ≤ w.heap.size) (hR : BdsR w B b o A p.bs) (hR' : IntsR w B b' o' A' xs) :
    Calls Try.prog 129 #[.agg #[.int .i64 p.n, .slice A p.bs.length c], .slice A' xs.length c'] w fun e w' => e = .returned (.bool (timesOk p xs)) ∧ Below w.heap.size w w' := by
  obtain ⟨n, bs⟩ := p
  dsimp only at *
  obtain ⟨r, Hr⟩ : ∃ r, Hid (timesOk ⟨n, bs⟩ xs = r) := ⟨_, rfl⟩
  rw [Hr.out]
  have hP := po_new (t := 32) (n := n) (c := c) (Below.refl w.heap.size w) (hR.more hB)
  have hI := (hR'.below (hP.bel.mono hB)).more (Nat.le_trans hB hP.bel.size)
  clear hR hR' hB
  go_enter Try.func129, Try.ntmps129
  go_upto_region 1 with fail
  generalize w.alloc (.cells #[.int .i64 n, .slice A bs.length c] 32) = W at hP hI ⊢
  go_wp2_with fail
  go_loopg [5] xs.length (fun gh s wr => ∃ k : Nat, k ≤ xs.length ∧ gh = xs.length - k ∧ s = .int .i64 k ∧ PO w wr w.heap.size b o n A c bs ∧ IntsR wr wr.heap.size b' o' A' xs ∧ Hid ((xs.take k).all (fun x => inB x (-2000) 2000) = true))
  case atStart => exact ⟨0, Nat.zero_le _, rfl, rfl, hP, hI, rfl⟩
  case round =>
    clear hP hI
    obtain ⟨k, hk, rfl, rfl, hP, hI, HA⟩ := hrel
    have p0 := hP.c0
    have p1 := hP.c1
    by_cases hlt : k < xs.length
    · have hlt' : (k : Int) < (xs.length : Int) := by omega
      obtain rfl := hI.addr (by omega)
      have x0 := hI.cell k hlt
      have hx := List.getElem?_eq_getElem hlt
      have HT : Hid (xs.take (k + 1) = xs.take k ++ [xs.getD k 0]) := by unfold Hid; rw [List.take_add_one, List.getD_eq_getElem?_getD, hx]; rfl
      have hmem : xs.getD k 0 ∈ xs := by rw [List.getD_eq_getElem?_getD, hx]; exact List.getElem_mem _
      have Hmem := hide hmem
      generalize xs.getD k 0 = x at x0 HT Hmem
      clear hx hmem
      cases hb : inB x (-2000) 2000
      · obtain rfl : r = false := by
          rw [← Hr.out]
          unfold timesOk
          have : (xs.all fun x => inB x (-2000) 2000) = false := by
            rw [Bool.eq_false_iff]
            intro h
            have := List.all_eq_true.1 h x Hmem.out
            rw [hb] at this; cases this
          rw [this, Bool.and_false]
        have Hb := hide hb
        clear hb
        go_wp2_with (go_at_call 66; go_fit (l1In_c _ _ _ _); rintro e w2 ⟨rfl, rfl⟩; rw [Hb.out])
        go_ret
        exact ⟨rfl, hP.bel⟩
      · have HN : Hid ((xs.take (k + 1)).all (fun x => inB x (-2000) 2000) = true) := by
          unfold Hid
          rw [HT.out, List.all_append, HA.out]
          simp [hb]
        have Hb := hide hb
        clear hb
        go_wp2_with (go_at_call 66; go_fit (l1In_c _ _ _ _); rintro e w2 ⟨rfl, rfl⟩; rw [Hb.out])
        go_roundg (xs.length - (k + 1))
        case measure => go_light; omega
        case rel => go_light; exact ⟨k + 1, by omega, rfl, by go_num, hP, hI, HN⟩
    · obtain rfl : k = xs.length := by omega
      have hall := HA.out
      rw [List.take_length] at hall
      cases hp : planOk ⟨n, bs⟩
      · obtain rfl : r = false := by rw [← Hr.out]; unfold timesOk; rw [hp]; rfl
        have Hp := hide hp
        clear hp hall
        go_wp2_with (go_at_call 105; go_fit (sPlanOk_c ⟨n, bs⟩ A b o c _ _ hn (Nat.le_refl _) hP.rd); rintro e w2 ⟨rfl, hb2⟩; rw [Hp.out]; replace hP := hP.below hb2)
        go_ret
        exact ⟨rfl, hP.bel⟩
      · have hnn := nn_ok hp
        dsimp only at hnn
        have Hp := hide hp
        by_cases he : xs.length = nn ⟨n, bs⟩
        · obtain rfl : r = true := by rw [← Hr.out]; unfold timesOk; rw [hp, hall, decide_eq_true he]; rfl
          have hez : (xs.length : Int) = n := by omega
          have hez2 : ((xs.length : Int) == n) = true := by simp [hez]
          clear hp hall he hez hnn
          go_wp2_with (go_at_call 105; go_fit (sPlanOk_c ⟨n, bs⟩ A b o c _ _ hn (Nat.le_refl _) hP.rd); rintro e w2 ⟨rfl, hb2⟩; rw [Hp.out]; replace hP := hP.below hb2; have q0 := hP.c0)
          go_ret
          exact ⟨rfl, hP.bel⟩
        · obtain rfl : r = false := by rw [← Hr.out]; unfold timesOk; rw [hp, decide_eq_false he]; rfl
          have hez : ¬ (xs.length : Int) = n := by omega
          have hez2 : ((xs.length : Int) == n) = false := by simp [hez]
          clear hp hall he hnn
          go_wp2_with (go_at_call 105; go_fit (sPlanOk_c ⟨n, bs⟩ A b o c _ _ hn (Nat.le_refl _) hP.rd); rintro e w2 ⟨rfl, hb2⟩; rw [Hp.out]; replace hP := hP.below hb2; have q0 := hP.c0)
          go_ret
          exact ⟨rfl, hP.bel⟩

theorem times_facts {n : Int} {bs : List Bd} {xs : List Int} (h : timesOk ⟨n, bs⟩ xs = true) : (∀ x : Bd, bdOk n x = true → (0 ≤ x.f ∧ x.f < xs.length) ∧ (0 ≤ x.t ∧ x.t < xs.length)) ∧ ∀ v ∈ xs, -2000 ≤ v ∧ v ≤ 2000 := by
  unfold timesOk at h
  simp only [Bool.and_eq_true, decide_eq_true_eq, List.all_eq_true, inB_iff] at h
  obtain ⟨⟨hp, hln⟩, hvs⟩ := h
  have hnn := nn_ok hp
  dsimp only at hnn
  refine ⟨fun x hx => ?_, hvs⟩
  have h := bdOk_iff.1 hx
  have h1 := h.1
  have h2 := h.2.1
  omega
/-- One bound's test, as it lies in memory. -/
theorem kept_cells {xs : List Int} {A : Option Addr} {b o B : Nat} {w : World} {x : Bd} (hf : 0 ≤ x.f ∧ x.f < xs.length) (ht : 0 ≤ x.t ∧ x.t < xs.length) (hv : ∀ v ∈ xs, -2000 ≤ v ∧ v ≤ 2000) (hR : IntsR w B b o A xs) :
    ∃ (fn tn : Nat) (a e : Int), x.f = (fn : Int) ∧ x.t = (tn : Int) ∧ fn < xs.length ∧ tn < xs.length ∧ A = some ⟨b, o, none⟩ ∧ w.cell? ⟨b, o + fn, none⟩ = some (.int .i64 a) ∧ w.cell? ⟨b, o + tn, none⟩ = some (.int .i64 e) ∧ IntKind.i64.wrap (e - a) = e - a ∧ decide (e - a ≤ x.m) = keptB xs x := by
  obtain ⟨f, t, m⟩ := x
  dsimp only at *
  obtain ⟨fn, rfl⟩ := Int.eq_ofNat_of_zero_le hf.1
  obtain ⟨tn, rfl⟩ := Int.eq_ofNat_of_zero_le ht.1
  have v0 : -2000 ≤ xs.getD fn 0 ∧ xs.getD fn 0 ≤ 2000 := hv _ (by rw [List.getD_eq_getElem?_getD, List.getElem?_eq_getElem (show fn < xs.length by omega)]; exact List.getElem_mem _)
  have v1 : -2000 ≤ xs.getD tn 0 ∧ xs.getD tn 0 ≤ 2000 := hv _ (by rw [List.getD_eq_getElem?_getD, List.getElem?_eq_getElem (show tn < xs.length by omega)]; exact List.getElem_mem _)
  exact ⟨fn, tn, _, _, rfl, rfl, by omega, by omega, hR.addr (by omega), hR.cell fn (by omega), hR.cell tn (by omega), by rw [IntWalk.i64_left, IntWalk.wrap64_in _ (by omega)], rfl⟩

set_option maxHeartbeats 2000000 in
set_option maxRecDepth 100000 in
theorem l1Keeps_c (n : Int) (bs : List Bd) (xs : List Int) (hm : ∀ x ∈ bs, (0 ≤ x.f ∧ x.f < xs.length) ∧ (0 ≤ x.t ∧ x.t < xs.length)) (hv : ∀ v ∈ xs, -2000 ≤ v ∧ v ≤ 2000) (A A' : Option Addr) (b o c b' o' c' B : Nat) (w : World) (hn : bs.length ≤ 2000000) (hn' : xs.length ≤ 2000000) (hB : B ≤ w.heap.size) (hR : BdsR w B b o A bs) (hR' : IntsR w B b' o' A' xs) :
    Calls Try.prog 130 #[.agg #[.int .i64 n, .slice A bs.length c], .slice A' xs.length c'] w fun e w' => e = .returned (.bool (bs.all (keptB xs))) ∧ Below w.heap.size w w' := by
  obtain ⟨r, Hr⟩ : ∃ r, Hid (bs.all (keptB xs) = r) := ⟨_, rfl⟩
  rw [Hr.out]
  have hP := po_new (t := 32) (n := n) (c := c) (Below.refl w.heap.size w) (hR.more hB)
  have hI := (hR'.below (hP.bel.mono hB)).more (Nat.le_trans hB hP.bel.size)
  have Hm := hide hm
  have Hv := hide hv
  clear hR hR' hB hm hv
  go_enter Try.func130, Try.ntmps130
  go_upto_region 1 with fail
  generalize w.alloc (.cells #[.int .i64 n, .slice A bs.length c] 32) = W at hP hI ⊢
  go_wp2_with fail
  go_loopg [5] bs.length (fun gh s wr => ∃ k : Nat, k ≤ bs.length ∧ gh = bs.length - k ∧ s = .int .i64 k ∧ PO w wr w.heap.size b o n A c bs ∧ IntsR wr wr.heap.size b' o' A' xs ∧ Hid ((bs.take k).all (keptB xs) = true))
  case atStart => exact ⟨0, Nat.zero_le _, rfl, rfl, hP, hI, rfl⟩
  case round =>
    clear hP hI
    obtain ⟨k, hk, rfl, rfl, hP, hI, HA⟩ := hrel
    have p0 := hP.c0
    have p1 := hP.c1
    by_cases hlt : k < bs.length
    · have hlt' : (k : Int) < (bs.length : Int) := by omega
      have hx := List.getElem?_eq_getElem hlt
      obtain rfl := hP.rd.addr (by omega)
      have y0 := hP.rd.c0 k _ hx
      have y1 := hP.rd.c1 k _ hx
      have y2 := hP.rd.c2 k _ hx
      have HT : Hid (bs.take (k + 1) = bs.take k ++ [bs[k]]) := by unfold Hid; rw [List.take_succ_eq_append_getElem hlt]
      have Hmem : Hid (bs[k] ∈ bs) := List.getElem_mem hlt
      generalize bs[k] = x at hx y0 y1 y2 HT Hmem
      obtain ⟨q1, q2⟩ := Hm.out x Hmem.out
      obtain ⟨fn, tn, a, e, e1, e2, f1, f2, rfl, z0, z1, hw, hdec⟩ := kept_cells q1 q2 Hv.out hI
      rw [e1] at y0
      rw [e2] at y1
      have f1z : (fn : Int) < (xs.length : Int) := by omega
      have f2z : (tn : Int) < (xs.length : Int) := by omega
      clear hx q1 q2 e1 e2
      cases hkp : keptB xs x
      · obtain rfl : r = false := by
          rw [← Hr.out, Bool.eq_false_iff]
          intro h
          have := List.all_eq_true.1 h x Hmem.out
          rw [hkp] at this; cases this
        rw [hkp] at hdec
        have hgt : x.m < e - a := by simpa using hdec
        clear hkp hdec
        go_upto_region 4 with fail
        go_region
        go_wp2_with fail
        go_ret
        exact ⟨rfl, hP.drew.bel⟩
      · have HN : Hid ((bs.take (k + 1)).all (keptB xs) = true) := by
          unfold Hid
          rw [HT.out, List.all_append, HA.out]
          simp [hkp]
        rw [hkp] at hdec
        have hgt : ¬ x.m < e - a := by simpa using hdec
        clear hkp hdec
        go_upto_region 4 with fail
        go_region
        go_wp2_with fail
        go_roundg (bs.length - (k + 1))
        case measure => go_light; omega
        case rel => go_light; exact ⟨k + 1, by omega, rfl, by go_num, hP.drew, hI.below (by go_grown), HN⟩
    · obtain rfl : k = bs.length := by omega
      obtain rfl : r = true := by
        have h := HA.out
        rw [List.take_length] at h
        rw [← Hr.out, h]
      go_wp2_with fail
      go_ret
      exact ⟨rfl, hP.bel⟩

set_option maxHeartbeats 2000000 in
set_option maxRecDepth 100000 in
theorem sKeepsOk_c (p : Pl) (xs : List Int) (A A' : Option Addr) (b o c b' o' c' B : Nat) (w : World) (hn : p.bs.length ≤ 2000000) (hn' : xs.length ≤ 2000000) (hB : B ≤ w.heap.size) (hR : BdsR w B b o A p.bs) (hR' : IntsR w B b' o' A' xs) :
    Calls Try.prog 104 #[.agg #[.int .i64 p.n, .slice A p.bs.length c], .slice A' xs.length c'] w fun e w' => e = .returned (.bool (keepsOk p xs)) ∧ Below w.heap.size w w' := by
  obtain ⟨n, bs⟩ := p
  dsimp only at *
  obtain ⟨r, Hr⟩ : ∃ r, Hid (keepsOk ⟨n, bs⟩ xs = r) := ⟨_, rfl⟩
  rw [Hr.out]
  have hP := po_new (t := 32) (n := n) (c := c) (Below.refl w.heap.size w) (hR.more hB)
  have hI := (hR'.below (hP.bel.mono hB)).more (Nat.le_trans hB hP.bel.size)
  clear hR hR' hB
  cases ht : timesOk ⟨n, bs⟩ xs
  · obtain rfl : r = false := by rw [← Hr.out]; unfold keepsOk; rw [ht]; rfl
    have Ht := hide ht
    clear ht
    go_enter Try.func104, Try.ntmps104
    go_upto_region 1 with fail
    generalize w.alloc (.cells #[.int .i64 n, .slice A bs.length c] 32) = W at hP hI ⊢
    have p0 := hP.c0
    have p1 := hP.c1
    go_wp2_with (go_at_call 129; go_fit (sTimesOk_c ⟨n, bs⟩ xs A A' b o c b' o' c' _ _ hn hn' (Nat.le_refl _) hP.rd hI); rintro e w2 ⟨rfl, hb2⟩; rw [Ht.out]; replace hP := hP.below hb2)
    go_ret
    exact ⟨rfl, hP.bel⟩
  · obtain ⟨hm, hv⟩ := times_facts ht
    have hp : planOk ⟨n, bs⟩ = true := by unfold timesOk at ht; simp only [Bool.and_eq_true] at ht; exact ht.1.1
    have hm2 : ∀ x ∈ bs, (0 ≤ x.f ∧ x.f < xs.length) ∧ (0 ≤ x.t ∧ x.t < xs.length) := fun x hx => hm x ((planOk_iff.1 hp).2.2 x hx)
    have hr2 : bs.all (keptB xs) = r := by rw [← Hr.out]; unfold keepsOk; rw [ht]; rfl
    have Hr2 := hide hr2
    have Ht := hide ht
    have Hm := hide hm2
    have Hv := hide hv
    clear ht hm hv hp hm2 hr2
    go_enter Try.func104, Try.ntmps104
    go_upto_region 1 with fail
    generalize w.alloc (.cells #[.int .i64 n, .slice A bs.length c] 32) = W at hP hI ⊢
    have p0 := hP.c0
    have p1 := hP.c1
    go_wp2_with (first
      | (go_at_call 129; go_fit (sTimesOk_c ⟨n, bs⟩ xs A A' b o c b' o' c' _ _ hn hn' (Nat.le_refl _) hP.rd hI); rintro e w2 ⟨rfl, hb2⟩; rw [Ht.out]; have hP2 := hP.below hb2; have hI2 := (hI.below hb2).more hb2.size; have q0 := hP2.c0; have q1 := hP2.c1)
      | (go_at_call 130; go_fit (l1Keeps_c n bs xs Hm.out Hv.out A A' b o c b' o' c' _ _ hn hn' (Nat.le_refl _) hP2.rd hI2); rintro e w3 ⟨rfl, hb3⟩; rw [Hr2.out]; have hP3 := hP2.below hb3))
    go_ret
    exact ⟨by cases r <;> rfl, hP3.bel⟩
end Go.Proofs.Ytledgblepdjjlaa
