/-
  impl.KeepsOk.
-/
import Derived.Test.YtledgblepdjjlaaL5
namespace Go.Proofs.Ytledgblepdjjlaa
set_option linter.unusedVariables false
set_option linter.unusedSimpArgs false
open Go.RowKit Pp

set_option maxHeartbeats 1000000 in
set_option maxRecDepth 100000 in
theorem keptBy_c (x : Bd) (xs : List Int) (A : Option Addr) (b o c B : Nat) (w : World) (hf : 0 ≤ x.f ∧ x.f < xs.length) (ht : 0 ≤ x.t ∧ x.t < xs.length) (hv : ∀ v ∈ xs, -2000 ≤ v ∧ v ≤ 2000) (hl : xs.length ≤ 2000000) (hB : B ≤ w.heap.size) (hR : IntsR w B b o A xs) :
    Calls Try.prog 96 #[.agg #[.int .i64 x.f, .int .i64 x.t, .int .i64 x.m], .slice A xs.length c] w fun e w' => e = .returned (.bool (keptB xs x)) ∧ Below w.heap.size w w' := by
  obtain ⟨f, t, m⟩ := x
  dsimp only at *
  obtain ⟨r, hr⟩ : ∃ r, keptB xs ⟨f, t, m⟩ = r := ⟨_, rfl⟩
  rw [hr]
  obtain ⟨hf0, hf1⟩ := hf
  obtain ⟨ht0, ht1⟩ := ht
  obtain ⟨fn, rfl⟩ := Int.eq_ofNat_of_zero_le hf0
  obtain ⟨tn, rfl⟩ := Int.eq_ofNat_of_zero_le ht0
  have hA := hR.addr (by omega)
  subst hA
  have hW : Below w.heap.size w (w.alloc (.cells #[.int .i64 (fn : Int), .int .i64 (tn : Int), .int .i64 m] 66)) := by go_grown
  have hR2 := hR.below (hW.mono hB)
  have d0 := hR2.cell fn (by omega)
  have d1 := hR2.cell tn (by omega)
  have v0 : -2000 ≤ xs.getD fn 0 ∧ xs.getD fn 0 ≤ 2000 := hv _ (by rw [List.getD_eq_getElem?_getD, List.getElem?_eq_getElem (show fn < xs.length by omega)]; exact List.getElem_mem _)
  have v1 : -2000 ≤ xs.getD tn 0 ∧ xs.getD tn 0 ≤ 2000 := hv _ (by rw [List.getD_eq_getElem?_getD, List.getElem?_eq_getElem (show tn < xs.length by omega)]; exact List.getElem_mem _)
  have hr2 : decide (xs.getD tn 0 - xs.getD fn 0 ≤ m) = r := by rw [← hr]; rfl
  clear hr
  obtain ⟨a, ha⟩ : ∃ a, xs.getD fn 0 = a := ⟨_, rfl⟩
  obtain ⟨e, he⟩ : ∃ e, xs.getD tn 0 = e := ⟨_, rfl⟩
  have hr3 : decide (e - a ≤ m) = r := by rw [← hr2]; exact decide_eq_decide.2 (by rw [ha, he])
  rw [ha] at d0 v0
  rw [he] at d1 v1
  have Hr3 := hide hr3
  clear hr2 hr3 ha he
  obtain ⟨v00, v01⟩ := v0
  obtain ⟨v10, v11⟩ := v1
  have hsub : IntKind.i64.wrap (e - a) = e - a := by rw [IntWalk.i64_left, IntWalk.wrap64_in _ (by omega)]
  have b0 : (w.alloc (.cells #[.int .i64 (fn : Int), .int .i64 (tn : Int), .int .i64 m] 66)).cell? ⟨w.heap.size, 0, none⟩ = some (.int .i64 (fn : Int)) := by simp [go_sem]
  have b1 : (w.alloc (.cells #[.int .i64 (fn : Int), .int .i64 (tn : Int), .int .i64 m] 66)).cell? ⟨w.heap.size, 1, none⟩ = some (.int .i64 (tn : Int)) := by simp [go_sem]
  have b2 : (w.alloc (.cells #[.int .i64 (fn : Int), .int .i64 (tn : Int), .int .i64 m] 66)).cell? ⟨w.heap.size, 2, none⟩ = some (.int .i64 m) := by simp [go_sem]
  go_enter Try.func96, Try.ntmps96
  go_upto_region 1 with fail
  generalize w.alloc (.cells #[.int .i64 (fn : Int), .int .i64 (tn : Int), .int .i64 m] 66) = W at hW d0 d1 b0 b1 b2 ⊢
  clear hR2 hR
  go_region
  go_wp2_with fail
  go_ret
  exact ⟨by rw [← Hr3.out]; rfl, hW.drew⟩

set_option maxHeartbeats 1000000 in
set_option maxRecDepth 100000 in
theorem keeps1_c (X : Nat) (x : Bd) (xs : List Int) (A : Option Addr) (b o c B : Nat) (w : World) (hf : 0 ≤ x.f ∧ x.f < xs.length) (ht : 0 ≤ x.t ∧ x.t < xs.length) (hv : ∀ v ∈ xs, -2000 ≤ v ∧ v ≤ 2000) (hl : xs.length ≤ 2000000) (hB : B ≤ w.heap.size) (hR : IntsR w B b o A xs) (x0 : w.cell? ⟨X, 0, none⟩ = some (.slice A xs.length c)) (hX : X < w.heap.size) :
    Calls Try.prog 107 #[.agg #[.int .i64 x.f, .int .i64 x.t, .int .i64 x.m], .pointer (some ⟨X, 0, none⟩)] w fun e w' => e = .returned (.bool (!keptB xs x)) ∧ Below w.heap.size w w' := by
  obtain ⟨r, hr⟩ : ∃ r, keptB xs x = r := ⟨_, rfl⟩
  rw [hr]
  have Hr := hide hr
  clear hr
  have hW : Below w.heap.size w (w.alloc (.cells #[.int .i64 x.f, .int .i64 x.t, .int .i64 x.m] 66)) := by go_grown
  have hf' := hide hf
  have ht' := hide ht
  have hv' := hide hv
  clear hf ht hv
  go_enter Try.func107, Try.ntmps107
  go_wp2_with (go_at_call 96; go_fit (keptBy_c x xs A b o c B _ hf'.out ht'.out hv'.out hl (Nat.le_trans hB hW.size) (hR.below (hW.mono hB))); rintro e w2 ⟨rfl, hb2⟩; rw [Hr.out])
  go_ret
  exact ⟨rfl, bthen hW hb2⟩

/-- slices.IndexFunc and slices.ContainsFunc over bounds, with the test 'impl.KeepsOk$1'. -/
theorem keeps1_idx (a : Addr) (A : Option Addr) (b o c B : Nat) (bs : List Bd) (f : Bd → Bool) (w : World) (hn : bs.length ≤ 2000000) (hB : B ≤ w.heap.size) (hR : BdsR w B b o A bs)
    (H : ∀ (x : Bd) (w1 : World), x ∈ bs → Below w.heap.size w w1 → Calls Try.prog 107 (#[.agg #[.int .i64 x.f, .int .i64 x.t, .int .i64 x.m]] ++ #[.pointer (some a)]) w1 fun e w' => e = .returned (.bool (f x)) ∧ Below w1.heap.size w1 w') :
    Calls Try.prog 122 #[.slice A bs.length c, .func (.func 107) #[] #[.pointer (some a)]] w fun e w' => ∃ k : Int, e = .returned (.int .i64 k) ∧ (0 ≤ k ↔ bs.any f = true) ∧ Below w.heap.size w w' := by
  have HH := hide H
  clear H
  go_enter Try.func122, Try.ntmps122
  go_wp2
  go_loopg [8] bs.length (fun g i wr => ∃ k : Nat, k ≤ bs.length ∧ g = bs.length - k ∧ i = .int .i64 k ∧ Below w.heap.size w wr ∧ Hid ((bs.take k).any f = false))
  case atStart => exact ⟨0, Nat.zero_le _, rfl, rfl, Below.refl _ _, by simp [Hid]⟩
  case round =>
    obtain ⟨k, hk, rfl, rfl, hW0, hA⟩ := hrel
    by_cases hlt : k < bs.length
    · obtain rfl := hR.addr (by omega)
      have hx := List.getElem?_eq_getElem hlt
      have hR' := hR.below (hW0.mono hB)
      have d0 := hR'.c0 k _ hx
      have d1 := hR'.c1 k _ hx
      have d2 := hR'.c2 k _ hx
      have hz : (k : Int) < (bs.length : Int) := by omega
      have hT : Hid (bs.take (k + 1) = bs.take k ++ [bs[k]]) := by rw [List.take_succ_eq_append_getElem hlt]; rfl
      generalize bs[k] = x at *
      clear hR' 
      have Hx := hide hx
      clear hx
      cases hfx : f x
      · have Hf := hide hfx
        clear hfx
        go_wp2_with (go_at_call 107; refine (HH.out x wr (List.mem_of_getElem? Hx.out) hW0).mono ?_; rintro e w' ⟨rfl, hb⟩; rw [Hf.out]; have hW : Below w.heap.size w w' := bthen hW0 hb; clear hb)
        go_roundg (bs.length - (k + 1))
        case measure => go_light; omega
        case rel => go_light; exact ⟨k + 1, by omega, rfl, by go_num, hW, by unfold Hid; rw [hT.out, List.any_append, hA.out]; simp [Hf.out]⟩
      · have Hf := hide hfx
        clear hfx
        go_wp2_with (go_at_call 107; refine (HH.out x wr (List.mem_of_getElem? Hx.out) hW0).mono ?_; rintro e w' ⟨rfl, hb⟩; rw [Hf.out]; have hW : Below w.heap.size w w' := bthen hW0 hb; clear hb)
        go_ret
        exact ⟨k, rfl, ⟨fun _ => List.any_eq_true.2 ⟨x, List.mem_of_getElem? Hx.out, Hf.out⟩, fun _ => by omega⟩, hW⟩
    · go_wp2
      go_ret
      refine ⟨-1, rfl, ⟨fun h => by omega, fun h => ?_⟩, hW0⟩
      have := hA.out
      rw [List.take_of_length_le (by omega), h] at this
      cases this
theorem keeps1_has (a : Addr) (A : Option Addr) (b o c B : Nat) (bs : List Bd) (f : Bd → Bool) (w : World) (hn : bs.length ≤ 2000000) (hB : B ≤ w.heap.size) (hR : BdsR w B b o A bs)
    (H : ∀ (x : Bd) (w1 : World), x ∈ bs → Below w.heap.size w w1 → Calls Try.prog 107 (#[.agg #[.int .i64 x.f, .int .i64 x.t, .int .i64 x.m]] ++ #[.pointer (some a)]) w1 fun e w' => e = .returned (.bool (f x)) ∧ Below w1.heap.size w1 w') :
    Calls Try.prog 91 #[.slice A bs.length c, .func (.func 107) #[] #[.pointer (some a)]] w fun e w' => e = .returned (.bool (bs.any f)) ∧ Below w.heap.size w w' := by
  have HH := hide H
  clear H
  cases hf : bs.any f
  · have Hf := hide hf
    clear hf
    go_enter Try.func91, Try.ntmps91
    go_wp2_with (go_at_call 122; refine (keeps1_idx _ A b o c B bs f w hn hB hR HH.out).mono ?_; rintro e w' ⟨k, rfl, hk, hW⟩; rw [Hf.out] at hk; have hk' : decide (0 ≤ k) = false := (by simp at hk ⊢; omega); clear hk)
    go_ret
    exact ⟨rfl, hW⟩
  · have Hf := hide hf
    clear hf
    go_enter Try.func91, Try.ntmps91
    go_wp2_with (go_at_call 122; refine (keeps1_idx _ A b o c B bs f w hn hB hR HH.out).mono ?_; rintro e w' ⟨k, rfl, hk, hW⟩; rw [Hf.out] at hk; have hk' : decide (0 ≤ k) = true := (by simp at hk ⊢; omega); clear hk)
    go_ret
    exact ⟨rfl, hW⟩

set_option maxHeartbeats 2000000 in
set_option maxRecDepth 100000 in
theorem keepsOk_c (p : Pl) (xs : List Int) (A A' : Option Addr) (b o c b' o' c' B : Nat) (w : World) (hn : p.bs.length ≤ 2000000) (hn' : xs.length ≤ 2000000) (hB : B ≤ w.heap.size) (hR : BdsR w B b o A p.bs) (hR' : IntsR w B b' o' A' xs) :
    Calls Try.prog 54 #[.agg #[.int .i64 p.n, .slice A p.bs.length c], .slice A' xs.length c'] w fun e w' => e = .returned (.bool (keepsOk p xs)) ∧ Below w.heap.size w w' := by
  obtain ⟨n, bs⟩ := p
  dsimp only at *
  obtain ⟨r, Hr⟩ : ∃ r, Hid (keepsOk ⟨n, bs⟩ xs = r) := ⟨_, rfl⟩
  rw [Hr.out]
  have hP := (po_new (t := 32) (n := n) (c := c) (Below.refl w.heap.size w) (hR.more hB)).alloc (.cells #[.slice A' xs.length c'] 28)
  have y0 : ((w.alloc (.cells #[.int .i64 n, .slice A bs.length c] 32)).alloc (.cells #[.slice A' xs.length c'] 28)).cell? ⟨w.heap.size + 1, 0, none⟩ = some (.slice A' xs.length c') := by simp [go_sem]
  have hY : w.heap.size + 1 < ((w.alloc (.cells #[.int .i64 n, .slice A bs.length c] 32)).alloc (.cells #[.slice A' xs.length c'] 28)).heap.size := by simp
  cases ht : timesOk ⟨n, bs⟩ xs
  · obtain rfl : r = false := by rw [← Hr.out]; unfold keepsOk; rw [ht]; rfl
    have Ht := hide ht
    clear ht
    go_enter Try.func54, Try.ntmps54
    go_wp2_with (go_at_call 106; go_fit (timesOk_c ⟨n, bs⟩ xs A A' b o c b' o' c' B _ hn hn' (Nat.le_trans hB hP.bel.size) (hR.below (hP.bel.mono hB)) (hR'.below (hP.bel.mono hB))); rintro e w2 ⟨rfl, hb2⟩; rw [Ht.out]; have hP2 := hP.below hb2)
    go_ret
    exact ⟨rfl, hP2.bel⟩
  · have hr2 : (!(bs.any fun x => !keptB xs x)) = r := by rw [← Hr.out]; unfold keepsOk; rw [ht, ← all_any]; rfl
    obtain ⟨ra, hra⟩ : ∃ ra, (bs.any fun x => !keptB xs x) = ra := ⟨_, rfl⟩
    rw [hra] at hr2
    have ht2 := ht
    unfold timesOk at ht2
    simp only [Bool.and_eq_true, decide_eq_true_eq, List.all_eq_true, inB_iff] at ht2
    obtain ⟨⟨hp, hln⟩, hvs⟩ := ht2
    have hnn := nn_ok hp
    dsimp only at hnn
    have hwi := within_of_ok hp
    have hmem : ∀ x ∈ bs, (0 ≤ x.f ∧ x.f < xs.length) ∧ (0 ≤ x.t ∧ x.t < xs.length) := fun x hx => by
      obtain ⟨h1, h2, _⟩ := hwi x hx
      omega
    have Hmem := hide hmem
    have Hvs := hide hvs
    have Ht := hide ht
    have Hra := hide hra
    clear ht hra hmem hvs hwi hp hnn hln
    go_enter Try.func54, Try.ntmps54
    go_upto_region 1 with fail
    generalize (w.alloc (.cells #[.int .i64 n, .slice A bs.length c] 32)).alloc (.cells #[.slice A' xs.length c'] 28) = W at hP y0 hY ⊢
    have p0 := hP.c0
    have p1 := hP.c1
    go_wp2_with (first
      | (go_at_call 106; go_fit (timesOk_c ⟨n, bs⟩ xs A A' b o c b' o' c' B _ hn hn' (Nat.le_trans hB hP.bel.size) (hR.below (hP.bel.mono hB)) (hR'.below (hP.bel.mono hB))); rintro e w2 ⟨rfl, hb2⟩; rw [Ht.out]; have hP2 := hP.below hb2; have q1 := hP2.c1; have q0 := hP2.c0; have y2 := ((bcell hb2).1 _ _ hY).trans y0; have hY2 := Nat.lt_of_lt_of_le hY hb2.size; have hRi := hR'.below (hP2.bel.mono hB))
      | (go_at_call 91; go_fit (keeps1_has ⟨w.heap.size + 1, 0, none⟩ A b o c _ bs (fun x => !keptB xs x) _ hn (Nat.le_refl _) hP2.rd (fun x w1 hx hb1 => keeps1_c (w.heap.size + 1) x xs A' b' o' c' B w1 (Hmem.out x hx).1 (Hmem.out x hx).2 Hvs.out hn' (Nat.le_trans (Nat.le_trans hB hP2.bel.size) hb1.size) (hRi.below (hb1.mono (Nat.le_trans hB hP2.bel.size))) (((bcell hb1).1 _ _ hY2).trans y2) (Nat.lt_of_lt_of_le hY2 hb1.size))); rintro e w3 ⟨rfl, hb3⟩; rw [Hra.out]; have hP3 := hP2.below hb3))
    go_ret
    exact ⟨by rw [← hr2]; cases ra <;> rfl, hP3.bel⟩
end Go.Proofs.Ytledgblepdjjlaa
