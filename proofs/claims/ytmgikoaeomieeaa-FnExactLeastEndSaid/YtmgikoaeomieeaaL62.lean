/-
  impl: EarlyOf, LengthOf.
-/
import Derived.Test.YtmgikoaeomieeaaL61
namespace Go.Proofs.Ytmgikoaeomieeaa
set_option linter.unusedVariables false
set_option linter.unusedSimpArgs false
open Go.RowKit Pp

theorem row_ints {w : World} {g n : Nat} {xs : List Int} (h : w.rowIs g 3 n (fun j => .int .i64 (xs.getD j 0))) (hn : xs.length = n) : IntsR w w.heap.size g 0 (some ⟨g, 0, none⟩) xs :=
  ⟨fun _ => rfl, fun _ => h.lt, fun j hj => by rw [Nat.zero_add]; exact h.cell (by omega)⟩
/-- What EarlyOf returns. -/
def earlyOf (L F : List Int) : List Int := if projOk L F then Pp.early L F else []
theorem early_length (L F : List Int) : (Pp.early L F).length = L.length := earlyTo_length L F _
set_option maxHeartbeats 1000000 in
set_option maxRecDepth 100000 in
theorem earlyOf_q (L F : List Int) (AL AF : Option Addr) (bl ol cl bf of' cf B : Nat) (w : World) (hll : L.length ≤ 2000000) (hlf : F.length ≤ 2000000) (hB : B ≤ w.heap.size) (hl : IntsR w B bl ol AL L) (hf : IntsR w B bf of' AF F) :
    Calls Try.prog 15 #[.agg #[.slice AL L.length cl, .slice AF F.length cf]] w fun e w' => ∃ A1 c1 g1, e = .returned (.slice A1 (earlyOf L F).length c1) ∧ IntsR w' w'.heap.size g1 0 A1 (earlyOf L F) ∧ Below w.heap.size w w' := by
  have hD := pj_new (t := 25) (cl := cl) (cf := cf) hB hl hf
  clear hl hf hB
  cases hp : projOk L F
  · have e : earlyOf L F = [] := by unfold earlyOf; rw [hp]; rfl
    rw [e]
    have Hp := hide hp
    clear hp e
    go_enter Try.func15, Try.ntmps15
    go_upto_region 1 with fail
    generalize w.alloc (.cells #[.slice AL L.length cl, .slice AF F.length cf] 25) = W at hD ⊢
    have p0 := hD.c0
    have p1 := hD.c1
    go_wp2_with (go_at_call 45; go_fit (projectOk_c L F AL AF bl ol cl bf of' cf _ _ hll hlf (Nat.le_refl _) hD.rl hD.rf); rintro e w2 ⟨rfl, hb⟩; rw [Hp.out]; replace hD := hD.below hb; clear p0 p1; have p0 := hD.c0; have p1 := hD.c1)
    go_ret
    exact ⟨none, 0, 0, rfl, IntsR.nil _ _ _, hD.bel⟩
  · have e : earlyOf L F = Pp.early L F := by unfold earlyOf; rw [hp]; rfl
    have hel := early_length L F
    rw [e]
    obtain ⟨ys, hys⟩ : ∃ ys, Pp.early L F = ys := ⟨_, rfl⟩
    rw [hys] at hel ⊢
    have Hys := hide hys
    have Hel := hide hel
    have Hp := hide hp
    clear hp e hys hel
    go_enter Try.func15, Try.ntmps15
    go_upto_region 1 with fail
    generalize w.alloc (.cells #[.slice AL L.length cl, .slice AF F.length cf] 25) = W at hD ⊢
    have p0 := hD.c0
    have p1 := hD.c1
    go_wp2_with (first
      | (go_at_call 45; go_fit (projectOk_c L F AL AF bl ol cl bf of' cf _ _ hll hlf (Nat.le_refl _) hD.rl hD.rf); rintro e w2 ⟨rfl, hb⟩; rw [Hp.out]; replace hD := hD.below hb; clear p0 p1; have p0 := hD.c0; have p1 := hD.c1)
      | (go_at_call 51; go_fit (early_q L F Hp.out AL AF bl ol cl bf of' cf _ _ (Nat.le_refl _) hD.rl hD.rf); rintro e w3 ⟨g, rfl, hg, hrow, hb⟩; rw [Hys.out] at hrow; have hbel := bthen hD.bel hb))
    go_ret
    rw [Hel.out]
    exact ⟨_, _, g, rfl, row_ints hrow Hel.out, hbel⟩
theorem early_all {L F : List Int} (hp : projOk L F = true) : ∀ i, i < L.length → (0 ≤ L.getD i 0 ∧ L.getD i 0 ≤ 100) ∧ (-1 ≤ (Pp.early L F).getD i 0 ∧ (Pp.early L F).getD i 0 ≤ 10000) := fun i hi => by
  have := early_bound hp i hi
  have := long_at hp hi
  have := (projOk_iff.1 hp).1
  omega
set_option maxHeartbeats 2000000 in
set_option maxRecDepth 100000 in
theorem lengthOf_c (L F : List Int) (AL AF : Option Addr) (bl ol cl bf of' cf B : Nat) (w : World) (hll : L.length ≤ 2000000) (hlf : F.length ≤ 2000000) (hB : B ≤ w.heap.size) (hl : IntsR w B bl ol AL L) (hf : IntsR w B bf of' AF F) :
    Calls Try.prog 17 #[.agg #[.slice AL L.length cl, .slice AF F.length cf]] w fun e w' => e = .returned (.int .i64 (if projOk L F then lenOf L F else -1)) ∧ Below w.heap.size w w' := by
  have hD := pj_new (t := 25) (cl := cl) (cf := cf) hB hl hf
  clear hl hf hB
  cases hp : projOk L F
  · have Hp := hide hp
    clear hp
    go_enter Try.func17, Try.ntmps17
    go_upto_region 1 with fail
    generalize w.alloc (.cells #[.slice AL L.length cl, .slice AF F.length cf] 25) = W at hD ⊢
    have p0 := hD.c0
    have p1 := hD.c1
    go_wp2_with (go_at_call 45; go_fit (projectOk_c L F AL AF bl ol cl bf of' cf _ _ hll hlf (Nat.le_refl _) hD.rl hD.rf); rintro e w2 ⟨rfl, hb⟩; rw [Hp.out]; replace hD := hD.below hb; clear p0 p1; have p0 := hD.c0; have p1 := hD.c1)
    go_ret
    exact ⟨rfl, hD.bel⟩
  · have hel := early_length L F
    have hal := early_all hp
    obtain ⟨R, hR⟩ : ∃ R, endOf L (Pp.early L F) = R := ⟨_, rfl⟩
    obtain ⟨ys, hys⟩ : ∃ ys, Pp.early L F = ys := ⟨_, rfl⟩
    have hlen : lenOf L F = R := hR
    rw [hys] at hel hal hR
    have Hys := hide hys
    have Hel := hide hel
    have Hal := hide hal
    have HR := hide hR
    have Hlen := hide hlen
    have Hp := hide hp
    clear hp hys hel hal hR hlen
    go_enter Try.func17, Try.ntmps17
    go_upto_region 1 with fail
    generalize w.alloc (.cells #[.slice AL L.length cl, .slice AF F.length cf] 25) = W at hD ⊢
    have p0 := hD.c0
    have p1 := hD.c1
    go_upto_region 3 with (go_at_call 45; go_fit (projectOk_c L F AL AF bl ol cl bf of' cf _ _ hll hlf (Nat.le_refl _) hD.rl hD.rf); rintro e w2 ⟨rfl, hb⟩; rw [Hp.out]; replace hD := hD.below hb; clear p0 p1; have p0 := hD.c0; have p1 := hD.c1)
    have hDd := hD.drew
    go_region_held3 (fun w' => w'.cell? ⟨w.heap.size, 0, none⟩ = some (.slice AL L.length cl) ∧ w'.cell? ⟨w.heap.size, 1, none⟩ = some (.slice AF F.length cf))
      (first
        | exact ⟨hD5.c0, hD5.c1⟩
        | exact ⟨hD4.c0, hD4.c1⟩
        | (go_split_ands; (repeat' apply And.intro) <;> assumption)
        | (go_keep; done))
      (first
        | (go_at_call 51; go_fit (early_q L F Hp.out AL AF bl ol cl bf of' cf _ _ (Nat.le_refl _) hDd.rl hDd.rf); rintro e w4 ⟨g, rfl, hg, hrow, hb4⟩; rw [Hys.out] at hrow; have hD4 := hDd.below hb4; have hI4 := row_ints hrow Hel.out)
        | (go_at_call 52; have hcall := end_c L F ys Hel.out Hal.out AL AF _ bl ol cl bf of' cf g 0 L.length _ w4 hll (Nat.le_refl _) hD4.rl hD4.rf hI4; rw [HR.out] at hcall; refine hcall.mono ?_; clear hcall; rintro e w5 ⟨rfl, hb5⟩; have hD5 := hD4.below hb5))
    all_goals
      go_wp2_with fail
      go_ret
      exact ⟨by rw [Hlen.out]; rfl, hD5.bel⟩
end Go.Proofs.Ytmgikoaeomieeaa
