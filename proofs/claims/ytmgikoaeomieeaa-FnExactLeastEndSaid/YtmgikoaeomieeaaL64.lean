/-
  impl: begins of all tasks; their end.
-/
import Derived.Test.YtmgikoaeomieeaaL63
namespace Go.Proofs.Ytmgikoaeomieeaa
set_option linter.unusedVariables false
set_option linter.unusedSimpArgs false
open Go.RowKit Pp

def fitB (L F b : List Int) : Bool := projOk L F && decide (b.length = L.length) && b.all (fun v => inB v 0 2000)
theorem fitB_iff {L F b : List Int} : fitB L F b = true ↔ projOk L F = true ∧ b.length = L.length ∧ ∀ v ∈ b, 0 ≤ v ∧ v ≤ 2000 := by
  simp [fitB, inB_iff, and_assoc]
theorem fit_all {L F b : List Int} (h : fitB L F b = true) : ∀ i, i < L.length → (0 ≤ L.getD i 0 ∧ L.getD i 0 ≤ 100) ∧ (-1 ≤ b.getD i 0 ∧ b.getD i 0 ≤ 10000) := fun i hi => by
  obtain ⟨h1, h2, h3⟩ := fitB_iff.1 h
  have := long_at h1 hi
  have h4 : b.getD i 0 ∈ b := by rw [List.getD_eq_getElem?_getD, List.getElem?_eq_getElem (show i < b.length by omega)]; exact List.getElem_mem _
  have := h3 _ h4
  omega
set_option maxHeartbeats 2000000 in
set_option maxRecDepth 100000 in
theorem beginsFit_c (L F xs : List Int) (AL AF AX : Option Addr) (bl ol cl bf of' cf bx ox cx B : Nat) (w : World) (hll : L.length ≤ 2000000) (hlf : F.length ≤ 2000000) (hlx : xs.length ≤ 2000000) (hB : B ≤ w.heap.size) (hl : IntsR w B bl ol AL L) (hf : IntsR w B bf of' AF F) (hX : IntsR w B bx ox AX xs) :
    Calls Try.prog 71 #[.agg #[.slice AL L.length cl, .slice AF F.length cf], .slice AX xs.length cx] w fun e w' => e = .returned (.bool (fitB L F xs)) ∧ Below w.heap.size w w' := by
  have hD := pj_new (t := 25) (cl := cl) (cf := cf) hB hl hf
  have hI := (hX.below (hD.bel.mono hB)).more (Nat.le_trans hB hD.bel.size)
  obtain ⟨r, Hr⟩ : ∃ r, Hid (fitB L F xs = r) := ⟨_, rfl⟩
  rw [Hr.out]
  obtain ⟨ra, hra⟩ : ∃ ra, (xs.all fun v => inB v 0 2000) = ra := ⟨_, rfl⟩
  have Hra := hide hra
  clear hl hf hB hX hra
  cases hp : projOk L F
  · obtain rfl : r = false := by rw [← Hr.out]; unfold fitB; rw [hp]; rfl
    have Hp := hide hp
    clear hp
    go_enter Try.func71, Try.ntmps71
    go_upto_region 1 with fail
    generalize w.alloc (.cells #[.slice AL L.length cl, .slice AF F.length cf] 25) = W at hD hI ⊢
    have p0 := hD.c0
    have p1 := hD.c1
    go_wp2_with (go_at_call 45; go_fit (projectOk_c L F AL AF bl ol cl bf of' cf _ _ hll hlf (Nat.le_refl _) hD.rl hD.rf); rintro e w2 ⟨rfl, hb⟩; rw [Hp.out]; replace hD := hD.below hb; clear p0 p1; have p0 := hD.c0; have p1 := hD.c1)
    go_ret
    exact ⟨rfl, hD.bel⟩
  · by_cases hle : xs.length = L.length
    · have hrr : ra = r := by rw [← Hr.out]; unfold fitB; rw [hp, decide_eq_true hle, Hra.out]; rfl
      have hlez : ((xs.length : Int) == (L.length : Int)) = true := by simp [hle]
      have Hp := hide hp
      have Hrr := hide hrr
      clear hp hrr hle
      go_enter Try.func71, Try.ntmps71
      go_upto_region 1 with fail
      generalize w.alloc (.cells #[.slice AL L.length cl, .slice AF F.length cf] 25) = W at hD hI ⊢
      have p0 := hD.c0
      have p1 := hD.c1
      go_wp2_with (first
        | (go_at_call 45; go_fit (projectOk_c L F AL AF bl ol cl bf of' cf _ _ hll hlf (Nat.le_refl _) hD.rl hD.rf); rintro e w2 ⟨rfl, hb⟩; rw [Hp.out]; replace hI := (hI.below hb).more hb.size; replace hD := hD.below hb; clear p0 p1; have p0 := hD.c0; have p1 := hD.c1)
        | (go_at_call 79; go_fit (allIn_c xs 0 2000 AX bx ox cx _ _ hlx (Nat.le_refl _) hI); rintro e w3 ⟨rfl, hb⟩; rw [Hra.out]; replace hD := hD.below hb))
      go_ret
      exact ⟨by rw [← Hrr.out]; cases ra <;> rfl, hD.bel⟩
    · obtain rfl : r = false := by rw [← Hr.out]; unfold fitB; rw [decide_eq_false hle]; simp
      have hlez : ((xs.length : Int) == (L.length : Int)) = false := by simp; omega
      have Hp := hide hp
      clear hp
      go_enter Try.func71, Try.ntmps71
      go_upto_region 1 with fail
      generalize w.alloc (.cells #[.slice AL L.length cl, .slice AF F.length cf] 25) = W at hD hI ⊢
      have p0 := hD.c0
      have p1 := hD.c1
      go_wp2_with (go_at_call 45; go_fit (projectOk_c L F AL AF bl ol cl bf of' cf _ _ hll hlf (Nat.le_refl _) hD.rl hD.rf); rintro e w2 ⟨rfl, hb⟩; rw [Hp.out]; replace hD := hD.below hb; clear p0 p1; have p0 := hD.c0; have p1 := hD.c1)
      go_ret
      exact ⟨rfl, hD.bel⟩
end Go.Proofs.Ytmgikoaeomieeaa
