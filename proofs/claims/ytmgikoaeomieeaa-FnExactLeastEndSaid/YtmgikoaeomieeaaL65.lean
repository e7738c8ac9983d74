/-
  impl: the end of begins.
-/
import Derived.Test.YtmgikoaeomieeaaL64
namespace Go.Proofs.Ytmgikoaeomieeaa
set_option linter.unusedVariables false
set_option linter.unusedSimpArgs false
open Go.RowKit Pp

set_option maxHeartbeats 2000000 in
set_option maxRecDepth 100000 in
theorem endOf_c (L F xs : List Int) (AL AF AX : Option Addr) (bl ol cl bf of' cf bx ox cx B : Nat) (w : World) (hll : L.length ≤ 2000000) (hlf : F.length ≤ 2000000) (hlx : xs.length ≤ 2000000) (hB : B ≤ w.heap.size) (hl : IntsR w B bl ol AL L) (hf : IntsR w B bf of' AF F) (hX : IntsR w B bx ox AX xs) :
    Calls Try.prog 32 #[.agg #[.slice AL L.length cl, .slice AF F.length cf], .slice AX xs.length cx] w fun e w' => e = .returned (.int .i64 (if fitB L F xs then endOf L xs else -1)) ∧ Below w.heap.size w w' := by
  have hD := pj_new (t := 25) (cl := cl) (cf := cf) hB hl hf
  have hI := (hX.below (hD.bel.mono hB)).more (Nat.le_trans hB hD.bel.size)
  clear hl hf hB hX
  cases hp : fitB L F xs
  · have Hp := hide hp
    clear hp
    go_enter Try.func32, Try.ntmps32
    go_upto_region 1 with fail
    generalize w.alloc (.cells #[.slice AL L.length cl, .slice AF F.length cf] 25) = W at hD hI ⊢
    have p0 := hD.c0
    have p1 := hD.c1
    go_wp2_with (go_at_call 71; go_fit (beginsFit_c L F xs AL AF AX bl ol cl bf of' cf bx ox cx _ _ hll hlf hlx (Nat.le_refl _) hD.rl hD.rf hI); rintro e w2 ⟨rfl, hb⟩; rw [Hp.out]; replace hD := hD.below hb; clear p0 p1; have p0 := hD.c0; have p1 := hD.c1)
    go_ret
    exact ⟨rfl, hD.bel⟩
  · have Hal := hide (fit_all hp)
    have Hxl := hide (fitB_iff.1 hp).2.1
    have Hp := hide hp
    obtain ⟨R, hR⟩ : ∃ R, endOf L xs = R := ⟨_, rfl⟩
    have HR := hide hR
    clear hp hR
    go_enter Try.func32, Try.ntmps32
    go_upto_region 1 with fail
    generalize w.alloc (.cells #[.slice AL L.length cl, .slice AF F.length cf] 25) = W at hD hI ⊢
    have p0 := hD.c0
    have p1 := hD.c1
    go_wp2_with (first
      | (go_at_call 71; go_fit (beginsFit_c L F xs AL AF AX bl ol cl bf of' cf bx ox cx _ _ hll hlf hlx (Nat.le_refl _) hD.rl hD.rf hI); rintro e w2 ⟨rfl, hb⟩; rw [Hp.out]; replace hI := (hI.below hb).more hb.size; replace hD := hD.below hb; clear p0 p1; have p0 := hD.c0; have p1 := hD.c1)
      | (go_at_call 52; have hcall := end_c L F xs Hxl.out Hal.out AL AF AX bl ol cl bf of' cf bx ox cx _ w2 hll (Nat.le_refl _) hD.rl hD.rf hI; rw [HR.out, show (Value.slice AX L.length cx) = Value.slice AX xs.length cx by rw [Hxl.out]] at hcall; refine hcall.mono ?_; clear hcall; rintro e w3 ⟨rfl, hb⟩; replace hD := hD.below hb))
    go_ret
    exact ⟨by rw [HR.out]; rfl, hD.bel⟩
end Go.Proofs.Ytmgikoaeomieeaa
