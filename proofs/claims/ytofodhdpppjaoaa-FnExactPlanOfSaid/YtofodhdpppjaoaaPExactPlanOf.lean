/-
  ExactPlanOf: for all rows of marks the program's PlanOf returns what the reference's returns, leaves its argument as it was, and shares no memory.
-/
import Derived.Test.YtofodhdpppjaoaaRows
import Derived.Test.YtofodhdpppjaoaaX70
import Derived.Test.YtofodhdpppjaoaaO70
import Derived.Test.YtofodhdpppjaoaaO1
import Derived.WalkKit
import Derived.ProofKit
import Derived.OpenShut
import Derived.ShutString
import Derived.ChangeOld
import Derived.Below
namespace Go.Proofs.Ytofodhdpppjaoaa.fnExactPlanOf
open Go.ChangeShapes Go.WideShapes Go.ChangeAt Go.RowKit
set_option linter.unusedVariables false

theorem own : ownKnob Try.prog.godebug = none := by kernel_rfl
theorem laidOut : laidOutB Try.prog = true := by kernel_rfl

set_option maxRecDepth 100000 in
theorem lifted (os : Os) (started : os.Started) (H : Type) (enc : TypeId × Value → H) :
    ReturnsInHanded {} Try.checked os 4 .any (Rows.fnExactPlanOfSpec.pre6 enc Try.prog Try.f4 Rows.fnExactPlanOfRow.domain false) (Rows.fnExactPlanOfSpec.post enc Try.prog Try.f4 false true false false) := by
  refine returnsInHanded_of_change (C := Try.checked) own started (by kernel_rfl) Try.func4
    (ChangeSpec.witness6 (enc := enc) (C := Try.checked) false ⟨#[], #[.slice none 0 0], []⟩ 8 (by kernel_rfl) (by kernel_rfl) (by kernel_rfl) (by kernel_rfl)) ?_
  intro W base args ds gs before hval0 hW hcnd _
  have hval : ∀ (j : Nat) t v, Try.f4.params[j]? = some t → args[j]? = some v → Value.okWide Try.prog W .any base t v := hval0
  have hW' := hW
  obtain ⟨p, q, hA0, hV, rfl, hfz, hnd⟩ := hW
  have hA : DataW.TrodAll enc Try.prog W 0 (fun _ => true) true Try.f4.params.toList args.toList ds p := hA0
  rw [Try.params4] at hA hval
  obtain ⟨v0, vs0, d0, ds0, p0, q0, hargs0, rfl, rfl, h0, r0⟩ := trodAll_cons hA
  obtain ⟨rfl, rfl, rfl⟩ := trodAll_nil r0
  obtain rfl : args = #[v0] := by cases args; simp_all
  obtain ⟨rfl, rfl⟩ := trodVars_none hV
  obtain ⟨sa0, sl0, sc0, rfl⟩ := okWide_slice Try.underlying35 (hval 0 35 v0 rfl rfl)
  have k0 := h0
  have lt0 : ∀ x ∈ p0, x.block < W.heap.size := by obtain ⟨m, hm⟩ := k0; exact DataW.trod_lt m _ _ _ hm
  obtain ⟨fu0, hf0⟩ := h0
  obtain ⟨A_0, b_0, o_0, c_0, ms_0, he0, hR_0⟩ := marksR hf0
  simp [Value.cells] at he0
  obtain ⟨y1, y2, y3⟩ := he0
  have z1 := y1.symm
  have z3 := y3.symm
  subst z1
  subst y2
  subst z3
  clear hA0 hval0
  refine (exactPlanOf_c ms_0 A_0 b_0 o_0 c_0 W (Nat.le_trans hR_0.1 hR_0.2.1) hR_0.2.2).mono fun e W' ⟨he, bel⟩ => ?_
  subst he
  exact ⟨_, rfl, _, _, _, [], _, [], hW', trodAll_mk1 (shut_bool Try.underlying4 _), (trodAll_cons_mk (Below.trod laidOut (by kernel_rfl) (of_decide_eq_true (by kernel_rfl)) k0 bel lt0) trodAll_mk0), rfl, bel.frame _, fun h => by cases h⟩

theorem fact26 : Try.prog.mayEnter = true := by kernel_rfl
theorem fact27 : (Rows.fnExactPlanOfRow.lifted == Try.prog.liftsFinal) = true := by kernel_rfl
theorem fact28 : (Try.prog.make == some Rows.fnExactPlanOfRow.make) = true := by kernel_rfl
theorem closed : joinedFacts Try.prog 4 Try.f4 Rows.fnExactPlanOfSpec Rows.fnExactPlanOfRow = true := by
  unfold joinedFacts
  rw [fact26, fact27, fact28]
  kernel_rfl

theorem over : Rows.fnExactPlanOfRow.holds Try.pinned (OpenSpec.ofChange Rows.fnExactPlanOfSpec) :=
  OpenClaim.holds_of_wide 4 Try.f4 rfl rfl rfl rfl rfl rfl rfl ⟨rfl, rfl, rfl, rfl, rfl⟩ rfl rfl rfl rfl rfl (by kernel_rfl) Try.func4 closed
    (of_decide_eq_true (by kernel_rfl)) (by unfold Func.isWrapper; first | (rw [if_pos (by decide +kernel)]; kernel_rfl) | (rw [if_neg (by decide +kernel)]; exact ⟨rfl, rfl⟩))
    (fun os started H enc _ => lifted os started H enc)

/-- THE STATEMENT. -/
theorem proved : Rows.FnExactPlanOfSaid := over
#print axioms proved
end Go.Proofs.Ytofodhdpppjaoaa.fnExactPlanOf
