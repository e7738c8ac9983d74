/-
  ExactWayOf answers true for every case and picks: both sides make the same plan of a way (wayOf of P24), in rows of their own.
-/
import Derived.Test.YtledgblepdjjlaaRows
import Derived.Test.YtledgblepdjjlaaX54
import Derived.Test.YtledgblepdjjlaaO50
import Derived.Test.YtledgblepdjjlaaO1
import Derived.WalkKit
import Derived.ProofKit
import Derived.OpenShut
import Derived.ShutString
import Derived.ChangeOld
import Derived.Below
namespace Go.Proofs.Ytledgblepdjjlaa.fnExactWayOf
open Go.ChangeShapes Go.WideShapes Go.ChangeAt Go.RowKit
set_option linter.unusedVariables false

theorem own : ownKnob Try.prog.godebug = none := by kernel_rfl
theorem laidOut : laidOutB Try.prog = true := by kernel_rfl

set_option maxRecDepth 100000 in
theorem lifted (os : Os) (started : os.Started) (H : Type) (enc : TypeId × Value → H) :
    ReturnsInHanded {} Try.checked os 3 .any (Rows.fnExactWayOfSpec.pre6 enc Try.prog Try.f3 Rows.fnExactWayOfRow.domain false) (Rows.fnExactWayOfSpec.post enc Try.prog Try.f3 false true false false) := by
  refine returnsInHanded_of_change (C := Try.checked) own started (by kernel_rfl) Try.func3
    (ChangeSpec.witness6 (enc := enc) (C := Try.checked) false ⟨#[], #[.agg #[.int .i64 0, .slice none 0 0, .slice none 0 0], .slice none 0 0], []⟩ 8 (by kernel_rfl) (by kernel_rfl) (by kernel_rfl) (by kernel_rfl)) ?_
  intro W base args ds gs before hval0 hW hcnd _
  have hval : ∀ (j : Nat) t v, Try.f3.params[j]? = some t → args[j]? = some v → Value.okWide Try.prog W .any base t v := hval0
  have hW' := hW
  obtain ⟨p, q, hA0, hV, rfl, hfz, hnd⟩ := hW
  have hA : DataW.TrodAll enc Try.prog W 0 (fun _ => true) true Try.f3.params.toList args.toList ds p := hA0
  rw [Try.params3] at hA hval
  obtain ⟨v0, vs0, d0, ds0, p0, q0, hargs0, rfl, rfl, h0, r0⟩ := trodAll_cons hA
  obtain ⟨v1, vs1, d1, ds1, p1, q1, hargs1, rfl, rfl, h1, r1⟩ := trodAll_cons r0
  obtain ⟨rfl, rfl, rfl⟩ := trodAll_nil r1
  obtain rfl : args = #[v0, v1] := by cases args; simp_all
  obtain ⟨rfl, rfl⟩ := trodVars_none hV
  obtain ⟨⟨cs0⟩, rfl, _⟩ := okWide_struct Try.underlying27 (hval 0 27 v0 rfl rfl)
  have k0 := h0
  have lt0 : ∀ x ∈ p0, x.block < W.heap.size := by obtain ⟨m, hm⟩ := k0; exact DataW.trod_lt m _ _ _ hm
  obtain ⟨fu0, hf0⟩ := h0
  obtain ⟨n_0, A_0, b_0, o_0, c_0, bs_0, A2_0, b2_0, o2_0, c2_0, ls_0, he0, hR_0⟩ := caseR hf0
  obtain rfl := (show cs0 = _ from he0)
  obtain ⟨sa1, sl1, sc1, rfl⟩ := okWide_slice Try.underlying28 (hval 1 28 v1 rfl rfl)
  have k1 := h1
  have lt1 : ∀ x ∈ p1, x.block < W.heap.size := by obtain ⟨m, hm⟩ := k1; exact DataW.trod_lt m _ _ _ hm
  obtain ⟨fu1, hf1⟩ := h1
  obtain ⟨A_1, b_1, o_1, c_1, xs_1, he1, hR_1⟩ := intsR hf1
  simp [Value.cells] at he1
  obtain ⟨y1, y2, y3⟩ := he1
  have z1 := y1.symm
  have z3 := y3.symm
  subst z1
  subst y2
  subst z3
  clear hA0 hval0
  refine (exactWayOf_c n_0 bs_0 ls_0 xs_1 A_0 A2_0 A_1 b_0 o_0 c_0 b2_0 o2_0 c2_0 b_1 o_1 c_1 W (Nat.le_trans hR_0.1 hR_0.2.1) (Nat.le_trans hR_0.2.2.2.1 hR_0.2.2.2.2.1) hR_0.2.2.2.2.2.2.1 (Nat.le_trans hR_1.1 hR_1.2.1) hR_0.2.2.1 hR_0.2.2.2.2.2.1 hR_1.2.2.1).mono fun e W' ⟨he, bel⟩ => ?_
  subst he
  exact ⟨_, rfl, _, _, _, [], _, [], hW', trodAll_mk1 (shut_bool Try.underlying4 _), (trodAll_cons_mk (Below.trod laidOut (by kernel_rfl) (of_decide_eq_true (by kernel_rfl)) k0 bel lt0) (trodAll_cons_mk (Below.trod laidOut (by kernel_rfl) (of_decide_eq_true (by kernel_rfl)) k1 bel lt1) trodAll_mk0)), rfl, bel.frame _, fun h => by cases h⟩

theorem fact26 : Try.prog.mayEnter = true := by kernel_rfl
theorem fact27 : (Rows.fnExactWayOfRow.lifted == Try.prog.liftsFinal) = true := by kernel_rfl
theorem fact28 : (Try.prog.make == some Rows.fnExactWayOfRow.make) = true := by kernel_rfl
theorem closed : joinedFacts Try.prog 3 Try.f3 Rows.fnExactWayOfSpec Rows.fnExactWayOfRow = true := by
  unfold joinedFacts
  rw [fact26, fact27, fact28]
  kernel_rfl

theorem over : Rows.fnExactWayOfRow.holds Try.pinned (OpenSpec.ofChange Rows.fnExactWayOfSpec) :=
  OpenClaim.holds_of_wide 3 Try.f3 rfl rfl rfl rfl rfl rfl rfl ⟨rfl, rfl, rfl, rfl, rfl⟩ rfl rfl rfl rfl rfl (by kernel_rfl) Try.func3 closed
    (of_decide_eq_true (by kernel_rfl)) (by unfold Func.isWrapper; first | (rw [if_pos (by decide +kernel)]; kernel_rfl) | (rw [if_neg (by decide +kernel)]; exact ⟨rfl, rfl⟩))
    (fun os started H enc _ => lifted os started H enc)

/-- THE STATEMENT. -/
theorem proved : Rows.FnExactWayOfSaid := over
#print axioms proved
end Go.Proofs.Ytledgblepdjjlaa.fnExactWayOf
