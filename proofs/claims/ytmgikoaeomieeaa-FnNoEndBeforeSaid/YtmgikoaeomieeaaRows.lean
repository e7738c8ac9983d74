/-
  No cell of these rows narrows 'for every input' (looked for: loops, veiled, ifaces, maps, wideKeys, modest, calm, conditions, laid).
  DERIVED. THE GIVEN ROWS OF THIS SEAT. 7 by the template 'for every input the law returns true; each argument reads behind the call as it read before'; 0 by the template 'total and deterministic' (their statements: YtmgikoaeomieeaaTotals.lean).
  GIVEN WITH THE SEED: the statements are not yours to turn. If you find one false, say at which input.
  Laid BY PROGRAM, IN A SANDBOX (cutbox-rows.mjs): the forced cells as the released guide's own fill.sh prints them over the translation 91befb059a8e7dc8… (all of the seat's roots in one cut). By AI agents, Wed Nov 11 2026. No macro, syntax, notation, axiom, sorry.
-/
import Derived.Test.YtmgikoaeomieeaaChecked
import GoSem.Claim
import GoSem.ClaimJoined
import GoSem.ClaimMapViews
import Derived.JoinedTies
import Derived.KernelRfl
namespace Go.Proofs.Ytmgikoaeomieeaa
/- THE CELL 'sum', in the pinned program and in every row, IS THE sha256 OF THE DUMP (.gsa) THAT YtmgikoaeomieeaaProg.lean LOADS. Nothing in Lean hashes anything: it is a label: what it is worth is what the hold of that sum in a sandbox is worth. -/
noncomputable def Try.pinned : Pinned := { name := "ytmgikoaeomieeaa", sum := "91befb059a8e7dc894909178f03344e66b9655b860d54a046d59619f26e479c1", checked := Try.checked }
namespace Rows
def none {H : Type} : Left H := { results := [], args := [] }

/-- 'laws.FnPlanOfProject': WHATEVER THE INPUT: true; the input reads as it did. -/
def fnPlanOfProjectSpec : ChangeSpec := { name := "fnPlanOfProject", fn := fun _ => fun
  | [d] => { results := [.lit (.bool true)], args := [d] }
  | _ => none }
def fnPlanOfProjectRow : OpenClaim := { program := "ytmgikoaeomieeaa", sum := "91befb059a8e7dc894909178f03344e66b9655b860d54a046d59619f26e479c1", func := "loop.example/plansandpromises/laws.FnPlanOfProject", spec := "fnPlanOfProject", unfollowed := true, recurses := true, apart := false }
def FnPlanOfProjectSaid : Prop := fnPlanOfProjectRow.holds Try.pinned (OpenSpec.ofChange fnPlanOfProjectSpec)

/-- ITS FALSE NEIGHBOUR: 'it returns false'. Refute it at one input. -/
def fnPlanOfProjectWrong : ChangeSpec := { name := "fnPlanOfProject", fn := fun _ => fun
  | [d] => { results := [.lit (.bool false)], args := [d] }
  | _ => none }
def FnPlanOfProjectWrongFalsely : Prop := fnPlanOfProjectRow.holds Try.pinned (OpenSpec.ofChange fnPlanOfProjectWrong)

/-- 'laws.FnExactLeastEnd': WHATEVER THE INPUT: true; the input reads as it did. -/
def fnExactLeastEndSpec : ChangeSpec := { name := "fnExactLeastEnd", fn := fun _ => fun
  | [d1, d2] => { results := [.lit (.bool true)], args := [d1, d2] }
  | _ => none }
def fnExactLeastEndRow : OpenClaim := { program := "ytmgikoaeomieeaa", sum := "91befb059a8e7dc894909178f03344e66b9655b860d54a046d59619f26e479c1", func := "loop.example/plansandpromises/laws.FnExactLeastEnd", spec := "fnExactLeastEnd", unfollowed := true, recurses := true, apart := false }
def FnExactLeastEndSaid : Prop := fnExactLeastEndRow.holds Try.pinned (OpenSpec.ofChange fnExactLeastEndSpec)

/-- ITS FALSE NEIGHBOUR: 'it returns false'. Refute it at one input. -/
def fnExactLeastEndWrong : ChangeSpec := { name := "fnExactLeastEnd", fn := fun _ => fun
  | [d1, d2] => { results := [.lit (.bool false)], args := [d1, d2] }
  | _ => none }
def FnExactLeastEndWrongFalsely : Prop := fnExactLeastEndRow.holds Try.pinned (OpenSpec.ofChange fnExactLeastEndWrong)

/-- 'laws.FnLeastEnd': WHATEVER THE INPUT: true; the input reads as it did. -/
def fnLeastEndSpec : ChangeSpec := { name := "fnLeastEnd", fn := fun _ => fun
  | [d] => { results := [.lit (.bool true)], args := [d] }
  | _ => none }
def fnLeastEndRow : OpenClaim := { program := "ytmgikoaeomieeaa", sum := "91befb059a8e7dc894909178f03344e66b9655b860d54a046d59619f26e479c1", func := "loop.example/plansandpromises/laws.FnLeastEnd", spec := "fnLeastEnd", unfollowed := true, recurses := true, apart := false }
def FnLeastEndSaid : Prop := fnLeastEndRow.holds Try.pinned (OpenSpec.ofChange fnLeastEndSpec)

/-- ITS FALSE NEIGHBOUR: 'it returns false'. Refute it at one input. -/
def fnLeastEndWrong : ChangeSpec := { name := "fnLeastEnd", fn := fun _ => fun
  | [d] => { results := [.lit (.bool false)], args := [d] }
  | _ => none }
def FnLeastEndWrongFalsely : Prop := fnLeastEndRow.holds Try.pinned (OpenSpec.ofChange fnLeastEndWrong)

/-- 'laws.FnBeginsBy': WHATEVER THE INPUT: true; the input reads as it did. -/
def fnBeginsBySpec : ChangeSpec := { name := "fnBeginsBy", fn := fun _ => fun
  | [d] => { results := [.lit (.bool true)], args := [d] }
  | _ => none }
def fnBeginsByRow : OpenClaim := { program := "ytmgikoaeomieeaa", sum := "91befb059a8e7dc894909178f03344e66b9655b860d54a046d59619f26e479c1", func := "loop.example/plansandpromises/laws.FnBeginsBy", spec := "fnBeginsBy", unfollowed := true, recurses := true, apart := false }
def FnBeginsBySaid : Prop := fnBeginsByRow.holds Try.pinned (OpenSpec.ofChange fnBeginsBySpec)

/-- ITS FALSE NEIGHBOUR: 'it returns false'. Refute it at one input. -/
def fnBeginsByWrong : ChangeSpec := { name := "fnBeginsBy", fn := fun _ => fun
  | [d] => { results := [.lit (.bool false)], args := [d] }
  | _ => none }
def FnBeginsByWrongFalsely : Prop := fnBeginsByRow.holds Try.pinned (OpenSpec.ofChange fnBeginsByWrong)

/-- 'laws.FnNoEndBefore': WHATEVER THE INPUT: true; the input reads as it did. -/
def fnNoEndBeforeSpec : ChangeSpec := { name := "fnNoEndBefore", fn := fun _ => fun
  | [d] => { results := [.lit (.bool true)], args := [d] }
  | _ => none }
def fnNoEndBeforeRow : OpenClaim := { program := "ytmgikoaeomieeaa", sum := "91befb059a8e7dc894909178f03344e66b9655b860d54a046d59619f26e479c1", func := "loop.example/plansandpromises/laws.FnNoEndBefore", spec := "fnNoEndBefore", unfollowed := true, recurses := true, apart := false }
def FnNoEndBeforeSaid : Prop := fnNoEndBeforeRow.holds Try.pinned (OpenSpec.ofChange fnNoEndBeforeSpec)

/-- ITS FALSE NEIGHBOUR: 'it returns false'. Refute it at one input. -/
def fnNoEndBeforeWrong : ChangeSpec := { name := "fnNoEndBefore", fn := fun _ => fun
  | [d] => { results := [.lit (.bool false)], args := [d] }
  | _ => none }
def FnNoEndBeforeWrongFalsely : Prop := fnNoEndBeforeRow.holds Try.pinned (OpenSpec.ofChange fnNoEndBeforeWrong)

/-- 'laws.FnGreedyBy': WHATEVER THE INPUT: true; the input reads as it did. -/
def fnGreedyBySpec : ChangeSpec := { name := "fnGreedyBy", fn := fun _ => fun
  | [d] => { results := [.lit (.bool true)], args := [d] }
  | _ => none }
def fnGreedyByRow : OpenClaim := { program := "ytmgikoaeomieeaa", sum := "91befb059a8e7dc894909178f03344e66b9655b860d54a046d59619f26e479c1", func := "loop.example/plansandpromises/laws.FnGreedyBy", spec := "fnGreedyBy", unfollowed := true, recurses := true, apart := false }
def FnGreedyBySaid : Prop := fnGreedyByRow.holds Try.pinned (OpenSpec.ofChange fnGreedyBySpec)

/-- ITS FALSE NEIGHBOUR: 'it returns false'. Refute it at one input. -/
def fnGreedyByWrong : ChangeSpec := { name := "fnGreedyBy", fn := fun _ => fun
  | [d] => { results := [.lit (.bool false)], args := [d] }
  | _ => none }
def FnGreedyByWrongFalsely : Prop := fnGreedyByRow.holds Try.pinned (OpenSpec.ofChange fnGreedyByWrong)

/-- 'laws.FnIdleOf': WHATEVER THE INPUT: true; the input reads as it did. -/
def fnIdleOfSpec : ChangeSpec := { name := "fnIdleOf", fn := fun _ => fun
  | [d] => { results := [.lit (.bool true)], args := [d] }
  | _ => none }
def fnIdleOfRow : OpenClaim := { program := "ytmgikoaeomieeaa", sum := "91befb059a8e7dc894909178f03344e66b9655b860d54a046d59619f26e479c1", func := "loop.example/plansandpromises/laws.FnIdleOf", spec := "fnIdleOf", unfollowed := true, recurses := true, apart := false }
def FnIdleOfSaid : Prop := fnIdleOfRow.holds Try.pinned (OpenSpec.ofChange fnIdleOfSpec)

/-- ITS FALSE NEIGHBOUR: 'it returns false'. Refute it at one input. -/
def fnIdleOfWrong : ChangeSpec := { name := "fnIdleOf", fn := fun _ => fun
  | [d] => { results := [.lit (.bool false)], args := [d] }
  | _ => none }
def FnIdleOfWrongFalsely : Prop := fnIdleOfRow.holds Try.pinned (OpenSpec.ofChange fnIdleOfWrong)

/- THE SECOND FORM. 'bulk': how many values and letters a reading holds, each counted each time it is reached (what is shared counts as often as it is met; a slice's spare places count too). A statement '..UptoSaid' is the law's where the arguments, and the package variables that the reading takes, are together of bulk at most 1048576: NARROWER than '..Said'. Prove '..Said' where nothing that the law and all that it calls make is longer than what came in: it says more and counts as full. Else prove '..UptoSaid'. A law counts once. -/
mutual
def uptoBulk {H : Type} : DataW H → Nat
  | .lit (.string bytes) => bytes.length + 1
  | .lit _ => 1
  | .nil => 1
  | .ptr d => uptoBulk d + 1
  | .slice elems spare => uptoBulkAll elems + uptoBulkAll spare + 1
  | .agg parts => uptoBulkAll parts + 1
  | .iface _ d => uptoBulk d + 1
  | .map entries => uptoBulkEntries entries + 1
  | .held _ => 1
def uptoBulkAll {H : Type} : List (DataW H) → Nat
  | [] => 0
  | d :: r => uptoBulk d + uptoBulkAll r
def uptoBulkEntries {H : Type} : List (Lit × DataW H) → Nat
  | [] => 0
  | x :: r => uptoBulkEntry x + uptoBulkEntries r
def uptoBulkEntry {H : Type} : Lit × DataW H → Nat
  | (.string bytes, d) => bytes.length + uptoBulk d + 1
  | (_, d) => uptoBulk d + 1
 end
def uptoSmall : (H : Type) → List (DataW H) → Bool := fun _ ds => decide (uptoBulkAll ds ≤ 1048576)
def OpenSpec.upto (s : _root_.Go.ChangeSpec) : _root_.Go.OpenSpec := { _root_.Go.OpenSpec.ofChange s with cond := some uptoSmall }

/-- 'laws.FnPlanOfProject', WHERE WHAT IT READS IS OF BULK AT MOST 1048576: true; the input reads as it did. -/
def fnPlanOfProjectUptoRow : OpenClaim := { program := "ytmgikoaeomieeaa", sum := "91befb059a8e7dc894909178f03344e66b9655b860d54a046d59619f26e479c1", func := "loop.example/plansandpromises/laws.FnPlanOfProject", spec := "fnPlanOfProject", unfollowed := true, recurses := true, apart := false, narrowed := true }
def FnPlanOfProjectUptoSaid : Prop := fnPlanOfProjectUptoRow.holds Try.pinned (OpenSpec.upto fnPlanOfProjectSpec)

/-- 'laws.FnExactLeastEnd', WHERE WHAT IT READS IS OF BULK AT MOST 1048576: true; the input reads as it did. -/
def fnExactLeastEndUptoRow : OpenClaim := { program := "ytmgikoaeomieeaa", sum := "91befb059a8e7dc894909178f03344e66b9655b860d54a046d59619f26e479c1", func := "loop.example/plansandpromises/laws.FnExactLeastEnd", spec := "fnExactLeastEnd", unfollowed := true, recurses := true, apart := false, narrowed := true }
def FnExactLeastEndUptoSaid : Prop := fnExactLeastEndUptoRow.holds Try.pinned (OpenSpec.upto fnExactLeastEndSpec)

/-- 'laws.FnLeastEnd', WHERE WHAT IT READS IS OF BULK AT MOST 1048576: true; the input reads as it did. -/
def fnLeastEndUptoRow : OpenClaim := { program := "ytmgikoaeomieeaa", sum := "91befb059a8e7dc894909178f03344e66b9655b860d54a046d59619f26e479c1", func := "loop.example/plansandpromises/laws.FnLeastEnd", spec := "fnLeastEnd", unfollowed := true, recurses := true, apart := false, narrowed := true }
def FnLeastEndUptoSaid : Prop := fnLeastEndUptoRow.holds Try.pinned (OpenSpec.upto fnLeastEndSpec)

/-- 'laws.FnBeginsBy', WHERE WHAT IT READS IS OF BULK AT MOST 1048576: true; the input reads as it did. -/
def fnBeginsByUptoRow : OpenClaim := { program := "ytmgikoaeomieeaa", sum := "91befb059a8e7dc894909178f03344e66b9655b860d54a046d59619f26e479c1", func := "loop.example/plansandpromises/laws.FnBeginsBy", spec := "fnBeginsBy", unfollowed := true, recurses := true, apart := false, narrowed := true }
def FnBeginsByUptoSaid : Prop := fnBeginsByUptoRow.holds Try.pinned (OpenSpec.upto fnBeginsBySpec)

/-- 'laws.FnNoEndBefore', WHERE WHAT IT READS IS OF BULK AT MOST 1048576: true; the input reads as it did. -/
def fnNoEndBeforeUptoRow : OpenClaim := { program := "ytmgikoaeomieeaa", sum := "91befb059a8e7dc894909178f03344e66b9655b860d54a046d59619f26e479c1", func := "loop.example/plansandpromises/laws.FnNoEndBefore", spec := "fnNoEndBefore", unfollowed := true, recurses := true, apart := false, narrowed := true }
def FnNoEndBeforeUptoSaid : Prop := fnNoEndBeforeUptoRow.holds Try.pinned (OpenSpec.upto fnNoEndBeforeSpec)

/-- 'laws.FnGreedyBy', WHERE WHAT IT READS IS OF BULK AT MOST 1048576: true; the input reads as it did. -/
def fnGreedyByUptoRow : OpenClaim := { program := "ytmgikoaeomieeaa", sum := "91befb059a8e7dc894909178f03344e66b9655b860d54a046d59619f26e479c1", func := "loop.example/plansandpromises/laws.FnGreedyBy", spec := "fnGreedyBy", unfollowed := true, recurses := true, apart := false, narrowed := true }
def FnGreedyByUptoSaid : Prop := fnGreedyByUptoRow.holds Try.pinned (OpenSpec.upto fnGreedyBySpec)

/-- 'laws.FnIdleOf', WHERE WHAT IT READS IS OF BULK AT MOST 1048576: true; the input reads as it did. -/
def fnIdleOfUptoRow : OpenClaim := { program := "ytmgikoaeomieeaa", sum := "91befb059a8e7dc894909178f03344e66b9655b860d54a046d59619f26e479c1", func := "loop.example/plansandpromises/laws.FnIdleOf", spec := "fnIdleOf", unfollowed := true, recurses := true, apart := false, narrowed := true }
def FnIdleOfUptoSaid : Prop := fnIdleOfUptoRow.holds Try.pinned (OpenSpec.upto fnIdleOfSpec)

end Rows
end Go.Proofs.Ytmgikoaeomieeaa
