/-
  No cell of these rows narrows 'for every input' (looked for: loops, veiled, ifaces, maps, wideKeys, modest, calm, conditions, laid).
  DERIVED. THE GIVEN ROWS OF THIS SEAT. 5 by the template 'for every input the law returns true; each argument reads behind the call as it read before'; 0 by the template 'total and deterministic' (their statements: YtofodhdpppjaoaaTotals.lean).
  GIVEN WITH THE SEED: the statements are not yours to turn. If you find one false, say at which input.
  Laid BY PROGRAM, IN A SANDBOX (cutbox-rows.mjs): the forced cells as the released guide's own fill.sh prints them over the translation 8838a9ead8e280b4… (all of the seat's roots in one cut). By AI agents, Wed Nov 11 2026. No macro, syntax, notation, axiom, sorry.
-/
import Derived.Test.YtofodhdpppjaoaaChecked
import GoSem.Claim
import GoSem.ClaimJoined
import GoSem.ClaimMapViews
import Derived.JoinedTies
import Derived.KernelRfl
namespace Go.Proofs.Ytofodhdpppjaoaa
/- THE CELL 'sum', in the pinned program and in every row, IS THE sha256 OF THE DUMP (.gsa) THAT YtofodhdpppjaoaaProg.lean LOADS. Nothing in Lean hashes anything: it is a label: what it is worth is what the hold of that sum in a sandbox is worth. -/
noncomputable def Try.pinned : Pinned := { name := "ytofodhdpppjaoaa", sum := "8838a9ead8e280b44b9c86215fb19cd529cafe04e011c51c9e5076b4ca843504", checked := Try.checked }
namespace Rows
def none {H : Type} : Left H := { results := [], args := [] }

/-- 'laws.FnPlanNarrowed': WHATEVER THE INPUT: true; the input reads as it did. -/
def fnPlanNarrowedSpec : ChangeSpec := { name := "fnPlanNarrowed", fn := fun _ => fun
  | [d] => { results := [.lit (.bool true)], args := [d] }
  | _ => none }
def fnPlanNarrowedRow : OpenClaim := { program := "ytofodhdpppjaoaa", sum := "8838a9ead8e280b44b9c86215fb19cd529cafe04e011c51c9e5076b4ca843504", func := "loop.example/plansandpromises/laws.FnPlanNarrowed", spec := "fnPlanNarrowed", unfollowed := true, recurses := true, apart := false }
def FnPlanNarrowedSaid : Prop := fnPlanNarrowedRow.holds Try.pinned (OpenSpec.ofChange fnPlanNarrowedSpec)

/-- ITS FALSE NEIGHBOUR: 'it returns false'. Refute it at one input. -/
def fnPlanNarrowedWrong : ChangeSpec := { name := "fnPlanNarrowed", fn := fun _ => fun
  | [d] => { results := [.lit (.bool false)], args := [d] }
  | _ => none }
def FnPlanNarrowedWrongFalsely : Prop := fnPlanNarrowedRow.holds Try.pinned (OpenSpec.ofChange fnPlanNarrowedWrong)

/-- 'laws.FnExactPlanOf': WHATEVER THE INPUT: true; the input reads as it did. -/
def fnExactPlanOfSpec : ChangeSpec := { name := "fnExactPlanOf", fn := fun _ => fun
  | [d] => { results := [.lit (.bool true)], args := [d] }
  | _ => none }
def fnExactPlanOfRow : OpenClaim := { program := "ytofodhdpppjaoaa", sum := "8838a9ead8e280b44b9c86215fb19cd529cafe04e011c51c9e5076b4ca843504", func := "loop.example/plansandpromises/laws.FnExactPlanOf", spec := "fnExactPlanOf", unfollowed := true, recurses := true, apart := false }
def FnExactPlanOfSaid : Prop := fnExactPlanOfRow.holds Try.pinned (OpenSpec.ofChange fnExactPlanOfSpec)

/-- ITS FALSE NEIGHBOUR: 'it returns false'. Refute it at one input. -/
def fnExactPlanOfWrong : ChangeSpec := { name := "fnExactPlanOf", fn := fun _ => fun
  | [d] => { results := [.lit (.bool false)], args := [d] }
  | _ => none }
def FnExactPlanOfWrongFalsely : Prop := fnExactPlanOfRow.holds Try.pinned (OpenSpec.ofChange fnExactPlanOfWrong)

/-- 'laws.FnPlanOf': WHATEVER THE INPUT: true; the input reads as it did. -/
def fnPlanOfSpec : ChangeSpec := { name := "fnPlanOf", fn := fun _ => fun
  | [d] => { results := [.lit (.bool true)], args := [d] }
  | _ => none }
def fnPlanOfRow : OpenClaim := { program := "ytofodhdpppjaoaa", sum := "8838a9ead8e280b44b9c86215fb19cd529cafe04e011c51c9e5076b4ca843504", func := "loop.example/plansandpromises/laws.FnPlanOf", spec := "fnPlanOf", unfollowed := true, recurses := true, apart := false }
def FnPlanOfSaid : Prop := fnPlanOfRow.holds Try.pinned (OpenSpec.ofChange fnPlanOfSpec)

/-- ITS FALSE NEIGHBOUR: 'it returns false'. Refute it at one input. -/
def fnPlanOfWrong : ChangeSpec := { name := "fnPlanOf", fn := fun _ => fun
  | [d] => { results := [.lit (.bool false)], args := [d] }
  | _ => none }
def FnPlanOfWrongFalsely : Prop := fnPlanOfRow.holds Try.pinned (OpenSpec.ofChange fnPlanOfWrong)

/-- 'laws.FnLengthsOf': WHATEVER THE INPUT: true; the input reads as it did. -/
def fnLengthsOfSpec : ChangeSpec := { name := "fnLengthsOf", fn := fun _ => fun
  | [d] => { results := [.lit (.bool true)], args := [d] }
  | _ => none }
def fnLengthsOfRow : OpenClaim := { program := "ytofodhdpppjaoaa", sum := "8838a9ead8e280b44b9c86215fb19cd529cafe04e011c51c9e5076b4ca843504", func := "loop.example/plansandpromises/laws.FnLengthsOf", spec := "fnLengthsOf", unfollowed := true, recurses := true, apart := false }
def FnLengthsOfSaid : Prop := fnLengthsOfRow.holds Try.pinned (OpenSpec.ofChange fnLengthsOfSpec)

/-- ITS FALSE NEIGHBOUR: 'it returns false'. Refute it at one input. -/
def fnLengthsOfWrong : ChangeSpec := { name := "fnLengthsOf", fn := fun _ => fun
  | [d] => { results := [.lit (.bool false)], args := [d] }
  | _ => none }
def FnLengthsOfWrongFalsely : Prop := fnLengthsOfRow.holds Try.pinned (OpenSpec.ofChange fnLengthsOfWrong)

/-- 'laws.FnLastOf': WHATEVER THE INPUT: true; the input reads as it did. -/
def fnLastOfSpec : ChangeSpec := { name := "fnLastOf", fn := fun _ => fun
  | [d] => { results := [.lit (.bool true)], args := [d] }
  | _ => none }
def fnLastOfRow : OpenClaim := { program := "ytofodhdpppjaoaa", sum := "8838a9ead8e280b44b9c86215fb19cd529cafe04e011c51c9e5076b4ca843504", func := "loop.example/plansandpromises/laws.FnLastOf", spec := "fnLastOf", unfollowed := true, recurses := true, apart := false }
def FnLastOfSaid : Prop := fnLastOfRow.holds Try.pinned (OpenSpec.ofChange fnLastOfSpec)

/-- ITS FALSE NEIGHBOUR: 'it returns false'. Refute it at one input. -/
def fnLastOfWrong : ChangeSpec := { name := "fnLastOf", fn := fun _ => fun
  | [d] => { results := [.lit (.bool false)], args := [d] }
  | _ => none }
def FnLastOfWrongFalsely : Prop := fnLastOfRow.holds Try.pinned (OpenSpec.ofChange fnLastOfWrong)

/- THE SECOND FORM. 'bulk': how many values and letters a reading holds, each counted each time it is reached (what is shared counts as often as it is met; a slice's spare places count too). A statement '..UptoSaid' is the law's where the arguments, and the package variables that the reading takes, are together of bulk at most 1048576: NARROWER than '..Said'. Prove '..Said' where nothing that the law and all that it calls make is longer than what came in: it says more and counts as full. Else prove '..UptoSaid'. A law counts once. -/
mutual
def uptoBulk {H : Type} : DataW H → Nat
  | .lit (.string bytes) => bytes.length + 1
  | .lit _ => 1
  | .nil => 1
  | .ptr d => uptoBulk d + 1
  | .slice elems spare => uptoBulkAll elems + uptoBulkAll spare + 1
  | .agg parts => uptoBulkAll parts + 1
  | .iface _ d => uptoBulk d + 1
  | .map entries => uptoBulkEntries entries + 1
  | .held _ => 1
def uptoBulkAll {H : Type} : List (DataW H) → Nat
  | [] => 0
  | d :: r => uptoBulk d + uptoBulkAll r
def uptoBulkEntries {H : Type} : List (Lit × DataW H) → Nat
  | [] => 0
  | x :: r => uptoBulkEntry x + uptoBulkEntries r
def uptoBulkEntry {H : Type} : Lit × DataW H → Nat
  | (.string bytes, d) => bytes.length + uptoBulk d + 1
  | (_, d) => uptoBulk d + 1
 end
def uptoSmall : (H : Type) → List (DataW H) → Bool := fun _ ds => decide (uptoBulkAll ds ≤ 1048576)
def OpenSpec.upto (s : _root_.Go.ChangeSpec) : _root_.Go.OpenSpec := { _root_.Go.OpenSpec.ofChange s with cond := some uptoSmall }

/-- 'laws.FnPlanNarrowed', WHERE WHAT IT READS IS OF BULK AT MOST 1048576: true; the input reads as it did. -/
def fnPlanNarrowedUptoRow : OpenClaim := { program := "ytofodhdpppjaoaa", sum := "8838a9ead8e280b44b9c86215fb19cd529cafe04e011c51c9e5076b4ca843504", func := "loop.example/plansandpromises/laws.FnPlanNarrowed", spec := "fnPlanNarrowed", unfollowed := true, recurses := true, apart := false, narrowed := true }
def FnPlanNarrowedUptoSaid : Prop := fnPlanNarrowedUptoRow.holds Try.pinned (OpenSpec.upto fnPlanNarrowedSpec)

/-- 'laws.FnExactPlanOf', WHERE WHAT IT READS IS OF BULK AT MOST 1048576: true; the input reads as it did. -/
def fnExactPlanOfUptoRow : OpenClaim := { program := "ytofodhdpppjaoaa", sum := "8838a9ead8e280b44b9c86215fb19cd529cafe04e011c51c9e5076b4ca843504", func := "loop.example/plansandpromises/laws.FnExactPlanOf", spec := "fnExactPlanOf", unfollowed := true, recurses := true, apart := false, narrowed := true }
def FnExactPlanOfUptoSaid : Prop := fnExactPlanOfUptoRow.holds Try.pinned (OpenSpec.upto fnExactPlanOfSpec)

/-- 'laws.FnPlanOf', WHERE WHAT IT READS IS OF BULK AT MOST 1048576: true; the input reads as it did. -/
def fnPlanOfUptoRow : OpenClaim := { program := "ytofodhdpppjaoaa", sum := "8838a9ead8e280b44b9c86215fb19cd529cafe04e011c51c9e5076b4ca843504", func := "loop.example/plansandpromises/laws.FnPlanOf", spec := "fnPlanOf", unfollowed := true, recurses := true, apart := false, narrowed := true }
def FnPlanOfUptoSaid : Prop := fnPlanOfUptoRow.holds Try.pinned (OpenSpec.upto fnPlanOfSpec)

/-- 'laws.FnLengthsOf', WHERE WHAT IT READS IS OF BULK AT MOST 1048576: true; the input reads as it did. -/
def fnLengthsOfUptoRow : OpenClaim := { program := "ytofodhdpppjaoaa", sum := "8838a9ead8e280b44b9c86215fb19cd529cafe04e011c51c9e5076b4ca843504", func := "loop.example/plansandpromises/laws.FnLengthsOf", spec := "fnLengthsOf", unfollowed := true, recurses := true, apart := false, narrowed := true }
def FnLengthsOfUptoSaid : Prop := fnLengthsOfUptoRow.holds Try.pinned (OpenSpec.upto fnLengthsOfSpec)

/-- 'laws.FnLastOf', WHERE WHAT IT READS IS OF BULK AT MOST 1048576: true; the input reads as it did. -/
def fnLastOfUptoRow : OpenClaim := { program := "ytofodhdpppjaoaa", sum := "8838a9ead8e280b44b9c86215fb19cd529cafe04e011c51c9e5076b4ca843504", func := "loop.example/plansandpromises/laws.FnLastOf", spec := "fnLastOf", unfollowed := true, recurses := true, apart := false, narrowed := true }
def FnLastOfUptoSaid : Prop := fnLastOfUptoRow.holds Try.pinned (OpenSpec.upto fnLastOfSpec)

end Rows
end Go.Proofs.Ytofodhdpppjaoaa
