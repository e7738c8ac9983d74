/-
  No cell of these rows narrows 'for every input' (looked for: loops, veiled, ifaces, maps, wideKeys, modest, calm, conditions, laid).
  DERIVED. THE GIVEN ROWS OF THIS SEAT. 11 by the template 'for every input the law returns true; each argument reads behind the call as it read before'; 0 by the template 'total and deterministic' (their statements: YtdijfkpccbkdfaaTotals.lean).
  GIVEN WITH THE SEED: the statements are not yours to turn. If you find one false, say at which input.
  Laid BY PROGRAM, IN A SANDBOX (cutbox-rows.mjs): the forced cells as the released guide's own fill.sh prints them over the translation 88c0e2cfa866c872… (all of the seat's roots in one cut). By AI agents, Wed Nov 11 2026. No macro, syntax, notation, axiom, sorry.
-/
import Derived.Test.YtdijfkpccbkdfaaChecked
import GoSem.Claim
import GoSem.ClaimJoined
import GoSem.ClaimMapViews
import Derived.JoinedTies
import Derived.KernelRfl
namespace Go.Proofs.Ytdijfkpccbkdfaa
/- THE CELL 'sum', in the pinned program and in every row, IS THE sha256 OF THE DUMP (.gsa) THAT YtdijfkpccbkdfaaProg.lean LOADS. Nothing in Lean hashes anything: it is a label: what it is worth is what the hold of that sum in a sandbox is worth. -/
noncomputable def Try.pinned : Pinned := { name := "ytdijfkpccbkdfaa", sum := "88c0e2cfa866c8722f5f805803b809a4c79d77b3413c6b6920f3a99f9108a28b", checked := Try.checked }
namespace Rows
def none {H : Type} : Left H := { results := [], args := [] }

/-- 'laws.FnPlanFor': WHATEVER THE INPUT: true; the input reads as it did. -/
def fnPlanForSpec : ChangeSpec := { name := "fnPlanFor", fn := fun _ => fun
  | [d] => { results := [.lit (.bool true)], args := [d] }
  | _ => none }
def fnPlanForRow : OpenClaim := { program := "ytdijfkpccbkdfaa", sum := "88c0e2cfa866c8722f5f805803b809a4c79d77b3413c6b6920f3a99f9108a28b", func := "loop.example/plansandpromises/laws.FnPlanFor", spec := "fnPlanFor", unfollowed := true, recurses := true, apart := false }
def FnPlanForSaid : Prop := fnPlanForRow.holds Try.pinned (OpenSpec.ofChange fnPlanForSpec)

/-- ITS FALSE NEIGHBOUR: 'it returns false'. Refute it at one input. -/
def fnPlanForWrong : ChangeSpec := { name := "fnPlanFor", fn := fun _ => fun
  | [d] => { results := [.lit (.bool false)], args := [d] }
  | _ => none }
def FnPlanForWrongFalsely : Prop := fnPlanForRow.holds Try.pinned (OpenSpec.ofChange fnPlanForWrong)

/-- 'laws.FnExactPlanFor': WHATEVER THE INPUT: true; the input reads as it did. -/
def fnExactPlanForSpec : ChangeSpec := { name := "fnExactPlanFor", fn := fun _ => fun
  | [d1, d2] => { results := [.lit (.bool true)], args := [d1, d2] }
  | _ => none }
def fnExactPlanForRow : OpenClaim := { program := "ytdijfkpccbkdfaa", sum := "88c0e2cfa866c8722f5f805803b809a4c79d77b3413c6b6920f3a99f9108a28b", func := "loop.example/plansandpromises/laws.FnExactPlanFor", spec := "fnExactPlanFor", unfollowed := true, recurses := true, apart := false }
def FnExactPlanForSaid : Prop := fnExactPlanForRow.holds Try.pinned (OpenSpec.ofChange fnExactPlanForSpec)

/-- ITS FALSE NEIGHBOUR: 'it returns false'. Refute it at one input. -/
def fnExactPlanForWrong : ChangeSpec := { name := "fnExactPlanFor", fn := fun _ => fun
  | [d1, d2] => { results := [.lit (.bool false)], args := [d1, d2] }
  | _ => none }
def FnExactPlanForWrongFalsely : Prop := fnExactPlanForRow.holds Try.pinned (OpenSpec.ofChange fnExactPlanForWrong)

/-- 'laws.FnExactStrongPlan': WHATEVER THE INPUT: true; the input reads as it did. -/
def fnExactStrongPlanSpec : ChangeSpec := { name := "fnExactStrongPlan", fn := fun _ => fun
  | [d] => { results := [.lit (.bool true)], args := [d] }
  | _ => none }
def fnExactStrongPlanRow : OpenClaim := { program := "ytdijfkpccbkdfaa", sum := "88c0e2cfa866c8722f5f805803b809a4c79d77b3413c6b6920f3a99f9108a28b", func := "loop.example/plansandpromises/laws.FnExactStrongPlan", spec := "fnExactStrongPlan", unfollowed := true, recurses := true, apart := false }
def FnExactStrongPlanSaid : Prop := fnExactStrongPlanRow.holds Try.pinned (OpenSpec.ofChange fnExactStrongPlanSpec)

/-- ITS FALSE NEIGHBOUR: 'it returns false'. Refute it at one input. -/
def fnExactStrongPlanWrong : ChangeSpec := { name := "fnExactStrongPlan", fn := fun _ => fun
  | [d] => { results := [.lit (.bool false)], args := [d] }
  | _ => none }
def FnExactStrongPlanWrongFalsely : Prop := fnExactStrongPlanRow.holds Try.pinned (OpenSpec.ofChange fnExactStrongPlanWrong)

/-- 'laws.FnExactStrongOk': WHATEVER THE INPUT: true; the input reads as it did. -/
def fnExactStrongOkSpec : ChangeSpec := { name := "fnExactStrongOk", fn := fun _ => fun
  | [d] => { results := [.lit (.bool true)], args := [d] }
  | _ => none }
def fnExactStrongOkRow : OpenClaim := { program := "ytdijfkpccbkdfaa", sum := "88c0e2cfa866c8722f5f805803b809a4c79d77b3413c6b6920f3a99f9108a28b", func := "loop.example/plansandpromises/laws.FnExactStrongOk", spec := "fnExactStrongOk", unfollowed := true, recurses := true, apart := false }
def FnExactStrongOkSaid : Prop := fnExactStrongOkRow.holds Try.pinned (OpenSpec.ofChange fnExactStrongOkSpec)

/-- ITS FALSE NEIGHBOUR: 'it returns false'. Refute it at one input. -/
def fnExactStrongOkWrong : ChangeSpec := { name := "fnExactStrongOk", fn := fun _ => fun
  | [d] => { results := [.lit (.bool false)], args := [d] }
  | _ => none }
def FnExactStrongOkWrongFalsely : Prop := fnExactStrongOkRow.holds Try.pinned (OpenSpec.ofChange fnExactStrongOkWrong)

/-- 'laws.FnWeakOk': WHATEVER THE INPUT: true; the input reads as it did. -/
def fnWeakOkSpec : ChangeSpec := { name := "fnWeakOk", fn := fun _ => fun
  | [d] => { results := [.lit (.bool true)], args := [d] }
  | _ => none }
def fnWeakOkRow : OpenClaim := { program := "ytdijfkpccbkdfaa", sum := "88c0e2cfa866c8722f5f805803b809a4c79d77b3413c6b6920f3a99f9108a28b", func := "loop.example/plansandpromises/laws.FnWeakOk", spec := "fnWeakOk", unfollowed := true, recurses := true, apart := false }
def FnWeakOkSaid : Prop := fnWeakOkRow.holds Try.pinned (OpenSpec.ofChange fnWeakOkSpec)

/-- ITS FALSE NEIGHBOUR: 'it returns false'. Refute it at one input. -/
def fnWeakOkWrong : ChangeSpec := { name := "fnWeakOk", fn := fun _ => fun
  | [d] => { results := [.lit (.bool false)], args := [d] }
  | _ => none }
def FnWeakOkWrongFalsely : Prop := fnWeakOkRow.holds Try.pinned (OpenSpec.ofChange fnWeakOkWrong)

/-- 'laws.FnExactWeakOk': WHATEVER THE INPUT: true; the input reads as it did. -/
def fnExactWeakOkSpec : ChangeSpec := { name := "fnExactWeakOk", fn := fun _ => fun
  | [d] => { results := [.lit (.bool true)], args := [d] }
  | _ => none }
def fnExactWeakOkRow : OpenClaim := { program := "ytdijfkpccbkdfaa", sum := "88c0e2cfa866c8722f5f805803b809a4c79d77b3413c6b6920f3a99f9108a28b", func := "loop.example/plansandpromises/laws.FnExactWeakOk", spec := "fnExactWeakOk", unfollowed := true, recurses := true, apart := false }
def FnExactWeakOkSaid : Prop := fnExactWeakOkRow.holds Try.pinned (OpenSpec.ofChange fnExactWeakOkSpec)

/-- ITS FALSE NEIGHBOUR: 'it returns false'. Refute it at one input. -/
def fnExactWeakOkWrong : ChangeSpec := { name := "fnExactWeakOk", fn := fun _ => fun
  | [d] => { results := [.lit (.bool false)], args := [d] }
  | _ => none }
def FnExactWeakOkWrongFalsely : Prop := fnExactWeakOkRow.holds Try.pinned (OpenSpec.ofChange fnExactWeakOkWrong)

/-- 'laws.FnCountFit': WHATEVER THE INPUT: true; the input reads as it did. -/
def fnCountFitSpec : ChangeSpec := { name := "fnCountFit", fn := fun _ => fun
  | [d] => { results := [.lit (.bool true)], args := [d] }
  | _ => none }
def fnCountFitRow : OpenClaim := { program := "ytdijfkpccbkdfaa", sum := "88c0e2cfa866c8722f5f805803b809a4c79d77b3413c6b6920f3a99f9108a28b", func := "loop.example/plansandpromises/laws.FnCountFit", spec := "fnCountFit", unfollowed := true, recurses := true, apart := false }
def FnCountFitSaid : Prop := fnCountFitRow.holds Try.pinned (OpenSpec.ofChange fnCountFitSpec)

/-- ITS FALSE NEIGHBOUR: 'it returns false'. Refute it at one input. -/
def fnCountFitWrong : ChangeSpec := { name := "fnCountFit", fn := fun _ => fun
  | [d] => { results := [.lit (.bool false)], args := [d] }
  | _ => none }
def FnCountFitWrongFalsely : Prop := fnCountFitRow.holds Try.pinned (OpenSpec.ofChange fnCountFitWrong)

/-- 'laws.FnExactCountFit': WHATEVER THE INPUT: true; the input reads as it did. -/
def fnExactCountFitSpec : ChangeSpec := { name := "fnExactCountFit", fn := fun _ => fun
  | [d] => { results := [.lit (.bool true)], args := [d] }
  | _ => none }
def fnExactCountFitRow : OpenClaim := { program := "ytdijfkpccbkdfaa", sum := "88c0e2cfa866c8722f5f805803b809a4c79d77b3413c6b6920f3a99f9108a28b", func := "loop.example/plansandpromises/laws.FnExactCountFit", spec := "fnExactCountFit", unfollowed := true, recurses := true, apart := false }
def FnExactCountFitSaid : Prop := fnExactCountFitRow.holds Try.pinned (OpenSpec.ofChange fnExactCountFitSpec)

/-- ITS FALSE NEIGHBOUR: 'it returns false'. Refute it at one input. -/
def fnExactCountFitWrong : ChangeSpec := { name := "fnExactCountFit", fn := fun _ => fun
  | [d] => { results := [.lit (.bool false)], args := [d] }
  | _ => none }
def FnExactCountFitWrongFalsely : Prop := fnExactCountFitRow.holds Try.pinned (OpenSpec.ofChange fnExactCountFitWrong)

/-- 'laws.FnStrongOk': WHATEVER THE INPUT: true; the input reads as it did. -/
def fnStrongOkSpec : ChangeSpec := { name := "fnStrongOk", fn := fun _ => fun
  | [d] => { results := [.lit (.bool true)], args := [d] }
  | _ => none }
def fnStrongOkRow : OpenClaim := { program := "ytdijfkpccbkdfaa", sum := "88c0e2cfa866c8722f5f805803b809a4c79d77b3413c6b6920f3a99f9108a28b", func := "loop.example/plansandpromises/laws.FnStrongOk", spec := "fnStrongOk", unfollowed := true, recurses := true, apart := false }
def FnStrongOkSaid : Prop := fnStrongOkRow.holds Try.pinned (OpenSpec.ofChange fnStrongOkSpec)

/-- ITS FALSE NEIGHBOUR: 'it returns false'. Refute it at one input. -/
def fnStrongOkWrong : ChangeSpec := { name := "fnStrongOk", fn := fun _ => fun
  | [d] => { results := [.lit (.bool false)], args := [d] }
  | _ => none }
def FnStrongOkWrongFalsely : Prop := fnStrongOkRow.holds Try.pinned (OpenSpec.ofChange fnStrongOkWrong)

/-- 'laws.FnStrongTimes': WHATEVER THE INPUT: true; the input reads as it did. -/
def fnStrongTimesSpec : ChangeSpec := { name := "fnStrongTimes", fn := fun _ => fun
  | [d] => { results := [.lit (.bool true)], args := [d] }
  | _ => none }
def fnStrongTimesRow : OpenClaim := { program := "ytdijfkpccbkdfaa", sum := "88c0e2cfa866c8722f5f805803b809a4c79d77b3413c6b6920f3a99f9108a28b", func := "loop.example/plansandpromises/laws.FnStrongTimes", spec := "fnStrongTimes", unfollowed := true, recurses := true, apart := false }
def FnStrongTimesSaid : Prop := fnStrongTimesRow.holds Try.pinned (OpenSpec.ofChange fnStrongTimesSpec)

/-- ITS FALSE NEIGHBOUR: 'it returns false'. Refute it at one input. -/
def fnStrongTimesWrong : ChangeSpec := { name := "fnStrongTimes", fn := fun _ => fun
  | [d] => { results := [.lit (.bool false)], args := [d] }
  | _ => none }
def FnStrongTimesWrongFalsely : Prop := fnStrongTimesRow.holds Try.pinned (OpenSpec.ofChange fnStrongTimesWrong)

/-- 'laws.FnExactStrongTimes': WHATEVER THE INPUT: true; the input reads as it did. -/
def fnExactStrongTimesSpec : ChangeSpec := { name := "fnExactStrongTimes", fn := fun _ => fun
  | [d1, d2] => { results := [.lit (.bool true)], args := [d1, d2] }
  | _ => none }
def fnExactStrongTimesRow : OpenClaim := { program := "ytdijfkpccbkdfaa", sum := "88c0e2cfa866c8722f5f805803b809a4c79d77b3413c6b6920f3a99f9108a28b", func := "loop.example/plansandpromises/laws.FnExactStrongTimes", spec := "fnExactStrongTimes", unfollowed := true, recurses := true, apart := false }
def FnExactStrongTimesSaid : Prop := fnExactStrongTimesRow.holds Try.pinned (OpenSpec.ofChange fnExactStrongTimesSpec)

/-- ITS FALSE NEIGHBOUR: 'it returns false'. Refute it at one input. -/
def fnExactStrongTimesWrong : ChangeSpec := { name := "fnExactStrongTimes", fn := fun _ => fun
  | [d1, d2] => { results := [.lit (.bool false)], args := [d1, d2] }
  | _ => none }
def FnExactStrongTimesWrongFalsely : Prop := fnExactStrongTimesRow.holds Try.pinned (OpenSpec.ofChange fnExactStrongTimesWrong)

/- THE SECOND FORM. 'bulk': how many values and letters a reading holds, each counted each time it is reached (what is shared counts as often as it is met; a slice's spare places count too). A statement '..UptoSaid' is the law's where the arguments, and the package variables that the reading takes, are together of bulk at most 1048576: NARROWER than '..Said'. Prove '..Said' where nothing that the law and all that it calls make is longer than what came in: it says more and counts as full. Else prove '..UptoSaid'. A law counts once. -/
mutual
def uptoBulk {H : Type} : DataW H → Nat
  | .lit (.string bytes) => bytes.length + 1
  | .lit _ => 1
  | .nil => 1
  | .ptr d => uptoBulk d + 1
  | .slice elems spare => uptoBulkAll elems + uptoBulkAll spare + 1
  | .agg parts => uptoBulkAll parts + 1
  | .iface _ d => uptoBulk d + 1
  | .map entries => uptoBulkEntries entries + 1
  | .held _ => 1
def uptoBulkAll {H : Type} : List (DataW H) → Nat
  | [] => 0
  | d :: r => uptoBulk d + uptoBulkAll r
def uptoBulkEntries {H : Type} : List (Lit × DataW H) → Nat
  | [] => 0
  | x :: r => uptoBulkEntry x + uptoBulkEntries r
def uptoBulkEntry {H : Type} : Lit × DataW H → Nat
  | (.string bytes, d) => bytes.length + uptoBulk d + 1
  | (_, d) => uptoBulk d + 1
 end
def uptoSmall : (H : Type) → List (DataW H) → Bool := fun _ ds => decide (uptoBulkAll ds ≤ 1048576)
def OpenSpec.upto (s : _root_.Go.ChangeSpec) : _root_.Go.OpenSpec := { _root_.Go.OpenSpec.ofChange s with cond := some uptoSmall }

/-- 'laws.FnPlanFor', WHERE WHAT IT READS IS OF BULK AT MOST 1048576: true; the input reads as it did. -/
def fnPlanForUptoRow : OpenClaim := { program := "ytdijfkpccbkdfaa", sum := "88c0e2cfa866c8722f5f805803b809a4c79d77b3413c6b6920f3a99f9108a28b", func := "loop.example/plansandpromises/laws.FnPlanFor", spec := "fnPlanFor", unfollowed := true, recurses := true, apart := false, narrowed := true }
def FnPlanForUptoSaid : Prop := fnPlanForUptoRow.holds Try.pinned (OpenSpec.upto fnPlanForSpec)

/-- 'laws.FnExactPlanFor', WHERE WHAT IT READS IS OF BULK AT MOST 1048576: true; the input reads as it did. -/
def fnExactPlanForUptoRow : OpenClaim := { program := "ytdijfkpccbkdfaa", sum := "88c0e2cfa866c8722f5f805803b809a4c79d77b3413c6b6920f3a99f9108a28b", func := "loop.example/plansandpromises/laws.FnExactPlanFor", spec := "fnExactPlanFor", unfollowed := true, recurses := true, apart := false, narrowed := true }
def FnExactPlanForUptoSaid : Prop := fnExactPlanForUptoRow.holds Try.pinned (OpenSpec.upto fnExactPlanForSpec)

/-- 'laws.FnExactStrongPlan', WHERE WHAT IT READS IS OF BULK AT MOST 1048576: true; the input reads as it did. -/
def fnExactStrongPlanUptoRow : OpenClaim := { program := "ytdijfkpccbkdfaa", sum := "88c0e2cfa866c8722f5f805803b809a4c79d77b3413c6b6920f3a99f9108a28b", func := "loop.example/plansandpromises/laws.FnExactStrongPlan", spec := "fnExactStrongPlan", unfollowed := true, recurses := true, apart := false, narrowed := true }
def FnExactStrongPlanUptoSaid : Prop := fnExactStrongPlanUptoRow.holds Try.pinned (OpenSpec.upto fnExactStrongPlanSpec)

/-- 'laws.FnExactStrongOk', WHERE WHAT IT READS IS OF BULK AT MOST 1048576: true; the input reads as it did. -/
def fnExactStrongOkUptoRow : OpenClaim := { program := "ytdijfkpccbkdfaa", sum := "88c0e2cfa866c8722f5f805803b809a4c79d77b3413c6b6920f3a99f9108a28b", func := "loop.example/plansandpromises/laws.FnExactStrongOk", spec := "fnExactStrongOk", unfollowed := true, recurses := true, apart := false, narrowed := true }
def FnExactStrongOkUptoSaid : Prop := fnExactStrongOkUptoRow.holds Try.pinned (OpenSpec.upto fnExactStrongOkSpec)

/-- 'laws.FnWeakOk', WHERE WHAT IT READS IS OF BULK AT MOST 1048576: true; the input reads as it did. -/
def fnWeakOkUptoRow : OpenClaim := { program := "ytdijfkpccbkdfaa", sum := "88c0e2cfa866c8722f5f805803b809a4c79d77b3413c6b6920f3a99f9108a28b", func := "loop.example/plansandpromises/laws.FnWeakOk", spec := "fnWeakOk", unfollowed := true, recurses := true, apart := false, narrowed := true }
def FnWeakOkUptoSaid : Prop := fnWeakOkUptoRow.holds Try.pinned (OpenSpec.upto fnWeakOkSpec)

/-- 'laws.FnExactWeakOk', WHERE WHAT IT READS IS OF BULK AT MOST 1048576: true; the input reads as it did. -/
def fnExactWeakOkUptoRow : OpenClaim := { program := "ytdijfkpccbkdfaa", sum := "88c0e2cfa866c8722f5f805803b809a4c79d77b3413c6b6920f3a99f9108a28b", func := "loop.example/plansandpromises/laws.FnExactWeakOk", spec := "fnExactWeakOk", unfollowed := true, recurses := true, apart := false, narrowed := true }
def FnExactWeakOkUptoSaid : Prop := fnExactWeakOkUptoRow.holds Try.pinned (OpenSpec.upto fnExactWeakOkSpec)

/-- 'laws.FnCountFit', WHERE WHAT IT READS IS OF BULK AT MOST 1048576: true; the input reads as it did. -/
def fnCountFitUptoRow : OpenClaim := { program := "ytdijfkpccbkdfaa", sum := "88c0e2cfa866c8722f5f805803b809a4c79d77b3413c6b6920f3a99f9108a28b", func := "loop.example/plansandpromises/laws.FnCountFit", spec := "fnCountFit", unfollowed := true, recurses := true, apart := false, narrowed := true }
def FnCountFitUptoSaid : Prop := fnCountFitUptoRow.holds Try.pinned (OpenSpec.upto fnCountFitSpec)

/-- 'laws.FnExactCountFit', WHERE WHAT IT READS IS OF BULK AT MOST 1048576: true; the input reads as it did. -/
def fnExactCountFitUptoRow : OpenClaim := { program := "ytdijfkpccbkdfaa", sum := "88c0e2cfa866c8722f5f805803b809a4c79d77b3413c6b6920f3a99f9108a28b", func := "loop.example/plansandpromises/laws.FnExactCountFit", spec := "fnExactCountFit", unfollowed := true, recurses := true, apart := false, narrowed := true }
def FnExactCountFitUptoSaid : Prop := fnExactCountFitUptoRow.holds Try.pinned (OpenSpec.upto fnExactCountFitSpec)

/-- 'laws.FnStrongOk', WHERE WHAT IT READS IS OF BULK AT MOST 1048576: true; the input reads as it did. -/
def fnStrongOkUptoRow : OpenClaim := { program := "ytdijfkpccbkdfaa", sum := "88c0e2cfa866c8722f5f805803b809a4c79d77b3413c6b6920f3a99f9108a28b", func := "loop.example/plansandpromises/laws.FnStrongOk", spec := "fnStrongOk", unfollowed := true, recurses := true, apart := false, narrowed := true }
def FnStrongOkUptoSaid : Prop := fnStrongOkUptoRow.holds Try.pinned (OpenSpec.upto fnStrongOkSpec)

/-- 'laws.FnStrongTimes', WHERE WHAT IT READS IS OF BULK AT MOST 1048576: true; the input reads as it did. -/
def fnStrongTimesUptoRow : OpenClaim := { program := "ytdijfkpccbkdfaa", sum := "88c0e2cfa866c8722f5f805803b809a4c79d77b3413c6b6920f3a99f9108a28b", func := "loop.example/plansandpromises/laws.FnStrongTimes", spec := "fnStrongTimes", unfollowed := true, recurses := true, apart := false, narrowed := true }
def FnStrongTimesUptoSaid : Prop := fnStrongTimesUptoRow.holds Try.pinned (OpenSpec.upto fnStrongTimesSpec)

/-- 'laws.FnExactStrongTimes', WHERE WHAT IT READS IS OF BULK AT MOST 1048576: true; the input reads as it did. -/
def fnExactStrongTimesUptoRow : OpenClaim := { program := "ytdijfkpccbkdfaa", sum := "88c0e2cfa866c8722f5f805803b809a4c79d77b3413c6b6920f3a99f9108a28b", func := "loop.example/plansandpromises/laws.FnExactStrongTimes", spec := "fnExactStrongTimes", unfollowed := true, recurses := true, apart := false, narrowed := true }
def FnExactStrongTimesUptoSaid : Prop := fnExactStrongTimesUptoRow.holds Try.pinned (OpenSpec.upto fnExactStrongTimesSpec)

end Rows
end Go.Proofs.Ytdijfkpccbkdfaa
