/-
  No cell of these rows narrows 'for every input' (looked for: loops, veiled, ifaces, maps, wideKeys, modest, calm, conditions, laid).
  DERIVED. THE GIVEN ROWS OF THIS SEAT. 12 by the template 'for every input the law returns true; each argument reads behind the call as it read before'; 0 by the template 'total and deterministic' (their statements: YtjlaljnffmncpaaTotals.lean).
  GIVEN WITH THE SEED: the statements are not yours to turn. If you find one false, say at which input.
  Laid BY PROGRAM, IN A SANDBOX (cutbox-rows.mjs): the forced cells as the released guide's own fill.sh prints them over the translation 12ae8fc6f1b73585… (all of the seat's roots in one cut). By AI agents, Wed Nov 11 2026. No macro, syntax, notation, axiom, sorry.
-/
import Derived.Test.YtjlaljnffmncpaaChecked
import GoSem.Claim
import GoSem.ClaimJoined
import GoSem.ClaimMapViews
import Derived.JoinedTies
import Derived.KernelRfl
namespace Go.Proofs.Ytjlaljnffmncpaa
/- THE CELL 'sum', in the pinned program and in every row, IS THE sha256 OF THE DUMP (.gsa) THAT YtjlaljnffmncpaaProg.lean LOADS. Nothing in Lean hashes anything: it is a label: what it is worth is what the hold of that sum in a sandbox is worth. -/
noncomputable def Try.pinned : Pinned := { name := "ytjlaljnffmncpaa", sum := "12ae8fc6f1b73585eee19742b13f9128a8c71f3ca62f6665ac3b468d797c9ce6", checked := Try.checked }
namespace Rows
def none {H : Type} : Left H := { results := [], args := [] }

/-- 'laws.FnCommonOf': WHATEVER THE INPUT: true; the input reads as it did. -/
def fnCommonOfSpec : ChangeSpec := { name := "fnCommonOf", fn := fun _ => fun
  | [d] => { results := [.lit (.bool true)], args := [d] }
  | _ => none }
def fnCommonOfRow : OpenClaim := { program := "ytjlaljnffmncpaa", sum := "12ae8fc6f1b73585eee19742b13f9128a8c71f3ca62f6665ac3b468d797c9ce6", func := "loop.example/plansandpromises/laws.FnCommonOf", spec := "fnCommonOf", unfollowed := true, recurses := true, apart := false }
def FnCommonOfSaid : Prop := fnCommonOfRow.holds Try.pinned (OpenSpec.ofChange fnCommonOfSpec)

/-- ITS FALSE NEIGHBOUR: 'it returns false'. Refute it at one input. -/
def fnCommonOfWrong : ChangeSpec := { name := "fnCommonOf", fn := fun _ => fun
  | [d] => { results := [.lit (.bool false)], args := [d] }
  | _ => none }
def FnCommonOfWrongFalsely : Prop := fnCommonOfRow.holds Try.pinned (OpenSpec.ofChange fnCommonOfWrong)

/-- 'laws.FnWideOf': WHATEVER THE INPUT: true; the input reads as it did. -/
def fnWideOfSpec : ChangeSpec := { name := "fnWideOf", fn := fun _ => fun
  | [d] => { results := [.lit (.bool true)], args := [d] }
  | _ => none }
def fnWideOfRow : OpenClaim := { program := "ytjlaljnffmncpaa", sum := "12ae8fc6f1b73585eee19742b13f9128a8c71f3ca62f6665ac3b468d797c9ce6", func := "loop.example/plansandpromises/laws.FnWideOf", spec := "fnWideOf", unfollowed := true, recurses := true, apart := false }
def FnWideOfSaid : Prop := fnWideOfRow.holds Try.pinned (OpenSpec.ofChange fnWideOfSpec)

/-- ITS FALSE NEIGHBOUR: 'it returns false'. Refute it at one input. -/
def fnWideOfWrong : ChangeSpec := { name := "fnWideOf", fn := fun _ => fun
  | [d] => { results := [.lit (.bool false)], args := [d] }
  | _ => none }
def FnWideOfWrongFalsely : Prop := fnWideOfRow.holds Try.pinned (OpenSpec.ofChange fnWideOfWrong)

/-- 'laws.FnLatestOf': WHATEVER THE INPUT: true; the input reads as it did. -/
def fnLatestOfSpec : ChangeSpec := { name := "fnLatestOf", fn := fun _ => fun
  | [d] => { results := [.lit (.bool true)], args := [d] }
  | _ => none }
def fnLatestOfRow : OpenClaim := { program := "ytjlaljnffmncpaa", sum := "12ae8fc6f1b73585eee19742b13f9128a8c71f3ca62f6665ac3b468d797c9ce6", func := "loop.example/plansandpromises/laws.FnLatestOf", spec := "fnLatestOf", unfollowed := true, recurses := true, apart := false }
def FnLatestOfSaid : Prop := fnLatestOfRow.holds Try.pinned (OpenSpec.ofChange fnLatestOfSpec)

/-- ITS FALSE NEIGHBOUR: 'it returns false'. Refute it at one input. -/
def fnLatestOfWrong : ChangeSpec := { name := "fnLatestOf", fn := fun _ => fun
  | [d] => { results := [.lit (.bool false)], args := [d] }
  | _ => none }
def FnLatestOfWrongFalsely : Prop := fnLatestOfRow.holds Try.pinned (OpenSpec.ofChange fnLatestOfWrong)

/-- 'laws.FnSetTo': WHATEVER THE INPUT: true; the input reads as it did. -/
def fnSetToSpec : ChangeSpec := { name := "fnSetTo", fn := fun _ => fun
  | [d] => { results := [.lit (.bool true)], args := [d] }
  | _ => none }
def fnSetToRow : OpenClaim := { program := "ytjlaljnffmncpaa", sum := "12ae8fc6f1b73585eee19742b13f9128a8c71f3ca62f6665ac3b468d797c9ce6", func := "loop.example/plansandpromises/laws.FnSetTo", spec := "fnSetTo", unfollowed := true, recurses := true, apart := false }
def FnSetToSaid : Prop := fnSetToRow.holds Try.pinned (OpenSpec.ofChange fnSetToSpec)

/-- ITS FALSE NEIGHBOUR: 'it returns false'. Refute it at one input. -/
def fnSetToWrong : ChangeSpec := { name := "fnSetTo", fn := fun _ => fun
  | [d] => { results := [.lit (.bool false)], args := [d] }
  | _ => none }
def FnSetToWrongFalsely : Prop := fnSetToRow.holds Try.pinned (OpenSpec.ofChange fnSetToWrong)

/-- 'laws.FnTrimmedOf': WHATEVER THE INPUT: true; the input reads as it did. -/
def fnTrimmedOfSpec : ChangeSpec := { name := "fnTrimmedOf", fn := fun _ => fun
  | [d] => { results := [.lit (.bool true)], args := [d] }
  | _ => none }
def fnTrimmedOfRow : OpenClaim := { program := "ytjlaljnffmncpaa", sum := "12ae8fc6f1b73585eee19742b13f9128a8c71f3ca62f6665ac3b468d797c9ce6", func := "loop.example/plansandpromises/laws.FnTrimmedOf", spec := "fnTrimmedOf", unfollowed := true, recurses := true, apart := false }
def FnTrimmedOfSaid : Prop := fnTrimmedOfRow.holds Try.pinned (OpenSpec.ofChange fnTrimmedOfSpec)

/-- ITS FALSE NEIGHBOUR: 'it returns false'. Refute it at one input. -/
def fnTrimmedOfWrong : ChangeSpec := { name := "fnTrimmedOf", fn := fun _ => fun
  | [d] => { results := [.lit (.bool false)], args := [d] }
  | _ => none }
def FnTrimmedOfWrongFalsely : Prop := fnTrimmedOfRow.holds Try.pinned (OpenSpec.ofChange fnTrimmedOfWrong)

/-- 'laws.FnSpareOf': WHATEVER THE INPUT: true; the input reads as it did. -/
def fnSpareOfSpec : ChangeSpec := { name := "fnSpareOf", fn := fun _ => fun
  | [d] => { results := [.lit (.bool true)], args := [d] }
  | _ => none }
def fnSpareOfRow : OpenClaim := { program := "ytjlaljnffmncpaa", sum := "12ae8fc6f1b73585eee19742b13f9128a8c71f3ca62f6665ac3b468d797c9ce6", func := "loop.example/plansandpromises/laws.FnSpareOf", spec := "fnSpareOf", unfollowed := true, recurses := true, apart := false }
def FnSpareOfSaid : Prop := fnSpareOfRow.holds Try.pinned (OpenSpec.ofChange fnSpareOfSpec)

/-- ITS FALSE NEIGHBOUR: 'it returns false'. Refute it at one input. -/
def fnSpareOfWrong : ChangeSpec := { name := "fnSpareOf", fn := fun _ => fun
  | [d] => { results := [.lit (.bool false)], args := [d] }
  | _ => none }
def FnSpareOfWrongFalsely : Prop := fnSpareOfRow.holds Try.pinned (OpenSpec.ofChange fnSpareOfWrong)

/-- 'laws.FnExactTrimmedOf': WHATEVER THE INPUT: true; the input reads as it did. -/
def fnExactTrimmedOfSpec : ChangeSpec := { name := "fnExactTrimmedOf", fn := fun _ => fun
  | [d] => { results := [.lit (.bool true)], args := [d] }
  | _ => none }
def fnExactTrimmedOfRow : OpenClaim := { program := "ytjlaljnffmncpaa", sum := "12ae8fc6f1b73585eee19742b13f9128a8c71f3ca62f6665ac3b468d797c9ce6", func := "loop.example/plansandpromises/laws.FnExactTrimmedOf", spec := "fnExactTrimmedOf", unfollowed := true, recurses := true, apart := false }
def FnExactTrimmedOfSaid : Prop := fnExactTrimmedOfRow.holds Try.pinned (OpenSpec.ofChange fnExactTrimmedOfSpec)

/-- ITS FALSE NEIGHBOUR: 'it returns false'. Refute it at one input. -/
def fnExactTrimmedOfWrong : ChangeSpec := { name := "fnExactTrimmedOf", fn := fun _ => fun
  | [d] => { results := [.lit (.bool false)], args := [d] }
  | _ => none }
def FnExactTrimmedOfWrongFalsely : Prop := fnExactTrimmedOfRow.holds Try.pinned (OpenSpec.ofChange fnExactTrimmedOfWrong)

/-- 'laws.FnImpliesOk': WHATEVER THE INPUT: true; the input reads as it did. -/
def fnImpliesOkSpec : ChangeSpec := { name := "fnImpliesOk", fn := fun _ => fun
  | [d1, d2] => { results := [.lit (.bool true)], args := [d1, d2] }
  | _ => none }
def fnImpliesOkRow : OpenClaim := { program := "ytjlaljnffmncpaa", sum := "12ae8fc6f1b73585eee19742b13f9128a8c71f3ca62f6665ac3b468d797c9ce6", func := "loop.example/plansandpromises/laws.FnImpliesOk", spec := "fnImpliesOk", unfollowed := true, recurses := true, apart := false }
def FnImpliesOkSaid : Prop := fnImpliesOkRow.holds Try.pinned (OpenSpec.ofChange fnImpliesOkSpec)

/-- ITS FALSE NEIGHBOUR: 'it returns false'. Refute it at one input. -/
def fnImpliesOkWrong : ChangeSpec := { name := "fnImpliesOk", fn := fun _ => fun
  | [d1, d2] => { results := [.lit (.bool false)], args := [d1, d2] }
  | _ => none }
def FnImpliesOkWrongFalsely : Prop := fnImpliesOkRow.holds Try.pinned (OpenSpec.ofChange fnImpliesOkWrong)

/-- 'laws.FnDoAt': WHATEVER THE INPUT: true; the input reads as it did. -/
def fnDoAtSpec : ChangeSpec := { name := "fnDoAt", fn := fun _ => fun
  | [d] => { results := [.lit (.bool true)], args := [d] }
  | _ => none }
def fnDoAtRow : OpenClaim := { program := "ytjlaljnffmncpaa", sum := "12ae8fc6f1b73585eee19742b13f9128a8c71f3ca62f6665ac3b468d797c9ce6", func := "loop.example/plansandpromises/laws.FnDoAt", spec := "fnDoAt", unfollowed := true, recurses := true, apart := false }
def FnDoAtSaid : Prop := fnDoAtRow.holds Try.pinned (OpenSpec.ofChange fnDoAtSpec)

/-- ITS FALSE NEIGHBOUR: 'it returns false'. Refute it at one input. -/
def fnDoAtWrong : ChangeSpec := { name := "fnDoAt", fn := fun _ => fun
  | [d] => { results := [.lit (.bool false)], args := [d] }
  | _ => none }
def FnDoAtWrongFalsely : Prop := fnDoAtRow.holds Try.pinned (OpenSpec.ofChange fnDoAtWrong)

/-- 'laws.FnRunOf': WHATEVER THE INPUT: true; the input reads as it did. -/
def fnRunOfSpec : ChangeSpec := { name := "fnRunOf", fn := fun _ => fun
  | [d] => { results := [.lit (.bool true)], args := [d] }
  | _ => none }
def fnRunOfRow : OpenClaim := { program := "ytjlaljnffmncpaa", sum := "12ae8fc6f1b73585eee19742b13f9128a8c71f3ca62f6665ac3b468d797c9ce6", func := "loop.example/plansandpromises/laws.FnRunOf", spec := "fnRunOf", unfollowed := true, recurses := true, apart := false }
def FnRunOfSaid : Prop := fnRunOfRow.holds Try.pinned (OpenSpec.ofChange fnRunOfSpec)

/-- ITS FALSE NEIGHBOUR: 'it returns false'. Refute it at one input. -/
def fnRunOfWrong : ChangeSpec := { name := "fnRunOf", fn := fun _ => fun
  | [d] => { results := [.lit (.bool false)], args := [d] }
  | _ => none }
def FnRunOfWrongFalsely : Prop := fnRunOfRow.holds Try.pinned (OpenSpec.ofChange fnRunOfWrong)

/-- 'laws.FnExactDoAt': WHATEVER THE INPUT: true; the input reads as it did. -/
def fnExactDoAtSpec : ChangeSpec := { name := "fnExactDoAt", fn := fun _ => fun
  | [d1, d2, d3, d4] => { results := [.lit (.bool true)], args := [d1, d2, d3, d4] }
  | _ => none }
def fnExactDoAtRow : OpenClaim := { program := "ytjlaljnffmncpaa", sum := "12ae8fc6f1b73585eee19742b13f9128a8c71f3ca62f6665ac3b468d797c9ce6", func := "loop.example/plansandpromises/laws.FnExactDoAt", spec := "fnExactDoAt", unfollowed := true, recurses := true, apart := false }
def FnExactDoAtSaid : Prop := fnExactDoAtRow.holds Try.pinned (OpenSpec.ofChange fnExactDoAtSpec)

/-- ITS FALSE NEIGHBOUR: 'it returns false'. Refute it at one input. -/
def fnExactDoAtWrong : ChangeSpec := { name := "fnExactDoAt", fn := fun _ => fun
  | [d1, d2, d3, d4] => { results := [.lit (.bool false)], args := [d1, d2, d3, d4] }
  | _ => none }
def FnExactDoAtWrongFalsely : Prop := fnExactDoAtRow.holds Try.pinned (OpenSpec.ofChange fnExactDoAtWrong)

/-- 'laws.FnExactRunOf': WHATEVER THE INPUT: true; the input reads as it did. -/
def fnExactRunOfSpec : ChangeSpec := { name := "fnExactRunOf", fn := fun _ => fun
  | [d1, d2] => { results := [.lit (.bool true)], args := [d1, d2] }
  | _ => none }
def fnExactRunOfRow : OpenClaim := { program := "ytjlaljnffmncpaa", sum := "12ae8fc6f1b73585eee19742b13f9128a8c71f3ca62f6665ac3b468d797c9ce6", func := "loop.example/plansandpromises/laws.FnExactRunOf", spec := "fnExactRunOf", unfollowed := true, recurses := true, apart := false }
def FnExactRunOfSaid : Prop := fnExactRunOfRow.holds Try.pinned (OpenSpec.ofChange fnExactRunOfSpec)

/-- ITS FALSE NEIGHBOUR: 'it returns false'. Refute it at one input. -/
def fnExactRunOfWrong : ChangeSpec := { name := "fnExactRunOf", fn := fun _ => fun
  | [d1, d2] => { results := [.lit (.bool false)], args := [d1, d2] }
  | _ => none }
def FnExactRunOfWrongFalsely : Prop := fnExactRunOfRow.holds Try.pinned (OpenSpec.ofChange fnExactRunOfWrong)

/- THE SECOND FORM. 'bulk': how many values and letters a reading holds, each counted each time it is reached (what is shared counts as often as it is met; a slice's spare places count too). A statement '..UptoSaid' is the law's where the arguments, and the package variables that the reading takes, are together of bulk at most 1048576: NARROWER than '..Said'. Prove '..Said' where nothing that the law and all that it calls make is longer than what came in: it says more and counts as full. Else prove '..UptoSaid'. A law counts once. -/
mutual
def uptoBulk {H : Type} : DataW H → Nat
  | .lit (.string bytes) => bytes.length + 1
  | .lit _ => 1
  | .nil => 1
  | .ptr d => uptoBulk d + 1
  | .slice elems spare => uptoBulkAll elems + uptoBulkAll spare + 1
  | .agg parts => uptoBulkAll parts + 1
  | .iface _ d => uptoBulk d + 1
  | .map entries => uptoBulkEntries entries + 1
  | .held _ => 1
def uptoBulkAll {H : Type} : List (DataW H) → Nat
  | [] => 0
  | d :: r => uptoBulk d + uptoBulkAll r
def uptoBulkEntries {H : Type} : List (Lit × DataW H) → Nat
  | [] => 0
  | x :: r => uptoBulkEntry x + uptoBulkEntries r
def uptoBulkEntry {H : Type} : Lit × DataW H → Nat
  | (.string bytes, d) => bytes.length + uptoBulk d + 1
  | (_, d) => uptoBulk d + 1
 end
def uptoSmall : (H : Type) → List (DataW H) → Bool := fun _ ds => decide (uptoBulkAll ds ≤ 1048576)
def OpenSpec.upto (s : _root_.Go.ChangeSpec) : _root_.Go.OpenSpec := { _root_.Go.OpenSpec.ofChange s with cond := some uptoSmall }

/-- 'laws.FnCommonOf', WHERE WHAT IT READS IS OF BULK AT MOST 1048576: true; the input reads as it did. -/
def fnCommonOfUptoRow : OpenClaim := { program := "ytjlaljnffmncpaa", sum := "12ae8fc6f1b73585eee19742b13f9128a8c71f3ca62f6665ac3b468d797c9ce6", func := "loop.example/plansandpromises/laws.FnCommonOf", spec := "fnCommonOf", unfollowed := true, recurses := true, apart := false, narrowed := true }
def FnCommonOfUptoSaid : Prop := fnCommonOfUptoRow.holds Try.pinned (OpenSpec.upto fnCommonOfSpec)

/-- 'laws.FnWideOf', WHERE WHAT IT READS IS OF BULK AT MOST 1048576: true; the input reads as it did. -/
def fnWideOfUptoRow : OpenClaim := { program := "ytjlaljnffmncpaa", sum := "12ae8fc6f1b73585eee19742b13f9128a8c71f3ca62f6665ac3b468d797c9ce6", func := "loop.example/plansandpromises/laws.FnWideOf", spec := "fnWideOf", unfollowed := true, recurses := true, apart := false, narrowed := true }
def FnWideOfUptoSaid : Prop := fnWideOfUptoRow.holds Try.pinned (OpenSpec.upto fnWideOfSpec)

/-- 'laws.FnLatestOf', WHERE WHAT IT READS IS OF BULK AT MOST 1048576: true; the input reads as it did. -/
def fnLatestOfUptoRow : OpenClaim := { program := "ytjlaljnffmncpaa", sum := "12ae8fc6f1b73585eee19742b13f9128a8c71f3ca62f6665ac3b468d797c9ce6", func := "loop.example/plansandpromises/laws.FnLatestOf", spec := "fnLatestOf", unfollowed := true, recurses := true, apart := false, narrowed := true }
def FnLatestOfUptoSaid : Prop := fnLatestOfUptoRow.holds Try.pinned (OpenSpec.upto fnLatestOfSpec)

/-- 'laws.FnSetTo', WHERE WHAT IT READS IS OF BULK AT MOST 1048576: true; the input reads as it did. -/
def fnSetToUptoRow : OpenClaim := { program := "ytjlaljnffmncpaa", sum := "12ae8fc6f1b73585eee19742b13f9128a8c71f3ca62f6665ac3b468d797c9ce6", func := "loop.example/plansandpromises/laws.FnSetTo", spec := "fnSetTo", unfollowed := true, recurses := true, apart := false, narrowed := true }
def FnSetToUptoSaid : Prop := fnSetToUptoRow.holds Try.pinned (OpenSpec.upto fnSetToSpec)

/-- 'laws.FnTrimmedOf', WHERE WHAT IT READS IS OF BULK AT MOST 1048576: true; the input reads as it did. -/
def fnTrimmedOfUptoRow : OpenClaim := { program := "ytjlaljnffmncpaa", sum := "12ae8fc6f1b73585eee19742b13f9128a8c71f3ca62f6665ac3b468d797c9ce6", func := "loop.example/plansandpromises/laws.FnTrimmedOf", spec := "fnTrimmedOf", unfollowed := true, recurses := true, apart := false, narrowed := true }
def FnTrimmedOfUptoSaid : Prop := fnTrimmedOfUptoRow.holds Try.pinned (OpenSpec.upto fnTrimmedOfSpec)

/-- 'laws.FnSpareOf', WHERE WHAT IT READS IS OF BULK AT MOST 1048576: true; the input reads as it did. -/
def fnSpareOfUptoRow : OpenClaim := { program := "ytjlaljnffmncpaa", sum := "12ae8fc6f1b73585eee19742b13f9128a8c71f3ca62f6665ac3b468d797c9ce6", func := "loop.example/plansandpromises/laws.FnSpareOf", spec := "fnSpareOf", unfollowed := true, recurses := true, apart := false, narrowed := true }
def FnSpareOfUptoSaid : Prop := fnSpareOfUptoRow.holds Try.pinned (OpenSpec.upto fnSpareOfSpec)

/-- 'laws.FnExactTrimmedOf', WHERE WHAT IT READS IS OF BULK AT MOST 1048576: true; the input reads as it did. -/
def fnExactTrimmedOfUptoRow : OpenClaim := { program := "ytjlaljnffmncpaa", sum := "12ae8fc6f1b73585eee19742b13f9128a8c71f3ca62f6665ac3b468d797c9ce6", func := "loop.example/plansandpromises/laws.FnExactTrimmedOf", spec := "fnExactTrimmedOf", unfollowed := true, recurses := true, apart := false, narrowed := true }
def FnExactTrimmedOfUptoSaid : Prop := fnExactTrimmedOfUptoRow.holds Try.pinned (OpenSpec.upto fnExactTrimmedOfSpec)

/-- 'laws.FnImpliesOk', WHERE WHAT IT READS IS OF BULK AT MOST 1048576: true; the input reads as it did. -/
def fnImpliesOkUptoRow : OpenClaim := { program := "ytjlaljnffmncpaa", sum := "12ae8fc6f1b73585eee19742b13f9128a8c71f3ca62f6665ac3b468d797c9ce6", func := "loop.example/plansandpromises/laws.FnImpliesOk", spec := "fnImpliesOk", unfollowed := true, recurses := true, apart := false, narrowed := true }
def FnImpliesOkUptoSaid : Prop := fnImpliesOkUptoRow.holds Try.pinned (OpenSpec.upto fnImpliesOkSpec)

/-- 'laws.FnDoAt', WHERE WHAT IT READS IS OF BULK AT MOST 1048576: true; the input reads as it did. -/
def fnDoAtUptoRow : OpenClaim := { program := "ytjlaljnffmncpaa", sum := "12ae8fc6f1b73585eee19742b13f9128a8c71f3ca62f6665ac3b468d797c9ce6", func := "loop.example/plansandpromises/laws.FnDoAt", spec := "fnDoAt", unfollowed := true, recurses := true, apart := false, narrowed := true }
def FnDoAtUptoSaid : Prop := fnDoAtUptoRow.holds Try.pinned (OpenSpec.upto fnDoAtSpec)

/-- 'laws.FnRunOf', WHERE WHAT IT READS IS OF BULK AT MOST 1048576: true; the input reads as it did. -/
def fnRunOfUptoRow : OpenClaim := { program := "ytjlaljnffmncpaa", sum := "12ae8fc6f1b73585eee19742b13f9128a8c71f3ca62f6665ac3b468d797c9ce6", func := "loop.example/plansandpromises/laws.FnRunOf", spec := "fnRunOf", unfollowed := true, recurses := true, apart := false, narrowed := true }
def FnRunOfUptoSaid : Prop := fnRunOfUptoRow.holds Try.pinned (OpenSpec.upto fnRunOfSpec)

/-- 'laws.FnExactDoAt', WHERE WHAT IT READS IS OF BULK AT MOST 1048576: true; the input reads as it did. -/
def fnExactDoAtUptoRow : OpenClaim := { program := "ytjlaljnffmncpaa", sum := "12ae8fc6f1b73585eee19742b13f9128a8c71f3ca62f6665ac3b468d797c9ce6", func := "loop.example/plansandpromises/laws.FnExactDoAt", spec := "fnExactDoAt", unfollowed := true, recurses := true, apart := false, narrowed := true }
def FnExactDoAtUptoSaid : Prop := fnExactDoAtUptoRow.holds Try.pinned (OpenSpec.upto fnExactDoAtSpec)

/-- 'laws.FnExactRunOf', WHERE WHAT IT READS IS OF BULK AT MOST 1048576: true; the input reads as it did. -/
def fnExactRunOfUptoRow : OpenClaim := { program := "ytjlaljnffmncpaa", sum := "12ae8fc6f1b73585eee19742b13f9128a8c71f3ca62f6665ac3b468d797c9ce6", func := "loop.example/plansandpromises/laws.FnExactRunOf", spec := "fnExactRunOf", unfollowed := true, recurses := true, apart := false, narrowed := true }
def FnExactRunOfUptoSaid : Prop := fnExactRunOfUptoRow.holds Try.pinned (OpenSpec.upto fnExactRunOfSpec)

end Rows
end Go.Proofs.Ytjlaljnffmncpaa
