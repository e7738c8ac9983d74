/-
  No cell of these rows narrows 'for every input' (looked for: loops, veiled, ifaces, maps, wideKeys, modest, calm, conditions, laid).
  DERIVED. THE GIVEN ROWS OF THIS SEAT. 12 by the template 'for every input the law returns true; each argument reads behind the call as it read before'; 0 by the template 'total and deterministic' (their statements: YtledgblepdjjlaaTotals.lean).
  GIVEN WITH THE SEED: the statements are not yours to turn. If you find one false, say at which input.
  Laid BY PROGRAM, IN A SANDBOX (cutbox-rows.mjs): the forced cells as the released guide's own fill.sh prints them over the translation 1d8ee913878dd04b… (all of the seat's roots in one cut). By AI agents, Wed Nov 11 2026. No macro, syntax, notation, axiom, sorry.
-/
import Derived.Test.YtledgblepdjjlaaChecked
import GoSem.Claim
import GoSem.ClaimJoined
import GoSem.ClaimMapViews
import Derived.JoinedTies
import Derived.KernelRfl
namespace Go.Proofs.Ytledgblepdjjlaa
/- THE CELL 'sum', in the pinned program and in every row, IS THE sha256 OF THE DUMP (.gsa) THAT YtledgblepdjjlaaProg.lean LOADS. Nothing in Lean hashes anything: it is a label: what it is worth is what the hold of that sum in a sandbox is worth. -/
noncomputable def Try.pinned : Pinned := { name := "ytledgblepdjjlaa", sum := "1d8ee913878dd04b0529c66d1121470858450b55ceb469d3f5a6373777d92ad1", checked := Try.checked }
namespace Rows
def none {H : Type} : Left H := { results := [], args := [] }

/-- 'laws.FnExactWayOf': WHATEVER THE INPUT: true; the input reads as it did. -/
def fnExactWayOfSpec : ChangeSpec := { name := "fnExactWayOf", fn := fun _ => fun
  | [d1, d2] => { results := [.lit (.bool true)], args := [d1, d2] }
  | _ => none }
def fnExactWayOfRow : OpenClaim := { program := "ytledgblepdjjlaa", sum := "1d8ee913878dd04b0529c66d1121470858450b55ceb469d3f5a6373777d92ad1", func := "loop.example/plansandpromises/laws.FnExactWayOf", spec := "fnExactWayOf", unfollowed := true, recurses := true, apart := false }
def FnExactWayOfSaid : Prop := fnExactWayOfRow.holds Try.pinned (OpenSpec.ofChange fnExactWayOfSpec)

/-- ITS FALSE NEIGHBOUR: 'it returns false'. Refute it at one input. -/
def fnExactWayOfWrong : ChangeSpec := { name := "fnExactWayOf", fn := fun _ => fun
  | [d1, d2] => { results := [.lit (.bool false)], args := [d1, d2] }
  | _ => none }
def FnExactWayOfWrongFalsely : Prop := fnExactWayOfRow.holds Try.pinned (OpenSpec.ofChange fnExactWayOfWrong)

/-- 'laws.FnSpareOf': WHATEVER THE INPUT: true; the input reads as it did. -/
def fnSpareOfSpec : ChangeSpec := { name := "fnSpareOf", fn := fun _ => fun
  | [d] => { results := [.lit (.bool true)], args := [d] }
  | _ => none }
def fnSpareOfRow : OpenClaim := { program := "ytledgblepdjjlaa", sum := "1d8ee913878dd04b0529c66d1121470858450b55ceb469d3f5a6373777d92ad1", func := "loop.example/plansandpromises/laws.FnSpareOf", spec := "fnSpareOf", unfollowed := true, recurses := true, apart := false }
def FnSpareOfSaid : Prop := fnSpareOfRow.holds Try.pinned (OpenSpec.ofChange fnSpareOfSpec)

/-- ITS FALSE NEIGHBOUR: 'it returns false'. Refute it at one input. -/
def fnSpareOfWrong : ChangeSpec := { name := "fnSpareOf", fn := fun _ => fun
  | [d] => { results := [.lit (.bool false)], args := [d] }
  | _ => none }
def FnSpareOfWrongFalsely : Prop := fnSpareOfRow.holds Try.pinned (OpenSpec.ofChange fnSpareOfWrong)

/-- 'laws.FnWayOf': WHATEVER THE INPUT: true; the input reads as it did. -/
def fnWayOfSpec : ChangeSpec := { name := "fnWayOf", fn := fun _ => fun
  | [d] => { results := [.lit (.bool true)], args := [d] }
  | _ => none }
def fnWayOfRow : OpenClaim := { program := "ytledgblepdjjlaa", sum := "1d8ee913878dd04b0529c66d1121470858450b55ceb469d3f5a6373777d92ad1", func := "loop.example/plansandpromises/laws.FnWayOf", spec := "fnWayOf", unfollowed := true, recurses := true, apart := false }
def FnWayOfSaid : Prop := fnWayOfRow.holds Try.pinned (OpenSpec.ofChange fnWayOfSpec)

/-- ITS FALSE NEIGHBOUR: 'it returns false'. Refute it at one input. -/
def fnWayOfWrong : ChangeSpec := { name := "fnWayOf", fn := fun _ => fun
  | [d] => { results := [.lit (.bool false)], args := [d] }
  | _ => none }
def FnWayOfWrongFalsely : Prop := fnWayOfRow.holds Try.pinned (OpenSpec.ofChange fnWayOfWrong)

/-- 'laws.FnCountWays': WHATEVER THE INPUT: true; the input reads as it did. -/
def fnCountWaysSpec : ChangeSpec := { name := "fnCountWays", fn := fun _ => fun
  | [d] => { results := [.lit (.bool true)], args := [d] }
  | _ => none }
def fnCountWaysRow : OpenClaim := { program := "ytledgblepdjjlaa", sum := "1d8ee913878dd04b0529c66d1121470858450b55ceb469d3f5a6373777d92ad1", func := "loop.example/plansandpromises/laws.FnCountWays", spec := "fnCountWays", unfollowed := true, recurses := true, apart := false }
def FnCountWaysSaid : Prop := fnCountWaysRow.holds Try.pinned (OpenSpec.ofChange fnCountWaysSpec)

/-- ITS FALSE NEIGHBOUR: 'it returns false'. Refute it at one input. -/
def fnCountWaysWrong : ChangeSpec := { name := "fnCountWays", fn := fun _ => fun
  | [d] => { results := [.lit (.bool false)], args := [d] }
  | _ => none }
def FnCountWaysWrongFalsely : Prop := fnCountWaysRow.holds Try.pinned (OpenSpec.ofChange fnCountWaysWrong)

/-- 'laws.FnExactCountWays': WHATEVER THE INPUT: true; the input reads as it did. -/
def fnExactCountWaysSpec : ChangeSpec := { name := "fnExactCountWays", fn := fun _ => fun
  | [d] => { results := [.lit (.bool true)], args := [d] }
  | _ => none }
def fnExactCountWaysRow : OpenClaim := { program := "ytledgblepdjjlaa", sum := "1d8ee913878dd04b0529c66d1121470858450b55ceb469d3f5a6373777d92ad1", func := "loop.example/plansandpromises/laws.FnExactCountWays", spec := "fnExactCountWays", unfollowed := true, recurses := true, apart := false }
def FnExactCountWaysSaid : Prop := fnExactCountWaysRow.holds Try.pinned (OpenSpec.ofChange fnExactCountWaysSpec)

/-- ITS FALSE NEIGHBOUR: 'it returns false'. Refute it at one input. -/
def fnExactCountWaysWrong : ChangeSpec := { name := "fnExactCountWays", fn := fun _ => fun
  | [d] => { results := [.lit (.bool false)], args := [d] }
  | _ => none }
def FnExactCountWaysWrongFalsely : Prop := fnExactCountWaysRow.holds Try.pinned (OpenSpec.ofChange fnExactCountWaysWrong)

/-- 'laws.FnLeastSpan': WHATEVER THE INPUT: true; the input reads as it did. -/
def fnLeastSpanSpec : ChangeSpec := { name := "fnLeastSpan", fn := fun _ => fun
  | [d] => { results := [.lit (.bool true)], args := [d] }
  | _ => none }
def fnLeastSpanRow : OpenClaim := { program := "ytledgblepdjjlaa", sum := "1d8ee913878dd04b0529c66d1121470858450b55ceb469d3f5a6373777d92ad1", func := "loop.example/plansandpromises/laws.FnLeastSpan", spec := "fnLeastSpan", unfollowed := true, recurses := true, apart := false }
def FnLeastSpanSaid : Prop := fnLeastSpanRow.holds Try.pinned (OpenSpec.ofChange fnLeastSpanSpec)

/-- ITS FALSE NEIGHBOUR: 'it returns false'. Refute it at one input. -/
def fnLeastSpanWrong : ChangeSpec := { name := "fnLeastSpan", fn := fun _ => fun
  | [d] => { results := [.lit (.bool false)], args := [d] }
  | _ => none }
def FnLeastSpanWrongFalsely : Prop := fnLeastSpanRow.holds Try.pinned (OpenSpec.ofChange fnLeastSpanWrong)

/-- 'laws.FnKeepsCase': WHATEVER THE INPUT: true; the input reads as it did. -/
def fnKeepsCaseSpec : ChangeSpec := { name := "fnKeepsCase", fn := fun _ => fun
  | [d] => { results := [.lit (.bool true)], args := [d] }
  | _ => none }
def fnKeepsCaseRow : OpenClaim := { program := "ytledgblepdjjlaa", sum := "1d8ee913878dd04b0529c66d1121470858450b55ceb469d3f5a6373777d92ad1", func := "loop.example/plansandpromises/laws.FnKeepsCase", spec := "fnKeepsCase", unfollowed := true, recurses := true, apart := false }
def FnKeepsCaseSaid : Prop := fnKeepsCaseRow.holds Try.pinned (OpenSpec.ofChange fnKeepsCaseSpec)

/-- ITS FALSE NEIGHBOUR: 'it returns false'. Refute it at one input. -/
def fnKeepsCaseWrong : ChangeSpec := { name := "fnKeepsCase", fn := fun _ => fun
  | [d] => { results := [.lit (.bool false)], args := [d] }
  | _ => none }
def FnKeepsCaseWrongFalsely : Prop := fnKeepsCaseRow.holds Try.pinned (OpenSpec.ofChange fnKeepsCaseWrong)

/-- 'laws.FnExactLeastSpan': WHATEVER THE INPUT: true; the input reads as it did. -/
def fnExactLeastSpanSpec : ChangeSpec := { name := "fnExactLeastSpan", fn := fun _ => fun
  | [d1, d2, d3] => { results := [.lit (.bool true)], args := [d1, d2, d3] }
  | _ => none }
def fnExactLeastSpanRow : OpenClaim := { program := "ytledgblepdjjlaa", sum := "1d8ee913878dd04b0529c66d1121470858450b55ceb469d3f5a6373777d92ad1", func := "loop.example/plansandpromises/laws.FnExactLeastSpan", spec := "fnExactLeastSpan", unfollowed := true, recurses := true, apart := false }
def FnExactLeastSpanSaid : Prop := fnExactLeastSpanRow.holds Try.pinned (OpenSpec.ofChange fnExactLeastSpanSpec)

/-- ITS FALSE NEIGHBOUR: 'it returns false'. Refute it at one input. -/
def fnExactLeastSpanWrong : ChangeSpec := { name := "fnExactLeastSpan", fn := fun _ => fun
  | [d1, d2, d3] => { results := [.lit (.bool false)], args := [d1, d2, d3] }
  | _ => none }
def FnExactLeastSpanWrongFalsely : Prop := fnExactLeastSpanRow.holds Try.pinned (OpenSpec.ofChange fnExactLeastSpanWrong)

/-- 'laws.FnExactFirstWay': WHATEVER THE INPUT: true; the input reads as it did. -/
def fnExactFirstWaySpec : ChangeSpec := { name := "fnExactFirstWay", fn := fun _ => fun
  | [d] => { results := [.lit (.bool true)], args := [d] }
  | _ => none }
def fnExactFirstWayRow : OpenClaim := { program := "ytledgblepdjjlaa", sum := "1d8ee913878dd04b0529c66d1121470858450b55ceb469d3f5a6373777d92ad1", func := "loop.example/plansandpromises/laws.FnExactFirstWay", spec := "fnExactFirstWay", unfollowed := true, recurses := true, apart := false }
def FnExactFirstWaySaid : Prop := fnExactFirstWayRow.holds Try.pinned (OpenSpec.ofChange fnExactFirstWaySpec)

/-- ITS FALSE NEIGHBOUR: 'it returns false'. Refute it at one input. -/
def fnExactFirstWayWrong : ChangeSpec := { name := "fnExactFirstWay", fn := fun _ => fun
  | [d] => { results := [.lit (.bool false)], args := [d] }
  | _ => none }
def FnExactFirstWayWrongFalsely : Prop := fnExactFirstWayRow.holds Try.pinned (OpenSpec.ofChange fnExactFirstWayWrong)

/-- 'laws.FnFirstWay': WHATEVER THE INPUT: true; the input reads as it did. -/
def fnFirstWaySpec : ChangeSpec := { name := "fnFirstWay", fn := fun _ => fun
  | [d] => { results := [.lit (.bool true)], args := [d] }
  | _ => none }
def fnFirstWayRow : OpenClaim := { program := "ytledgblepdjjlaa", sum := "1d8ee913878dd04b0529c66d1121470858450b55ceb469d3f5a6373777d92ad1", func := "loop.example/plansandpromises/laws.FnFirstWay", spec := "fnFirstWay", unfollowed := true, recurses := true, apart := false }
def FnFirstWaySaid : Prop := fnFirstWayRow.holds Try.pinned (OpenSpec.ofChange fnFirstWaySpec)

/-- ITS FALSE NEIGHBOUR: 'it returns false'. Refute it at one input. -/
def fnFirstWayWrong : ChangeSpec := { name := "fnFirstWay", fn := fun _ => fun
  | [d] => { results := [.lit (.bool false)], args := [d] }
  | _ => none }
def FnFirstWayWrongFalsely : Prop := fnFirstWayRow.holds Try.pinned (OpenSpec.ofChange fnFirstWayWrong)

/-- 'laws.FnOptionsOf': WHATEVER THE INPUT: true; the input reads as it did. -/
def fnOptionsOfSpec : ChangeSpec := { name := "fnOptionsOf", fn := fun _ => fun
  | [d] => { results := [.lit (.bool true)], args := [d] }
  | _ => none }
def fnOptionsOfRow : OpenClaim := { program := "ytledgblepdjjlaa", sum := "1d8ee913878dd04b0529c66d1121470858450b55ceb469d3f5a6373777d92ad1", func := "loop.example/plansandpromises/laws.FnOptionsOf", spec := "fnOptionsOf", unfollowed := true, recurses := true, apart := false }
def FnOptionsOfSaid : Prop := fnOptionsOfRow.holds Try.pinned (OpenSpec.ofChange fnOptionsOfSpec)

/-- ITS FALSE NEIGHBOUR: 'it returns false'. Refute it at one input. -/
def fnOptionsOfWrong : ChangeSpec := { name := "fnOptionsOf", fn := fun _ => fun
  | [d] => { results := [.lit (.bool false)], args := [d] }
  | _ => none }
def FnOptionsOfWrongFalsely : Prop := fnOptionsOfRow.holds Try.pinned (OpenSpec.ofChange fnOptionsOfWrong)

/-- 'laws.FnExactOptionsOf': WHATEVER THE INPUT: true; the input reads as it did. -/
def fnExactOptionsOfSpec : ChangeSpec := { name := "fnExactOptionsOf", fn := fun _ => fun
  | [d1, d2] => { results := [.lit (.bool true)], args := [d1, d2] }
  | _ => none }
def fnExactOptionsOfRow : OpenClaim := { program := "ytledgblepdjjlaa", sum := "1d8ee913878dd04b0529c66d1121470858450b55ceb469d3f5a6373777d92ad1", func := "loop.example/plansandpromises/laws.FnExactOptionsOf", spec := "fnExactOptionsOf", unfollowed := true, recurses := true, apart := false }
def FnExactOptionsOfSaid : Prop := fnExactOptionsOfRow.holds Try.pinned (OpenSpec.ofChange fnExactOptionsOfSpec)

/-- ITS FALSE NEIGHBOUR: 'it returns false'. Refute it at one input. -/
def fnExactOptionsOfWrong : ChangeSpec := { name := "fnExactOptionsOf", fn := fun _ => fun
  | [d1, d2] => { results := [.lit (.bool false)], args := [d1, d2] }
  | _ => none }
def FnExactOptionsOfWrongFalsely : Prop := fnExactOptionsOfRow.holds Try.pinned (OpenSpec.ofChange fnExactOptionsOfWrong)

/- THE SECOND FORM. 'bulk': how many values and letters a reading holds, each counted each time it is reached (what is shared counts as often as it is met; a slice's spare places count too). A statement '..UptoSaid' is the law's where the arguments, and the package variables that the reading takes, are together of bulk at most 1048576: NARROWER than '..Said'. Prove '..Said' where nothing that the law and all that it calls make is longer than what came in: it says more and counts as full. Else prove '..UptoSaid'. A law counts once. -/
mutual
def uptoBulk {H : Type} : DataW H → Nat
  | .lit (.string bytes) => bytes.length + 1
  | .lit _ => 1
  | .nil => 1
  | .ptr d => uptoBulk d + 1
  | .slice elems spare => uptoBulkAll elems + uptoBulkAll spare + 1
  | .agg parts => uptoBulkAll parts + 1
  | .iface _ d => uptoBulk d + 1
  | .map entries => uptoBulkEntries entries + 1
  | .held _ => 1
def uptoBulkAll {H : Type} : List (DataW H) → Nat
  | [] => 0
  | d :: r => uptoBulk d + uptoBulkAll r
def uptoBulkEntries {H : Type} : List (Lit × DataW H) → Nat
  | [] => 0
  | x :: r => uptoBulkEntry x + uptoBulkEntries r
def uptoBulkEntry {H : Type} : Lit × DataW H → Nat
  | (.string bytes, d) => bytes.length + uptoBulk d + 1
  | (_, d) => uptoBulk d + 1
 end
def uptoSmall : (H : Type) → List (DataW H) → Bool := fun _ ds => decide (uptoBulkAll ds ≤ 1048576)
def OpenSpec.upto (s : _root_.Go.ChangeSpec) : _root_.Go.OpenSpec := { _root_.Go.OpenSpec.ofChange s with cond := some uptoSmall }

/-- 'laws.FnExactWayOf', WHERE WHAT IT READS IS OF BULK AT MOST 1048576: true; the input reads as it did. -/
def fnExactWayOfUptoRow : OpenClaim := { program := "ytledgblepdjjlaa", sum := "1d8ee913878dd04b0529c66d1121470858450b55ceb469d3f5a6373777d92ad1", func := "loop.example/plansandpromises/laws.FnExactWayOf", spec := "fnExactWayOf", unfollowed := true, recurses := true, apart := false, narrowed := true }
def FnExactWayOfUptoSaid : Prop := fnExactWayOfUptoRow.holds Try.pinned (OpenSpec.upto fnExactWayOfSpec)

/-- 'laws.FnSpareOf', WHERE WHAT IT READS IS OF BULK AT MOST 1048576: true; the input reads as it did. -/
def fnSpareOfUptoRow : OpenClaim := { program := "ytledgblepdjjlaa", sum := "1d8ee913878dd04b0529c66d1121470858450b55ceb469d3f5a6373777d92ad1", func := "loop.example/plansandpromises/laws.FnSpareOf", spec := "fnSpareOf", unfollowed := true, recurses := true, apart := false, narrowed := true }
def FnSpareOfUptoSaid : Prop := fnSpareOfUptoRow.holds Try.pinned (OpenSpec.upto fnSpareOfSpec)

/-- 'laws.FnWayOf', WHERE WHAT IT READS IS OF BULK AT MOST 1048576: true; the input reads as it did. -/
def fnWayOfUptoRow : OpenClaim := { program := "ytledgblepdjjlaa", sum := "1d8ee913878dd04b0529c66d1121470858450b55ceb469d3f5a6373777d92ad1", func := "loop.example/plansandpromises/laws.FnWayOf", spec := "fnWayOf", unfollowed := true, recurses := true, apart := false, narrowed := true }
def FnWayOfUptoSaid : Prop := fnWayOfUptoRow.holds Try.pinned (OpenSpec.upto fnWayOfSpec)

/-- 'laws.FnCountWays', WHERE WHAT IT READS IS OF BULK AT MOST 1048576: true; the input reads as it did. -/
def fnCountWaysUptoRow : OpenClaim := { program := "ytledgblepdjjlaa", sum := "1d8ee913878dd04b0529c66d1121470858450b55ceb469d3f5a6373777d92ad1", func := "loop.example/plansandpromises/laws.FnCountWays", spec := "fnCountWays", unfollowed := true, recurses := true, apart := false, narrowed := true }
def FnCountWaysUptoSaid : Prop := fnCountWaysUptoRow.holds Try.pinned (OpenSpec.upto fnCountWaysSpec)

/-- 'laws.FnExactCountWays', WHERE WHAT IT READS IS OF BULK AT MOST 1048576: true; the input reads as it did. -/
def fnExactCountWaysUptoRow : OpenClaim := { program := "ytledgblepdjjlaa", sum := "1d8ee913878dd04b0529c66d1121470858450b55ceb469d3f5a6373777d92ad1", func := "loop.example/plansandpromises/laws.FnExactCountWays", spec := "fnExactCountWays", unfollowed := true, recurses := true, apart := false, narrowed := true }
def FnExactCountWaysUptoSaid : Prop := fnExactCountWaysUptoRow.holds Try.pinned (OpenSpec.upto fnExactCountWaysSpec)

/-- 'laws.FnLeastSpan', WHERE WHAT IT READS IS OF BULK AT MOST 1048576: true; the input reads as it did. -/
def fnLeastSpanUptoRow : OpenClaim := { program := "ytledgblepdjjlaa", sum := "1d8ee913878dd04b0529c66d1121470858450b55ceb469d3f5a6373777d92ad1", func := "loop.example/plansandpromises/laws.FnLeastSpan", spec := "fnLeastSpan", unfollowed := true, recurses := true, apart := false, narrowed := true }
def FnLeastSpanUptoSaid : Prop := fnLeastSpanUptoRow.holds Try.pinned (OpenSpec.upto fnLeastSpanSpec)

/-- 'laws.FnKeepsCase', WHERE WHAT IT READS IS OF BULK AT MOST 1048576: true; the input reads as it did. -/
def fnKeepsCaseUptoRow : OpenClaim := { program := "ytledgblepdjjlaa", sum := "1d8ee913878dd04b0529c66d1121470858450b55ceb469d3f5a6373777d92ad1", func := "loop.example/plansandpromises/laws.FnKeepsCase", spec := "fnKeepsCase", unfollowed := true, recurses := true, apart := false, narrowed := true }
def FnKeepsCaseUptoSaid : Prop := fnKeepsCaseUptoRow.holds Try.pinned (OpenSpec.upto fnKeepsCaseSpec)

/-- 'laws.FnExactLeastSpan', WHERE WHAT IT READS IS OF BULK AT MOST 1048576: true; the input reads as it did. -/
def fnExactLeastSpanUptoRow : OpenClaim := { program := "ytledgblepdjjlaa", sum := "1d8ee913878dd04b0529c66d1121470858450b55ceb469d3f5a6373777d92ad1", func := "loop.example/plansandpromises/laws.FnExactLeastSpan", spec := "fnExactLeastSpan", unfollowed := true, recurses := true, apart := false, narrowed := true }
def FnExactLeastSpanUptoSaid : Prop := fnExactLeastSpanUptoRow.holds Try.pinned (OpenSpec.upto fnExactLeastSpanSpec)

/-- 'laws.FnExactFirstWay', WHERE WHAT IT READS IS OF BULK AT MOST 1048576: true; the input reads as it did. -/
def fnExactFirstWayUptoRow : OpenClaim := { program := "ytledgblepdjjlaa", sum := "1d8ee913878dd04b0529c66d1121470858450b55ceb469d3f5a6373777d92ad1", func := "loop.example/plansandpromises/laws.FnExactFirstWay", spec := "fnExactFirstWay", unfollowed := true, recurses := true, apart := false, narrowed := true }
def FnExactFirstWayUptoSaid : Prop := fnExactFirstWayUptoRow.holds Try.pinned (OpenSpec.upto fnExactFirstWaySpec)

/-- 'laws.FnFirstWay', WHERE WHAT IT READS IS OF BULK AT MOST 1048576: true; the input reads as it did. -/
def fnFirstWayUptoRow : OpenClaim := { program := "ytledgblepdjjlaa", sum := "1d8ee913878dd04b0529c66d1121470858450b55ceb469d3f5a6373777d92ad1", func := "loop.example/plansandpromises/laws.FnFirstWay", spec := "fnFirstWay", unfollowed := true, recurses := true, apart := false, narrowed := true }
def FnFirstWayUptoSaid : Prop := fnFirstWayUptoRow.holds Try.pinned (OpenSpec.upto fnFirstWaySpec)

/-- 'laws.FnOptionsOf', WHERE WHAT IT READS IS OF BULK AT MOST 1048576: true; the input reads as it did. -/
def fnOptionsOfUptoRow : OpenClaim := { program := "ytledgblepdjjlaa", sum := "1d8ee913878dd04b0529c66d1121470858450b55ceb469d3f5a6373777d92ad1", func := "loop.example/plansandpromises/laws.FnOptionsOf", spec := "fnOptionsOf", unfollowed := true, recurses := true, apart := false, narrowed := true }
def FnOptionsOfUptoSaid : Prop := fnOptionsOfUptoRow.holds Try.pinned (OpenSpec.upto fnOptionsOfSpec)

/-- 'laws.FnExactOptionsOf', WHERE WHAT IT READS IS OF BULK AT MOST 1048576: true; the input reads as it did. -/
def fnExactOptionsOfUptoRow : OpenClaim := { program := "ytledgblepdjjlaa", sum := "1d8ee913878dd04b0529c66d1121470858450b55ceb469d3f5a6373777d92ad1", func := "loop.example/plansandpromises/laws.FnExactOptionsOf", spec := "fnExactOptionsOf", unfollowed := true, recurses := true, apart := false, narrowed := true }
def FnExactOptionsOfUptoSaid : Prop := fnExactOptionsOfUptoRow.holds Try.pinned (OpenSpec.upto fnExactOptionsOfSpec)

end Rows
end Go.Proofs.Ytledgblepdjjlaa
