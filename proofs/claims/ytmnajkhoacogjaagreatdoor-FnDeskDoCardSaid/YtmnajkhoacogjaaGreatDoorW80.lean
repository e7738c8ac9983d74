/-
 The law of DeskOk: its draw and its walk.
-/
import Derived.Test.YtmnajkhoacogjaaGreatDoorD81
import Derived.Test.YtmnajkhoacogjaaGreatDoorL90
import Derived.Test.YtmnajkhoacogjaaGreatDoorW2
namespace Go.Proofs.YtmnajkhoacogjaaGreatDoor
set_option linter.unusedVariables false
set_option linter.unusedSimpArgs false
open Go Go.RowKit Pp

namespace Pp
/-- A drawn desk. -/
def DeskV (w w' : World) (v : Value) : Prop := ∃ A c A2 c2, ∃ d : Dk, v = .agg #[.int .i64 d.now.n, .slice A d.now.bs.length c, .slice A2 d.past.length c2] ∧ DkS d ∧ d.past.length ≤ 8 ∧ OwnB w.heap.size w' (.slice A d.now.bs.length c) d.now.bs ∧ OwnPs w.heap.size w' (.slice A2 d.past.length c2) d.past
end Pp
end Go.Proofs.YtmnajkhoacogjaaGreatDoor
