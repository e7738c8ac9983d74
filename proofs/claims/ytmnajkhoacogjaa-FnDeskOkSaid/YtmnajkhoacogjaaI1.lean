/-
  impl.ImpliesOk, impl.AlikeOk.
  impl.ImpliesOk, impl.AlikeOk.
-/
import Derived.Test.YtmnajkhoacogjaaL2
import Derived.Test.YtmnajkhoacogjaaI3
import Derived.Test.YtmnajkhoacogjaaP2
namespace Go.Proofs.Ytmnajkhoacogjaa
set_option linter.unusedVariables false
set_option linter.unusedSimpArgs false
open Go.RowKit Pp

end Go.Proofs.Ytmnajkhoacogjaa
