/-
  Decimal numerals of the answer.
  Conditions: none.
-/
import Derived.Test.YtnbjmckhongidaaDoorBd1
import Derived.Test.YtnbjmckhongidaaDoorAmBld
namespace Go.Proofs.YtnbjmckhongidaaDoor
open Go Go.AM
set_option linter.unusedSimpArgs false
set_option linter.unusedVariables false
set_option maxRecDepth 100000
set_option maxHeartbeats 1000000

end Go.Proofs.YtnbjmckhongidaaDoor
