/-
  Nothing of the reference for bends is reached.
  Conditions: none.
-/
import Derived.Test.YthpjfkmhpoeojaaDoorBend
namespace Go.Proofs.YthpjfkmhpoeojaaDoor
open Go Go.AM
set_option linter.unusedSimpArgs false
set_option linter.unusedVariables false
set_option maxRecDepth 100000
end Go.Proofs.YthpjfkmhpoeojaaDoor
