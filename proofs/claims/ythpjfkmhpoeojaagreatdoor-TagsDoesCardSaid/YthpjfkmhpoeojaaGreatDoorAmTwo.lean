/-
  The abstract machine, continued: a call that hands back a value with several pieces of new memory.
  Conditions: none; generic over the program.
-/
import Derived.Test.YthpjfkmhpoeojaaGreatDoorAmAuto
import Derived.Test.YthpjfkmhpoeojaaGreatDoorAmOwn
namespace Go.AM
set_option linter.unusedVariables false
set_option linter.unusedSimpArgs false
set_option linter.unusedSectionVars false
end Go.AM
