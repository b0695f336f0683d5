/-
  The abstract machine, continued: an element of an array's value.
  Conditions: none; generic over the program.
-/
import Derived.Test.YtccddakkegelkaaGreatDoorAmStr
import Derived.Test.YtccddakkegelkaaGreatDoorAmDraw
import Derived.Test.YtccddakkegelkaaGreatDoorAmEq
import Derived.Test.YtccddakkegelkaaGreatDoorAmRes
namespace Go.AM
set_option linter.unusedVariables false
set_option linter.unusedSimpArgs false
set_option linter.unusedSectionVars false
section rules
variable {P : Program} {s : List (Nat × AV)} {b : List (Nat × Obj)} {n t e id : Nat} {x y : Operand} {k : IntKind} {i : Int}
end rules
end Go.AM
namespace Go.AM
set_option linter.unusedVariables false
set_option linter.unusedSimpArgs false
section rules
variable {P : Program} {s : List (Nat × AV)} {b : List (Nat × Obj)} {n t e id ty d : Nat} {x y : Operand}
end rules
end Go.AM
