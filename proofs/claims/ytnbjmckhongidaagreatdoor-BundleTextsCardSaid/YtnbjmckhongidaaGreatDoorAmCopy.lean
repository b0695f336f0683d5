/-
  The abstract machine, continued: copy, at elements of one cell: from shared rows, or from a row's own part, into a part of a row of one's own.
  Conditions: none; generic over the program.
-/
import Derived.Test.YtnbjmckhongidaaGreatDoorAmDel
import Derived.Test.YtnbjmckhongidaaGreatDoorAmLate2
import Derived.Laws.CopyRow
namespace Go.AM
open Go.Proofs
set_option linter.unusedVariables false
set_option linter.unusedSimpArgs false
set_option linter.unusedSectionVars false
section
variable {P : Program} {s : List (Nat × AV)} {b : List (Nat × Obj)} {n t e r : Nat} {ops : Array Oper} {rest : List Oper} {Q : St → Prop} {d ty : Nat} {pos : String} {aft : Array Edge} {g : Option (Nat × Bool)} {x y : Operand}
end
end Go.AM
