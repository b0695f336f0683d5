/-
  The abstract machine, continued: parts of strings; strings.Index and strings.Count at one byte by the kit's contracts.
  Conditions: none; generic over the program.
-/
import Derived.Test.YthiockdlhehhoaaDoorAmArr
import Derived.Test.YthiockdlhehhoaaDoorAmLib
import Derived.Shelf.Strings.Search3
import Derived.Shelf.Strings.Count
namespace Go.AM
open Go.Proofs Go.Lib Go.Shelf
set_option linter.unusedVariables false
set_option linter.unusedSimpArgs false
set_option linter.unusedSectionVars false
section rules
variable {P : Program} {s : List (Nat × AV)} {b : List (Nat × Obj)} {n t e id : Nat} {x y z : Operand} {k k' : IntKind} {i j : Int} {l : List UInt8}
end rules
end Go.AM
