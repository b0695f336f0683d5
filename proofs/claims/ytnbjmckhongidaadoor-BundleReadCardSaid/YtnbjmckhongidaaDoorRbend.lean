/-
  The answer on bends, cutting lengths, masses.
  Conditions: none.
-/
import Derived.Test.YtnbjmckhongidaaDoorSteel
namespace Go.Proofs.YtnbjmckhongidaaDoor
open Go Go.AM
set_option linter.unusedSimpArgs false
set_option linter.unusedVariables false
set_option maxRecDepth 100000

def pntC : Int × Int × Int → List AV
  | (a, b, c) => [.lit (.int .i64 a), .lit (.int .i64 b), .lit (.int .i64 c)]
/-- The legs as moves. -/
def movesOf (b : Bar) : List (Int × Int × Int) :=
  if b.code = 11 then [(dimAt b 0, 0, 0), (0, dimAt b 1, 0)]
  else if b.code = 21 then [(0, 0 - dimAt b 0, 0), (dimAt b 1, 0, 0), (0, dimAt b 2, 0)]
  else if b.code = 26 then [(dimAt b 0, 0, 0), (0, dimAt b 1, 0), (dimAt b 2, 0, 0)]
  else if b.code = 31 then [(dimAt b 0, 0, 0), (0, dimAt b 1, 0), (0, 0, dimAt b 2)]
  else if b.code = 41 then [(dimAt b 0, 0, 0), (0, dimAt b 1, 0), (dimAt b 2, 0, 0), (0, 0 - dimAt b 3, 0), (dimAt b 4, 0, 0)]
  else if b.code = 51 then [(0, 0 - dimAt b 2, 0), (dimAt b 0, 0, 0), (0, dimAt b 1, 0), (0 - dimAt b 0, 0, 0), (0, 0 - dimAt b 1, 0), (dimAt b 2, 0, 0)]
  else if b.code = 98 then [(0, 0, dimAt b 0), (0, 0 - dimAt b 1, 0), (dimAt b 2, 0, 0), (0, dimAt b 1, 0), (0, 0, dimAt b 0)]
  else [(dimAt b 0, 0, 0)]
def absI (n : Int) : Int := max n (0 - n)
def legAbs (s : Int × Int × Int) : Int := absI s.1 + absI s.2.1 + absI s.2.2
end Go.Proofs.YtnbjmckhongidaaDoor
