/-
  The package-level variables that the rows of this seat list, with their cells.
  Conditions: none.
-/
import GoSem.ClaimSeven
import Derived.Lib.ItoaNum
namespace Go.AM
def laidG : List (Nat × List Value) := []
/-- Listed variables that hold an error. -/
def laidE : List Nat := []
end Go.AM
