/-
  Part 1 of the proof: the abstract machine, proved sound over the model.
  Conditions: none.
-/
import GoSem.ClaimSeven
import Derived.Lib.ItoaNum

namespace Go.AM
def laidG:List (Nat × List Value):=[(1,Go.Lib.pow10Tab.map fun z=>Value.int .u64 z)]
def laidE:List Nat:=[]
end Go.AM
