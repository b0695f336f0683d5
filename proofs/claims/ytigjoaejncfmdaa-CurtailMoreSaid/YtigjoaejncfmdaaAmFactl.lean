/-
  Closed facts on the types of the program, for the readings of arguments.
  Conditions: none.
-/
import Derived.Test.YtigjoaejncfmdaaAmLaw
import Derived.Test.YtigjoaejncfmdaaAmFactx
import Derived.Test.YtigjoaejncfmdaaRows
namespace Go.Proofs.Ytigjoaejncfmdaa
open Go Go.AM
theorem am_ft57 : fieldTys Try.prog 57 = some [3, 3] := by kernel_rfl
theorem am_own : ownKnob Try.prog.godebug = none := by kernel_rfl
theorem am_laid : laidOutB Try.prog = true := by kernel_rfl
end Go.Proofs.Ytigjoaejncfmdaa
