/-
  Closed facts on the types of the program, for the readings of arguments.
  Conditions: none.
-/
import Derived.Test.YtaggnajjmopobaaAmLaw
import Derived.Test.YtaggnajjmopobaaAmFactx
import Derived.Test.YtaggnajjmopobaaRows
namespace Go.Proofs.Ytaggnajjmopobaa
open Go Go.AM
theorem am_ft33 : fieldTys Try.prog 33 = some [3, 3, 3, 28] := by kernel_rfl
theorem am_ft52 : fieldTys Try.prog 52 = some [3, 3] := by kernel_rfl
theorem am_own : ownKnob Try.prog.godebug = none := by kernel_rfl
theorem am_laid : laidOutB Try.prog = true := by kernel_rfl
end Go.Proofs.Ytaggnajjmopobaa
