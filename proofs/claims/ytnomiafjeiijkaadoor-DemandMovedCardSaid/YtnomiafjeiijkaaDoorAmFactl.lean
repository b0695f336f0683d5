/-
  Closed facts on the types of the program, for the readings of arguments.
  Conditions: none.
-/
import Derived.Test.YtnomiafjeiijkaaDoorAmLaw
import Derived.Test.YtnomiafjeiijkaaDoorAmFactx
import Derived.Test.YtnomiafjeiijkaaDoorRows
namespace Go.Proofs.YtnomiafjeiijkaaDoor
open Go Go.AM
theorem am_ft23 : fieldTys Tryd.prog 23 = some [3, 3, 3] := by kernel_rfl
theorem am_ft25 : fieldTys Tryd.prog 25 = some [23, 23] := by kernel_rfl
theorem am_ft28 : fieldTys Tryd.prog 28 = some [9, 25, 26] := by kernel_rfl
theorem am_ft70 : fieldTys Tryd.prog 70 = some [3, 3] := by kernel_rfl
theorem am_ft150 : fieldTys Tryd.prog 150 = some [5, 5] := by kernel_rfl
theorem am_own : ownKnob Tryd.prog.godebug = none := by kernel_rfl
theorem am_laid : laidOutB Tryd.prog = true := by kernel_rfl
end Go.Proofs.YtnomiafjeiijkaaDoor
