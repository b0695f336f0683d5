/-
  Closed facts on the types of the program, for the readings of arguments.
  Conditions: none.
-/
import Derived.Test.YtappnbebcjmlbaaAmLaw
import Derived.Test.YtappnbebcjmlbaaAmFactx
import Derived.Test.YtappnbebcjmlbaaRows
namespace Go.Proofs.Ytappnbebcjmlbaa
open Go Go.AM
theorem am_ft34 : fieldTys Try.prog 34 = some [3, 3] := by kernel_rfl
theorem am_ft40 : fieldTys Try.prog 40 = some [9, 3, 3, 3, 38] := by kernel_rfl
theorem am_ft50 : fieldTys Try.prog 50 = some [3, 38, 3] := by kernel_rfl
theorem am_ft63 : fieldTys Try.prog 63 = some [3, 3] := by kernel_rfl
theorem am_ft85 : fieldTys Try.prog 85 = some [3, 3] := by kernel_rfl
theorem am_ft116 : fieldTys Try.prog 116 = some [3, 5] := by kernel_rfl
theorem am_ft129 : fieldTys Try.prog 129 = some [3, 3, 3] := by kernel_rfl
theorem am_own : ownKnob Try.prog.godebug = none := by kernel_rfl
theorem am_laid : laidOutB Try.prog = true := by kernel_rfl
end Go.Proofs.Ytappnbebcjmlbaa
