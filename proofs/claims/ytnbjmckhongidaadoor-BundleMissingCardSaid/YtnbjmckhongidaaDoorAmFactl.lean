/-
  Closed facts on the types of the program, for the readings of arguments.
  Conditions: none.
-/
import Derived.Test.YtnbjmckhongidaaDoorAmLaw
import Derived.Test.YtnbjmckhongidaaDoorAmFactx
import Derived.Test.YtnbjmckhongidaaDoorRows
namespace Go.Proofs.YtnbjmckhongidaaDoor
open Go Go.AM
theorem am_ft42 : fieldTys Tryd.prog 42 = some [9, 3, 3, 3, 40] := by kernel_rfl
theorem am_ft46 : fieldTys Tryd.prog 46 = some [9, 9, 3, 3] := by kernel_rfl
theorem am_ft57 : fieldTys Tryd.prog 57 = some [3, 9] := by kernel_rfl
theorem am_ft65 : fieldTys Tryd.prog 65 = some [3, 3] := by kernel_rfl
theorem am_ft89 : fieldTys Tryd.prog 89 = some [86, 87] := by kernel_rfl
theorem am_ft102 : fieldTys Tryd.prog 102 = some [3, 3] := by kernel_rfl
theorem am_ft130 : fieldTys Tryd.prog 130 = some [3, 5] := by kernel_rfl
theorem am_ft152 : fieldTys Tryd.prog 152 = some [3, 3, 3] := by kernel_rfl
theorem am_ft166 : fieldTys Tryd.prog 166 = some [9, 9, 91] := by kernel_rfl
theorem am_ft172 : fieldTys Tryd.prog 172 = some [5, 5] := by kernel_rfl
theorem am_ft177 : fieldTys Tryd.prog 177 = some [9] := by kernel_rfl
theorem am_own : ownKnob Tryd.prog.godebug = none := by kernel_rfl
theorem am_laid : laidOutB Tryd.prog = true := by kernel_rfl
end Go.Proofs.YtnbjmckhongidaaDoor
