/-
  Closed facts on the types of the program, for the readings of arguments.
  Conditions: none.
-/
import Derived.Test.YthpjfkmhpoeojaaDoorAmLaw
import Derived.Test.YthpjfkmhpoeojaaDoorAmFactx
import Derived.Test.YthpjfkmhpoeojaaDoorRows
namespace Go.Proofs.YthpjfkmhpoeojaaDoor
open Go Go.AM
theorem am_ft38 : fieldTys Tryd.prog 38 = some [9, 9, 3, 3] := by kernel_rfl
theorem am_ft67 : fieldTys Tryd.prog 67 = some [9, 3, 3, 3, 65] := by kernel_rfl
theorem am_ft71 : fieldTys Tryd.prog 71 = some [3, 3, 9, 31, 23, 23] := by kernel_rfl
theorem am_ft76 : fieldTys Tryd.prog 76 = some [74] := by kernel_rfl
theorem am_ft78 : fieldTys Tryd.prog 78 = some [38, 4] := by kernel_rfl
theorem am_ft96 : fieldTys Tryd.prog 96 = some [3, 9] := by kernel_rfl
theorem am_ft130 : fieldTys Tryd.prog 130 = some [3, 3] := by kernel_rfl
theorem am_ft145 : fieldTys Tryd.prog 145 = some [3, 5] := by kernel_rfl
theorem am_own : ownKnob Tryd.prog.godebug = none := by kernel_rfl
theorem am_laid : laidOutB Tryd.prog = true := by kernel_rfl
end Go.Proofs.YthpjfkmhpoeojaaDoor
