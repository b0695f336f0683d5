/-
  Closed facts on the types of the program, for the readings of arguments.
  Conditions: none.
-/
import Derived.Test.YthpjfkmhpoeojaaDoorAmLaw
import Derived.Test.YthpjfkmhpoeojaaDoorAmFactx
import Derived.Test.YthpjfkmhpoeojaaDoorRows
namespace Go.Proofs.YthpjfkmhpoeojaaDoor
open Go Go.AM
theorem am_ft38 : fieldTys Tryd.prog 38 = some [9, 9, 3, 3] := by kernel_rfl
theorem am_ft67 : fieldTys Tryd.prog 67 = some [9, 3, 3, 3, 65] := by kernel_rfl
theorem am_ft71 : fieldTys Tryd.prog 71 = some [3, 3, 9, 31, 23, 23] := by kernel_rfl
theorem am_own : ownKnob Tryd.prog.godebug = none := by kernel_rfl
theorem am_laid : laidOutB Tryd.prog = true := by kernel_rfl
end Go.Proofs.YthpjfkmhpoeojaaDoor
