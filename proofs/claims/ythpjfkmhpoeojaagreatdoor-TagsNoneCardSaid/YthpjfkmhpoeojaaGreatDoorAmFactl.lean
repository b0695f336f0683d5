/-
  Closed facts on the types of the program, for the readings of arguments.
  Conditions: none.
-/
import Derived.Test.YthpjfkmhpoeojaaGreatDoorAmLaw
import Derived.Test.YthpjfkmhpoeojaaGreatDoorAmFactx
import Derived.Test.YthpjfkmhpoeojaaGreatDoorRows
namespace Go.Proofs.YthpjfkmhpoeojaaGreatDoor
open Go Go.AM
theorem am_ft34 : fieldTys Tryz.prog 34 = some [3, 3, 9, 27, 32, 32] := by kernel_rfl
theorem am_ft53 : fieldTys Tryz.prog 53 = some [9, 9, 3, 3] := by kernel_rfl
theorem am_ft56 : fieldTys Tryz.prog 56 = some [9, 3, 3, 3, 54] := by kernel_rfl
theorem am_own : ownKnob Tryz.prog.godebug = none := by kernel_rfl
theorem am_laid : laidOutB Tryz.prog = true := by kernel_rfl
end Go.Proofs.YthpjfkmhpoeojaaGreatDoor
