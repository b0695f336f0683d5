/-
  Closed facts on the types of the program, for the readings of arguments.
  Conditions: none.
-/
import Derived.Test.YtnbjmckhongidaaGreatDoorAmLaw
import Derived.Test.YtnbjmckhongidaaGreatDoorAmFactx
import Derived.Test.YtnbjmckhongidaaGreatDoorRows
namespace Go.Proofs.YtnbjmckhongidaaGreatDoor
open Go Go.AM
theorem am_ft46 : fieldTys Tryz.prog 46 = some [9, 9, 3, 3] := by kernel_rfl
theorem am_own : ownKnob Tryz.prog.godebug = none := by kernel_rfl
theorem am_laid : laidOutB Tryz.prog = true := by kernel_rfl
end Go.Proofs.YtnbjmckhongidaaGreatDoor
