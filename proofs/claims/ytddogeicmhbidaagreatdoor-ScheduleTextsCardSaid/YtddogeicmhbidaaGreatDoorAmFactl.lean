/-
  Closed facts on the types of the program, for the readings of arguments.
  Conditions: none.
-/
import Derived.Test.YtddogeicmhbidaaGreatDoorAmLaw
import Derived.Test.YtddogeicmhbidaaGreatDoorAmFactx
import Derived.Test.YtddogeicmhbidaaGreatDoorRows
namespace Go.Proofs.YtddogeicmhbidaaGreatDoor
open Go Go.AM
theorem am_ft49 : fieldTys Tryz.prog 49 = some [9, 3, 3, 3, 47] := by kernel_rfl
theorem am_own : ownKnob Tryz.prog.godebug = none := by kernel_rfl
theorem am_laid : laidOutB Tryz.prog = true := by kernel_rfl
end Go.Proofs.YtddogeicmhbidaaGreatDoor
