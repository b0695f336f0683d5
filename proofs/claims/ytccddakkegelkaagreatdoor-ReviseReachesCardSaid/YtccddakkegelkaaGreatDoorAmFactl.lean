/-
  Closed facts on the types of the program, for the readings of arguments.
  Conditions: none.
-/
import Derived.Test.YtccddakkegelkaaGreatDoorAmLaw
import Derived.Test.YtccddakkegelkaaGreatDoorAmFactx
import Derived.Test.YtccddakkegelkaaGreatDoorRows
namespace Go.Proofs.YtccddakkegelkaaGreatDoor
open Go Go.AM
theorem am_ft44 : fieldTys Tryz.prog 44 = some [9, 3, 3, 3, 42] := by kernel_rfl
theorem am_own : ownKnob Tryz.prog.godebug = none := by kernel_rfl
theorem am_laid : laidOutB Tryz.prog = true := by kernel_rfl
end Go.Proofs.YtccddakkegelkaaGreatDoor
