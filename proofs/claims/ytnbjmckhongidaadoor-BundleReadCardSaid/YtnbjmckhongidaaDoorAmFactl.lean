/-
  Closed facts on the types of the program, for the readings of arguments.
  Conditions: none.
-/
import Derived.Test.YtnbjmckhongidaaDoorAmLaw
import Derived.Test.YtnbjmckhongidaaDoorAmFactx
import Derived.Test.YtnbjmckhongidaaDoorRows
namespace Go.Proofs.YtnbjmckhongidaaDoor
open Go Go.AM
theorem am_ft46 : fieldTys Tryd.prog 46 = some [9, 9, 3, 3] := by kernel_rfl
theorem am_own : ownKnob Tryd.prog.godebug = none := by kernel_rfl
theorem am_laid : laidOutB Tryd.prog = true := by kernel_rfl
end Go.Proofs.YtnbjmckhongidaaDoor
