/-
  Closed facts on the types of the program, for the readings of arguments.
  Conditions: none.
-/
import Derived.Test.YtddogeicmhbidaaDoorAmLaw
import Derived.Test.YtddogeicmhbidaaDoorAmFactx
import Derived.Test.YtddogeicmhbidaaDoorRows
namespace Go.Proofs.YtddogeicmhbidaaDoor
open Go Go.AM
theorem am_ft38 : fieldTys Tryd.prog 38 = some [9, 3, 3, 3, 36] := by kernel_rfl
theorem am_ft45 : fieldTys Tryd.prog 45 = some [3, 3] := by kernel_rfl
theorem am_ft74 : fieldTys Tryd.prog 74 = some [71, 72] := by kernel_rfl
theorem am_ft91 : fieldTys Tryd.prog 91 = some [3, 3] := by kernel_rfl
theorem am_ft121 : fieldTys Tryd.prog 121 = some [3, 5] := by kernel_rfl
theorem am_own : ownKnob Tryd.prog.godebug = none := by kernel_rfl
theorem am_laid : laidOutB Tryd.prog = true := by kernel_rfl
end Go.Proofs.YtddogeicmhbidaaDoor
