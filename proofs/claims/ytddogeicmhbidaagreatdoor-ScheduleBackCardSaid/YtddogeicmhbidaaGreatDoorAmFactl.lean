/-
  Closed facts on the types of the program, for the readings of arguments.
  Conditions: none.
-/
import Derived.Test.YtddogeicmhbidaaGreatDoorAmLaw
import Derived.Test.YtddogeicmhbidaaGreatDoorAmFactx
import Derived.Test.YtddogeicmhbidaaGreatDoorRows
namespace Go.Proofs.YtddogeicmhbidaaGreatDoor
open Go Go.AM
theorem am_ft33 : fieldTys Tryz.prog 33 = some [3, 3] := by kernel_rfl
theorem am_ft40 : fieldTys Tryz.prog 40 = some [3, 3] := by kernel_rfl
theorem am_ft49 : fieldTys Tryz.prog 49 = some [9, 3, 3, 3, 47] := by kernel_rfl
theorem am_ft67 : fieldTys Tryz.prog 67 = some [64, 65] := by kernel_rfl
theorem am_ft88 : fieldTys Tryz.prog 88 = some [3, 3] := by kernel_rfl
theorem am_ft137 : fieldTys Tryz.prog 137 = some [3, 5] := by kernel_rfl
theorem am_ft147 : fieldTys Tryz.prog 147 = some [3, 3, 3] := by kernel_rfl
theorem am_ft187 : fieldTys Tryz.prog 187 = some [9, 9, 71] := by kernel_rfl
theorem am_ft193 : fieldTys Tryz.prog 193 = some [5, 5] := by kernel_rfl
theorem am_ft199 : fieldTys Tryz.prog 199 = some [9] := by kernel_rfl
theorem am_own : ownKnob Tryz.prog.godebug = none := by kernel_rfl
theorem am_laid : laidOutB Tryz.prog = true := by kernel_rfl
end Go.Proofs.YtddogeicmhbidaaGreatDoor
