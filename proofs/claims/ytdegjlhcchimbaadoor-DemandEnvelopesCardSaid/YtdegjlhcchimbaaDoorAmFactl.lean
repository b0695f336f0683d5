/-
  Closed facts on the types of the program, for the readings of arguments.
  Conditions: none.
-/
import Derived.Test.YtdegjlhcchimbaaDoorAmLaw
import Derived.Test.YtdegjlhcchimbaaDoorAmFactx
import Derived.Test.YtdegjlhcchimbaaDoorRows
namespace Go.Proofs.YtdegjlhcchimbaaDoor
open Go Go.AM
theorem am_ft24 : fieldTys Tryd.prog 24 = some [3, 3, 3] := by kernel_rfl
theorem am_ft26 : fieldTys Tryd.prog 26 = some [24, 24] := by kernel_rfl
theorem am_ft39 : fieldTys Tryd.prog 39 = some [3, 3] := by kernel_rfl
theorem am_ft48 : fieldTys Tryd.prog 48 = some [9, 26, 29] := by kernel_rfl
theorem am_own : ownKnob Tryd.prog.godebug = none := by kernel_rfl
theorem am_laid : laidOutB Tryd.prog = true := by kernel_rfl
end Go.Proofs.YtdegjlhcchimbaaDoor
