/-
  Closed facts on the types of the program, for the readings of arguments.
  Conditions: none.
-/
import Derived.Test.YthiockdlhehhoaaDoorAmLaw
import Derived.Test.YthiockdlhehhoaaDoorAmFactx
import Derived.Test.YthiockdlhehhoaaDoorRows
namespace Go.Proofs.YthiockdlhehhoaaDoor
open Go Go.AM
theorem am_ft24 : fieldTys Tryd.prog 24 = some [3, 3, 3] := by kernel_rfl
theorem am_ft26 : fieldTys Tryd.prog 26 = some [24, 24] := by kernel_rfl
theorem am_ft40 : fieldTys Tryd.prog 40 = some [3, 3] := by kernel_rfl
theorem am_ft42 : fieldTys Tryd.prog 42 = some [9, 26, 31] := by kernel_rfl
theorem am_own : ownKnob Tryd.prog.godebug = none := by kernel_rfl
theorem am_laid : laidOutB Tryd.prog = true := by kernel_rfl
end Go.Proofs.YthiockdlhehhoaaDoor
