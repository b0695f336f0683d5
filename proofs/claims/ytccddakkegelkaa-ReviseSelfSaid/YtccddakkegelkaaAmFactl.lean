/-
  Closed facts on the types of the program, for the readings of arguments.
  Conditions: none.
-/
import Derived.Test.YtccddakkegelkaaAmLaw
import Derived.Test.YtccddakkegelkaaAmFactx
import Derived.Test.YtccddakkegelkaaRows
namespace Go.Proofs.Ytccddakkegelkaa
open Go Go.AM
theorem am_ft36 : fieldTys Try.prog 36 = some [3, 9] := by kernel_rfl
theorem am_ft43 : fieldTys Try.prog 43 = some [9, 3, 3, 3, 41] := by kernel_rfl
theorem am_ft82 : fieldTys Try.prog 82 = some [79, 80] := by kernel_rfl
theorem am_ft102 : fieldTys Try.prog 102 = some [3, 3] := by kernel_rfl
theorem am_ft127 : fieldTys Try.prog 127 = some [3, 5] := by kernel_rfl
theorem am_ft133 : fieldTys Try.prog 133 = some [3, 3, 3] := by kernel_rfl
theorem am_own : ownKnob Try.prog.godebug = none := by kernel_rfl
theorem am_laid : laidOutB Try.prog = true := by kernel_rfl
end Go.Proofs.Ytccddakkegelkaa
