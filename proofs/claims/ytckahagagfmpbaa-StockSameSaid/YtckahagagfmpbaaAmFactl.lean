/-
  Closed facts on the types of the program, for the readings of arguments.
  Conditions: none.
-/
import Derived.Test.YtckahagagfmpbaaAmLaw
import Derived.Test.YtckahagagfmpbaaAmFactx
import Derived.Test.YtckahagagfmpbaaRows
namespace Go.Proofs.Ytckahagagfmpbaa
open Go Go.AM
theorem am_ft37 : fieldTys Try.prog 37 = some [3, 3] := by kernel_rfl
theorem am_ft40 : fieldTys Try.prog 40 = some [3, 3] := by kernel_rfl
theorem am_own : ownKnob Try.prog.godebug = none := by kernel_rfl
theorem am_laid : laidOutB Try.prog = true := by kernel_rfl
end Go.Proofs.Ytckahagagfmpbaa
