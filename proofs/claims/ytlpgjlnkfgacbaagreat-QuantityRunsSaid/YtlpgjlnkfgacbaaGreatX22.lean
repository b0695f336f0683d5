/-
  Part 22 of the proof: functions walked on the abstract machine.
  Conditions: none.
-/
import Derived.Test.YtlpgjlnkfgacbaaGreatRows
import Derived.Test.YtlpgjlnkfgacbaaGreatX21

namespace Go.Proofs.YtlpgjlnkfgacbaaGreat
open Go Go.AM
theorem am_ft24 : fieldTys Tryz.prog 24 = some [22, 22] := by kernel_rfl
theorem am_ft26 : fieldTys Tryz.prog 26 = some [9, 24, 3, 3, 3] := by kernel_rfl
theorem am_ft32 : fieldTys Tryz.prog 32 = some [3, 3, 3, 3, 3, 3, 3, 3, 3] := by kernel_rfl
theorem am_ft34 : fieldTys Tryz.prog 34 = some [26, 27, 28, 29, 30, 32] := by kernel_rfl
theorem am_ft36 : fieldTys Tryz.prog 36 = some [3, 3] := by kernel_rfl
theorem am_ft38 : fieldTys Tryz.prog 38 = some [3, 3, 3] := by kernel_rfl
theorem am_ft40 : fieldTys Tryz.prog 40 = some [9, 36, 38, 38, 3] := by kernel_rfl
theorem am_ft58 : fieldTys Tryz.prog 58 = some [9, 3, 3, 3, 56] := by kernel_rfl
theorem am_ft67 : fieldTys Tryz.prog 67 = some [3, 3] := by kernel_rfl
theorem am_ft75 : fieldTys Tryz.prog 75 = some [38, 38] := by kernel_rfl
theorem am_ft77 : fieldTys Tryz.prog 77 = some [9, 75, 60] := by kernel_rfl
theorem am_ft131 : fieldTys Tryz.prog 131 = some [3, 3] := by kernel_rfl
theorem am_own : ownKnob Tryz.prog.godebug = none := by kernel_rfl
theorem am_laid : laidOutB Tryz.prog = true := by kernel_rfl
end Go.Proofs.YtlpgjlnkfgacbaaGreat
