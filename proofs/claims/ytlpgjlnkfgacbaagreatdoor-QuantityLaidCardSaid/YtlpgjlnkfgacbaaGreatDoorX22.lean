/-
  Part 22 of the proof: functions walked on the abstract machine.
  Conditions: none.
-/
import Derived.Test.YtlpgjlnkfgacbaaGreatDoorRows
import Derived.Test.YtlpgjlnkfgacbaaGreatDoorX21

namespace Go.Proofs.YtlpgjlnkfgacbaaGreatDoor
open Go Go.AM
theorem am_ft24 : DF Tryz.prog 24 = some [22, 22] := by kernel_rfl
theorem am_ft26 : DF Tryz.prog 26 = some [9, 24, 3, 3, 3] := by kernel_rfl
theorem am_ft32 : DF Tryz.prog 32 = some [3, 3, 3, 3, 3, 3, 3, 3, 3] := by kernel_rfl
theorem am_ft34 : DF Tryz.prog 34 = some [26, 27, 28, 29, 30, 32] := by kernel_rfl
theorem am_ft62 : DF Tryz.prog 62 = some [3, 3] := by kernel_rfl
theorem am_ft72 : DF Tryz.prog 72 = some [9, 3, 3, 3, 66] := by kernel_rfl
theorem am_ft78 : DF Tryz.prog 78 = some [3, 3] := by kernel_rfl
theorem am_ft80 : DF Tryz.prog 80 = some [3, 3, 3] := by kernel_rfl
theorem am_ft82 : DF Tryz.prog 82 = some [9, 78, 80, 80, 3] := by kernel_rfl
theorem am_ft94 : DF Tryz.prog 94 = some [3, 3] := by kernel_rfl
theorem am_ft100 : DF Tryz.prog 100 = some [80, 80] := by kernel_rfl
theorem am_ft102 : DF Tryz.prog 102 = some [9, 100, 56] := by kernel_rfl
theorem am_own : ownKnob Tryz.prog.godebug = none := by kernel_rfl
theorem am_laid : laidOutB Tryz.prog = true := by kernel_rfl
end Go.Proofs.YtlpgjlnkfgacbaaGreatDoor
