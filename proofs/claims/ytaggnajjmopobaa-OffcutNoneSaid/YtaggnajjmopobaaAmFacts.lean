/-
  Closed facts on the types of the program, as the abstract machine asks them.
  Conditions: none.
-/
import Derived.Test.YtaggnajjmopobaaAmStep
import Derived.Test.YtaggnajjmopobaaChecked
import Derived.KernelRfl
namespace Go.Proofs.Ytaggnajjmopobaa
open Go.AM
theorem am_in3 : (Try.prog.info? 3).isSome = true := by kernel_rfl
theorem am_ag3 : isAggT Try.prog 3 = some false := by kernel_rfl
theorem am_cl3 : Try.prog.cellsOf 3 = 1 := by kernel_rfl
theorem am_by3 : Try.prog.bytesOf 3 = 8 := by kernel_rfl
theorem am_ze3 : zeroCellsAV Try.prog 3 = some [.lit (.int .i64 0)] := by kernel_rfl
theorem am_ag22 : isAggT Try.prog 22 = some false := by kernel_rfl
theorem am_el22 : elemOfSlice Try.prog 22 = some 33 := by kernel_rfl
theorem am_ag28 : isAggT Try.prog 28 = some false := by kernel_rfl
theorem am_cl28 : Try.prog.cellsOf 28 = 1 := by kernel_rfl
theorem am_el28 : elemOfSlice Try.prog 28 = some 52 := by kernel_rfl
theorem am_in30 : (Try.prog.info? 30).isSome = true := by kernel_rfl
theorem am_ag30 : isAggT Try.prog 30 = some true := by kernel_rfl
theorem am_cl30 : Try.prog.cellsOf 30 = 2 := by kernel_rfl
theorem am_ze30 : zeroCellsAV Try.prog 30 = some [.lit (.int .i64 0), .lit (.slice none 0 0)] := by kernel_rfl
theorem am_fi30_0 : fieldOf Try.prog 30 0 = some (0, 3) := by kernel_rfl
theorem am_fi30_1 : fieldOf Try.prog 30 1 = some (1, 28) := by kernel_rfl
theorem am_pl30 : placesL Try.prog 30 = some [(0, 1), (1, 1)] := by kernel_rfl
theorem am_in33 : (Try.prog.info? 33).isSome = true := by kernel_rfl
theorem am_ag33 : isAggT Try.prog 33 = some true := by kernel_rfl
theorem am_cl33 : Try.prog.cellsOf 33 = 4 := by kernel_rfl
theorem am_by33 : Try.prog.bytesOf 33 = 48 := by kernel_rfl
theorem am_ze33 : zeroCellsAV Try.prog 33 = some [.lit (.int .i64 0), .lit (.int .i64 0), .lit (.int .i64 0), .lit (.slice none 0 0)] := by kernel_rfl
theorem am_fi33_0 : fieldOf Try.prog 33 0 = some (0, 3) := by kernel_rfl
theorem am_fi33_1 : fieldOf Try.prog 33 1 = some (1, 3) := by kernel_rfl
theorem am_fi33_2 : fieldOf Try.prog 33 2 = some (2, 3) := by kernel_rfl
theorem am_fi33_3 : fieldOf Try.prog 33 3 = some (3, 28) := by kernel_rfl
theorem am_mt45 : mapTy Try.prog 45 = some (.int .i64, some (.int .i64 0)) := by kernel_rfl
theorem am_em45 : elemOfSlice Try.prog 45 = none := by kernel_rfl
theorem am_ag45 : isAggT Try.prog 45 = some false := by kernel_rfl
theorem am_cl45 : Try.prog.cellsOf 45 = 1 := by kernel_rfl
theorem am_ze47 : zeroCellsAV Try.prog 47 = some [.lit (.int .i64 0), .lit (.map none)] := by kernel_rfl
theorem am_fi47_0 : fieldOf Try.prog 47 0 = some (0, 3) := by kernel_rfl
theorem am_fi47_1 : fieldOf Try.prog 47 1 = some (1, 45) := by kernel_rfl
theorem am_pl47 : placesL Try.prog 47 = some [(0, 1), (1, 1)] := by kernel_rfl
theorem am_in52 : (Try.prog.info? 52).isSome = true := by kernel_rfl
theorem am_ag52 : isAggT Try.prog 52 = some true := by kernel_rfl
theorem am_cl52 : Try.prog.cellsOf 52 = 2 := by kernel_rfl
theorem am_by52 : Try.prog.bytesOf 52 = 16 := by kernel_rfl
theorem am_ze52 : zeroCellsAV Try.prog 52 = some [.lit (.int .i64 0), .lit (.int .i64 0)] := by kernel_rfl
theorem am_fi52_0 : fieldOf Try.prog 52 0 = some (0, 3) := by kernel_rfl
theorem am_fi52_1 : fieldOf Try.prog 52 1 = some (1, 3) := by kernel_rfl
theorem am_pl52 : placesL Try.prog 52 = some [(0, 1), (1, 1)] := by kernel_rfl
theorem am_el70 : elemOfSlice Try.prog 70 = some 3 := by kernel_rfl
end Go.Proofs.Ytaggnajjmopobaa

