/-
  Closed facts on the types of the program, as the abstract machine asks them.
  Conditions: none.
-/
import Derived.Test.YtddogeicmhbidaaGreatDoorAmStep
import Derived.Test.YtddogeicmhbidaaGreatDoorChecked
import Derived.KernelRfl
namespace Go.Proofs.YtddogeicmhbidaaGreatDoor
open Go.AM
theorem am_in3 : (Tryz.prog.info? 3).isSome = true := by kernel_rfl
theorem am_ag3 : isAggT Tryz.prog 3 = some false := by kernel_rfl
theorem am_cl3 : Tryz.prog.cellsOf 3 = 1 := by kernel_rfl
theorem am_by3 : Tryz.prog.bytesOf 3 = 8 := by kernel_rfl
theorem am_ze3 : zeroCellsAV Tryz.prog 3 = some [.lit (.int .i64 0)] := by kernel_rfl
theorem am_cl5 : Tryz.prog.cellsOf 5 = 1 := by kernel_rfl
theorem am_by5 : Tryz.prog.bytesOf 5 = 1 := by kernel_rfl
theorem am_ze5 : zeroCellsAV Tryz.prog 5 = some [.lit (.int .u8 0)] := by kernel_rfl
theorem am_in9 : (Tryz.prog.info? 9).isSome = true := by kernel_rfl
theorem am_ag9 : isAggT Tryz.prog 9 = some false := by kernel_rfl
theorem am_cl9 : Tryz.prog.cellsOf 9 = 1 := by kernel_rfl
theorem am_by9 : Tryz.prog.bytesOf 9 = 16 := by kernel_rfl
theorem am_el9 : elemOfSlice Tryz.prog 9 = none := by kernel_rfl
theorem am_ze9 : zeroCellsAV Tryz.prog 9 = some [.lit (.string ByteArray.empty)] := by kernel_rfl
theorem am_ag22 : isAggT Tryz.prog 22 = some false := by kernel_rfl
theorem am_cl22 : Tryz.prog.cellsOf 22 = 1 := by kernel_rfl
theorem am_el22 : elemOfSlice Tryz.prog 22 = some 49 := by kernel_rfl
theorem am_ze22 : zeroCellsAV Tryz.prog 22 = some [.lit (.slice none 0 0)] := by kernel_rfl
theorem am_el25 : elemOfSlice Tryz.prog 25 = some 33 := by kernel_rfl
theorem am_in33 : (Tryz.prog.info? 33).isSome = true := by kernel_rfl
theorem am_ag33 : isAggT Tryz.prog 33 = some true := by kernel_rfl
theorem am_cl33 : Tryz.prog.cellsOf 33 = 2 := by kernel_rfl
theorem am_by33 : Tryz.prog.bytesOf 33 = 16 := by kernel_rfl
theorem am_ze33 : zeroCellsAV Tryz.prog 33 = some [.lit (.int .i64 0), .lit (.int .i64 0)] := by kernel_rfl
theorem am_fi33_0 : fieldOf Tryz.prog 33 0 = some (0, 3) := by kernel_rfl
theorem am_pl33 : placesL Tryz.prog 33 = some [(0, 1), (1, 1)] := by kernel_rfl
theorem am_in40 : (Tryz.prog.info? 40).isSome = true := by kernel_rfl
theorem am_ag40 : isAggT Tryz.prog 40 = some true := by kernel_rfl
theorem am_cl40 : Tryz.prog.cellsOf 40 = 2 := by kernel_rfl
theorem am_ze40 : zeroCellsAV Tryz.prog 40 = some [.lit (.int .i64 0), .lit (.int .i64 0)] := by kernel_rfl
theorem am_pl40 : placesL Tryz.prog 40 = some [(0, 1), (1, 1)] := by kernel_rfl
theorem am_in47 : (Tryz.prog.info? 47).isSome = true := by kernel_rfl
theorem am_ag47 : isAggT Tryz.prog 47 = some false := by kernel_rfl
theorem am_cl47 : Tryz.prog.cellsOf 47 = 1 := by kernel_rfl
theorem am_el47 : elemOfSlice Tryz.prog 47 = some 3 := by kernel_rfl
theorem am_in49 : (Tryz.prog.info? 49).isSome = true := by kernel_rfl
theorem am_ag49 : isAggT Tryz.prog 49 = some true := by kernel_rfl
theorem am_cl49 : Tryz.prog.cellsOf 49 = 5 := by kernel_rfl
theorem am_by49 : Tryz.prog.bytesOf 49 = 64 := by kernel_rfl
theorem am_ze49 : zeroCellsAV Tryz.prog 49 = some [.lit (.string ByteArray.empty), .lit (.int .i64 0), .lit (.int .i64 0), .lit (.int .i64 0), .lit (.slice none 0 0)] := by kernel_rfl
theorem am_fi49_0 : fieldOf Tryz.prog 49 0 = some (0, 9) := by kernel_rfl
theorem am_fi49_1 : fieldOf Tryz.prog 49 1 = some (1, 3) := by kernel_rfl
theorem am_fi49_2 : fieldOf Tryz.prog 49 2 = some (2, 3) := by kernel_rfl
theorem am_fi49_3 : fieldOf Tryz.prog 49 3 = some (3, 3) := by kernel_rfl
theorem am_fi49_4 : fieldOf Tryz.prog 49 4 = some (4, 47) := by kernel_rfl
theorem am_pl49 : placesL Tryz.prog 49 = some [(0, 1), (1, 1), (2, 1), (3, 1), (4, 1)] := by kernel_rfl
theorem am_el53 : elemOfSlice Tryz.prog 53 = some 22 := by kernel_rfl
theorem am_mt55 : mapTy Tryz.prog 55 = some (.int .i64, some (.int .i64 0)) := by kernel_rfl
theorem am_in64 : (Tryz.prog.info? 64).isSome = true := by kernel_rfl
theorem am_ag64 : isAggT Tryz.prog 64 = some false := by kernel_rfl
theorem am_cl64 : Tryz.prog.cellsOf 64 = 1 := by kernel_rfl
theorem am_in65 : (Tryz.prog.info? 65).isSome = true := by kernel_rfl
theorem am_ag65 : isAggT Tryz.prog 65 = some false := by kernel_rfl
theorem am_cl65 : Tryz.prog.cellsOf 65 = 1 := by kernel_rfl
theorem am_el65 : elemOfSlice Tryz.prog 65 = some 5 := by kernel_rfl
theorem am_ze67 : zeroCellsAV Tryz.prog 67 = some [.lit (.pointer none), .lit (.slice none 0 0)] := by kernel_rfl
theorem am_fi67_0 : fieldOf Tryz.prog 67 0 = some (0, 64) := by kernel_rfl
theorem am_fi67_1 : fieldOf Tryz.prog 67 1 = some (1, 65) := by kernel_rfl
theorem am_el69 : elemOfSlice Tryz.prog 69 = some 9 := by kernel_rfl
theorem am_in88 : (Tryz.prog.info? 88).isSome = true := by kernel_rfl
theorem am_ag88 : isAggT Tryz.prog 88 = some true := by kernel_rfl
theorem am_cl88 : Tryz.prog.cellsOf 88 = 2 := by kernel_rfl
theorem am_ze88 : zeroCellsAV Tryz.prog 88 = some [.lit (.int .i64 0), .lit (.int .i64 0)] := by kernel_rfl
theorem am_fi88_0 : fieldOf Tryz.prog 88 0 = some (0, 3) := by kernel_rfl
theorem am_fi88_1 : fieldOf Tryz.prog 88 1 = some (1, 3) := by kernel_rfl
theorem am_pl88 : placesL Tryz.prog 88 = some [(0, 1), (1, 1)] := by kernel_rfl
theorem am_el134 : elemOfSlice Tryz.prog 134 = some 137 := by kernel_rfl
theorem am_in137 : (Tryz.prog.info? 137).isSome = true := by kernel_rfl
theorem am_ag137 : isAggT Tryz.prog 137 = some true := by kernel_rfl
theorem am_cl137 : Tryz.prog.cellsOf 137 = 2 := by kernel_rfl
theorem am_ze137 : zeroCellsAV Tryz.prog 137 = some [.lit (.int .i64 0), .lit (.int .u8 0)] := by kernel_rfl
theorem am_fi137_0 : fieldOf Tryz.prog 137 0 = some (0, 3) := by kernel_rfl
theorem am_pl137 : placesL Tryz.prog 137 = some [(0, 1), (1, 1)] := by kernel_rfl
end Go.Proofs.YtddogeicmhbidaaGreatDoor

