/-
  Closed facts on the types of the program, as the abstract machine asks them.
  Conditions: none.
-/
import Derived.Test.YtnbjmckhongidaaGreatDoorAmStep
import Derived.Test.YtnbjmckhongidaaGreatDoorChecked
import Derived.KernelRfl
namespace Go.Proofs.YtnbjmckhongidaaGreatDoor
open Go.AM
theorem am_ag3 : isAggT Tryz.prog 3 = some false := by kernel_rfl
theorem am_cl3 : Tryz.prog.cellsOf 3 = 1 := by kernel_rfl
theorem am_by3 : Tryz.prog.bytesOf 3 = 8 := by kernel_rfl
theorem am_ze3 : zeroCellsAV Tryz.prog 3 = some [.lit (.int .i64 0)] := by kernel_rfl
theorem am_cl5 : Tryz.prog.cellsOf 5 = 1 := by kernel_rfl
theorem am_by5 : Tryz.prog.bytesOf 5 = 1 := by kernel_rfl
theorem am_ze5 : zeroCellsAV Tryz.prog 5 = some [.lit (.int .u8 0)] := by kernel_rfl
theorem am_in9 : (Tryz.prog.info? 9).isSome = true := by kernel_rfl
theorem am_ag9 : isAggT Tryz.prog 9 = some false := by kernel_rfl
theorem am_cl9 : Tryz.prog.cellsOf 9 = 1 := by kernel_rfl
theorem am_by9 : Tryz.prog.bytesOf 9 = 16 := by kernel_rfl
theorem am_el9 : elemOfSlice Tryz.prog 9 = none := by kernel_rfl
theorem am_ze9 : zeroCellsAV Tryz.prog 9 = some [.lit (.string ByteArray.empty)] := by kernel_rfl
theorem am_ag22 : isAggT Tryz.prog 22 = some false := by kernel_rfl
theorem am_el22 : elemOfSlice Tryz.prog 22 = some 46 := by kernel_rfl
theorem am_in31 : (Tryz.prog.info? 31).isSome = true := by kernel_rfl
theorem am_ag31 : isAggT Tryz.prog 31 = some true := by kernel_rfl
theorem am_cl31 : Tryz.prog.cellsOf 31 = 2 := by kernel_rfl
theorem am_ze31 : zeroCellsAV Tryz.prog 31 = some [.lit (.int .i64 0), .lit (.int .i64 0)] := by kernel_rfl
theorem am_pl31 : placesL Tryz.prog 31 = some [(0, 1), (1, 1)] := by kernel_rfl
theorem am_el40 : elemOfSlice Tryz.prog 40 = some 72 := by kernel_rfl
theorem am_el42 : elemOfSlice Tryz.prog 42 = some 77 := by kernel_rfl
theorem am_in46 : (Tryz.prog.info? 46).isSome = true := by kernel_rfl
theorem am_ag46 : isAggT Tryz.prog 46 = some true := by kernel_rfl
theorem am_cl46 : Tryz.prog.cellsOf 46 = 4 := by kernel_rfl
theorem am_by46 : Tryz.prog.bytesOf 46 = 48 := by kernel_rfl
theorem am_ze46 : zeroCellsAV Tryz.prog 46 = some [.lit (.string ByteArray.empty), .lit (.string ByteArray.empty), .lit (.int .i64 0), .lit (.int .i64 0)] := by kernel_rfl
theorem am_fi46_0 : fieldOf Tryz.prog 46 0 = some (0, 9) := by kernel_rfl
theorem am_fi46_1 : fieldOf Tryz.prog 46 1 = some (1, 9) := by kernel_rfl
theorem am_fi46_2 : fieldOf Tryz.prog 46 2 = some (2, 3) := by kernel_rfl
theorem am_fi46_3 : fieldOf Tryz.prog 46 3 = some (3, 3) := by kernel_rfl
theorem am_pl46 : placesL Tryz.prog 46 = some [(0, 1), (1, 1), (2, 1), (3, 1)] := by kernel_rfl
theorem am_in47 : (Tryz.prog.info? 47).isSome = true := by kernel_rfl
theorem am_ag47 : isAggT Tryz.prog 47 = some false := by kernel_rfl
theorem am_cl47 : Tryz.prog.cellsOf 47 = 1 := by kernel_rfl
theorem am_in48 : (Tryz.prog.info? 48).isSome = true := by kernel_rfl
theorem am_ag48 : isAggT Tryz.prog 48 = some false := by kernel_rfl
theorem am_cl48 : Tryz.prog.cellsOf 48 = 1 := by kernel_rfl
theorem am_el48 : elemOfSlice Tryz.prog 48 = some 5 := by kernel_rfl
theorem am_ze50 : zeroCellsAV Tryz.prog 50 = some [.lit (.pointer none), .lit (.slice none 0 0)] := by kernel_rfl
theorem am_fi50_0 : fieldOf Tryz.prog 50 0 = some (0, 47) := by kernel_rfl
theorem am_fi50_1 : fieldOf Tryz.prog 50 1 = some (1, 48) := by kernel_rfl
theorem am_el57 : elemOfSlice Tryz.prog 57 = some 9 := by kernel_rfl
theorem am_ag70 : isAggT Tryz.prog 70 = some false := by kernel_rfl
theorem am_cl70 : Tryz.prog.cellsOf 70 = 1 := by kernel_rfl
theorem am_el70 : elemOfSlice Tryz.prog 70 = some 3 := by kernel_rfl
theorem am_in72 : (Tryz.prog.info? 72).isSome = true := by kernel_rfl
theorem am_ag72 : isAggT Tryz.prog 72 = some true := by kernel_rfl
theorem am_cl72 : Tryz.prog.cellsOf 72 = 5 := by kernel_rfl
theorem am_ze72 : zeroCellsAV Tryz.prog 72 = some [.lit (.string ByteArray.empty), .lit (.int .i64 0), .lit (.int .i64 0), .lit (.int .i64 0), .lit (.slice none 0 0)] := by kernel_rfl
theorem am_fi72_0 : fieldOf Tryz.prog 72 0 = some (0, 9) := by kernel_rfl
theorem am_fi72_1 : fieldOf Tryz.prog 72 1 = some (1, 3) := by kernel_rfl
theorem am_fi72_2 : fieldOf Tryz.prog 72 2 = some (2, 3) := by kernel_rfl
theorem am_fi72_3 : fieldOf Tryz.prog 72 3 = some (3, 3) := by kernel_rfl
theorem am_fi72_4 : fieldOf Tryz.prog 72 4 = some (4, 70) := by kernel_rfl
theorem am_pl72 : placesL Tryz.prog 72 = some [(0, 1), (1, 1), (2, 1), (3, 1), (4, 1)] := by kernel_rfl
theorem am_mt75 : mapTy Tryz.prog 75 = some (.string, some (.int .i64 0)) := by kernel_rfl
theorem am_cl77 : Tryz.prog.cellsOf 77 = 2 := by kernel_rfl
theorem am_by77 : Tryz.prog.bytesOf 77 = 24 := by kernel_rfl
theorem am_ze77 : zeroCellsAV Tryz.prog 77 = some [.lit (.int .i64 0), .lit (.string ByteArray.empty)] := by kernel_rfl
theorem am_pl77 : placesL Tryz.prog 77 = some [(0, 1), (1, 1)] := by kernel_rfl
theorem am_mt78 : mapTy Tryz.prog 78 = some (.string, some (.bool false)) := by kernel_rfl
theorem am_in99 : (Tryz.prog.info? 99).isSome = true := by kernel_rfl
theorem am_ag99 : isAggT Tryz.prog 99 = some true := by kernel_rfl
theorem am_cl99 : Tryz.prog.cellsOf 99 = 2 := by kernel_rfl
theorem am_ze99 : zeroCellsAV Tryz.prog 99 = some [.lit (.int .i64 0), .lit (.int .i64 0)] := by kernel_rfl
theorem am_fi99_0 : fieldOf Tryz.prog 99 0 = some (0, 3) := by kernel_rfl
theorem am_fi99_1 : fieldOf Tryz.prog 99 1 = some (1, 3) := by kernel_rfl
theorem am_pl99 : placesL Tryz.prog 99 = some [(0, 1), (1, 1)] := by kernel_rfl
theorem am_el117 : elemOfSlice Tryz.prog 117 = some 120 := by kernel_rfl
theorem am_in120 : (Tryz.prog.info? 120).isSome = true := by kernel_rfl
theorem am_ag120 : isAggT Tryz.prog 120 = some true := by kernel_rfl
theorem am_cl120 : Tryz.prog.cellsOf 120 = 2 := by kernel_rfl
theorem am_ze120 : zeroCellsAV Tryz.prog 120 = some [.lit (.int .i64 0), .lit (.int .u8 0)] := by kernel_rfl
theorem am_fi120_0 : fieldOf Tryz.prog 120 0 = some (0, 3) := by kernel_rfl
theorem am_pl120 : placesL Tryz.prog 120 = some [(0, 1), (1, 1)] := by kernel_rfl
end Go.Proofs.YtnbjmckhongidaaGreatDoor

