/-
  Closed facts on the types of the program, as the abstract machine asks them.
  Conditions: none.
-/
import Derived.Test.YtnbjmckhongidaaDoorAmStep
import Derived.Test.YtnbjmckhongidaaDoorChecked
import Derived.KernelRfl
namespace Go.Proofs.YtnbjmckhongidaaDoor
open Go.AM
theorem am_ag3 : isAggT Tryd.prog 3 = some false := by kernel_rfl
theorem am_cl3 : Tryd.prog.cellsOf 3 = 1 := by kernel_rfl
theorem am_by3 : Tryd.prog.bytesOf 3 = 8 := by kernel_rfl
theorem am_ze3 : zeroCellsAV Tryd.prog 3 = some [.lit (.int .i64 0)] := by kernel_rfl
theorem am_cl5 : Tryd.prog.cellsOf 5 = 1 := by kernel_rfl
theorem am_by5 : Tryd.prog.bytesOf 5 = 1 := by kernel_rfl
theorem am_ze5 : zeroCellsAV Tryd.prog 5 = some [.lit (.int .u8 0)] := by kernel_rfl
theorem am_in9 : (Tryd.prog.info? 9).isSome = true := by kernel_rfl
theorem am_ag9 : isAggT Tryd.prog 9 = some false := by kernel_rfl
theorem am_cl9 : Tryd.prog.cellsOf 9 = 1 := by kernel_rfl
theorem am_by9 : Tryd.prog.bytesOf 9 = 16 := by kernel_rfl
theorem am_el9 : elemOfSlice Tryd.prog 9 = none := by kernel_rfl
theorem am_ze9 : zeroCellsAV Tryd.prog 9 = some [.lit (.string ByteArray.empty)] := by kernel_rfl
theorem am_el22 : elemOfSlice Tryd.prog 22 = some 42 := by kernel_rfl
theorem am_ag25 : isAggT Tryd.prog 25 = some false := by kernel_rfl
theorem am_el25 : elemOfSlice Tryd.prog 25 = some 46 := by kernel_rfl
theorem am_el35 : elemOfSlice Tryd.prog 35 = some 57 := by kernel_rfl
theorem am_ag40 : isAggT Tryd.prog 40 = some false := by kernel_rfl
theorem am_cl40 : Tryd.prog.cellsOf 40 = 1 := by kernel_rfl
theorem am_el40 : elemOfSlice Tryd.prog 40 = some 3 := by kernel_rfl
theorem am_in42 : (Tryd.prog.info? 42).isSome = true := by kernel_rfl
theorem am_ag42 : isAggT Tryd.prog 42 = some true := by kernel_rfl
theorem am_cl42 : Tryd.prog.cellsOf 42 = 5 := by kernel_rfl
theorem am_ze42 : zeroCellsAV Tryd.prog 42 = some [.lit (.string ByteArray.empty), .lit (.int .i64 0), .lit (.int .i64 0), .lit (.int .i64 0), .lit (.slice none 0 0)] := by kernel_rfl
theorem am_fi42_0 : fieldOf Tryd.prog 42 0 = some (0, 9) := by kernel_rfl
theorem am_fi42_1 : fieldOf Tryd.prog 42 1 = some (1, 3) := by kernel_rfl
theorem am_fi42_2 : fieldOf Tryd.prog 42 2 = some (2, 3) := by kernel_rfl
theorem am_fi42_3 : fieldOf Tryd.prog 42 3 = some (3, 3) := by kernel_rfl
theorem am_fi42_4 : fieldOf Tryd.prog 42 4 = some (4, 40) := by kernel_rfl
theorem am_pl42 : placesL Tryd.prog 42 = some [(0, 1), (1, 1), (2, 1), (3, 1), (4, 1)] := by kernel_rfl
theorem am_in46 : (Tryd.prog.info? 46).isSome = true := by kernel_rfl
theorem am_ag46 : isAggT Tryd.prog 46 = some true := by kernel_rfl
theorem am_cl46 : Tryd.prog.cellsOf 46 = 4 := by kernel_rfl
theorem am_by46 : Tryd.prog.bytesOf 46 = 48 := by kernel_rfl
theorem am_ze46 : zeroCellsAV Tryd.prog 46 = some [.lit (.string ByteArray.empty), .lit (.string ByteArray.empty), .lit (.int .i64 0), .lit (.int .i64 0)] := by kernel_rfl
theorem am_fi46_0 : fieldOf Tryd.prog 46 0 = some (0, 9) := by kernel_rfl
theorem am_fi46_1 : fieldOf Tryd.prog 46 1 = some (1, 9) := by kernel_rfl
theorem am_fi46_2 : fieldOf Tryd.prog 46 2 = some (2, 3) := by kernel_rfl
theorem am_fi46_3 : fieldOf Tryd.prog 46 3 = some (3, 3) := by kernel_rfl
theorem am_pl46 : placesL Tryd.prog 46 = some [(0, 1), (1, 1), (2, 1), (3, 1)] := by kernel_rfl
theorem am_cl57 : Tryd.prog.cellsOf 57 = 2 := by kernel_rfl
theorem am_by57 : Tryd.prog.bytesOf 57 = 24 := by kernel_rfl
theorem am_ze57 : zeroCellsAV Tryd.prog 57 = some [.lit (.int .i64 0), .lit (.string ByteArray.empty)] := by kernel_rfl
theorem am_pl57 : placesL Tryd.prog 57 = some [(0, 1), (1, 1)] := by kernel_rfl
theorem am_in65 : (Tryd.prog.info? 65).isSome = true := by kernel_rfl
theorem am_ag65 : isAggT Tryd.prog 65 = some true := by kernel_rfl
theorem am_cl65 : Tryd.prog.cellsOf 65 = 2 := by kernel_rfl
theorem am_ze65 : zeroCellsAV Tryd.prog 65 = some [.lit (.int .i64 0), .lit (.int .i64 0)] := by kernel_rfl
theorem am_pl65 : placesL Tryd.prog 65 = some [(0, 1), (1, 1)] := by kernel_rfl
theorem am_mt75 : mapTy Tryd.prog 75 = some (.string, some (.int .i64 0)) := by kernel_rfl
theorem am_mt77 : mapTy Tryd.prog 77 = some (.string, some (.bool false)) := by kernel_rfl
theorem am_in86 : (Tryd.prog.info? 86).isSome = true := by kernel_rfl
theorem am_ag86 : isAggT Tryd.prog 86 = some false := by kernel_rfl
theorem am_cl86 : Tryd.prog.cellsOf 86 = 1 := by kernel_rfl
theorem am_in87 : (Tryd.prog.info? 87).isSome = true := by kernel_rfl
theorem am_ag87 : isAggT Tryd.prog 87 = some false := by kernel_rfl
theorem am_cl87 : Tryd.prog.cellsOf 87 = 1 := by kernel_rfl
theorem am_el87 : elemOfSlice Tryd.prog 87 = some 5 := by kernel_rfl
theorem am_ze89 : zeroCellsAV Tryd.prog 89 = some [.lit (.pointer none), .lit (.slice none 0 0)] := by kernel_rfl
theorem am_fi89_0 : fieldOf Tryd.prog 89 0 = some (0, 86) := by kernel_rfl
theorem am_fi89_1 : fieldOf Tryd.prog 89 1 = some (1, 87) := by kernel_rfl
theorem am_el95 : elemOfSlice Tryd.prog 95 = some 9 := by kernel_rfl
theorem am_in102 : (Tryd.prog.info? 102).isSome = true := by kernel_rfl
theorem am_ag102 : isAggT Tryd.prog 102 = some true := by kernel_rfl
theorem am_cl102 : Tryd.prog.cellsOf 102 = 2 := by kernel_rfl
theorem am_ze102 : zeroCellsAV Tryd.prog 102 = some [.lit (.int .i64 0), .lit (.int .i64 0)] := by kernel_rfl
theorem am_fi102_0 : fieldOf Tryd.prog 102 0 = some (0, 3) := by kernel_rfl
theorem am_fi102_1 : fieldOf Tryd.prog 102 1 = some (1, 3) := by kernel_rfl
theorem am_pl102 : placesL Tryd.prog 102 = some [(0, 1), (1, 1)] := by kernel_rfl
theorem am_el127 : elemOfSlice Tryd.prog 127 = some 130 := by kernel_rfl
theorem am_in130 : (Tryd.prog.info? 130).isSome = true := by kernel_rfl
theorem am_ag130 : isAggT Tryd.prog 130 = some true := by kernel_rfl
theorem am_cl130 : Tryd.prog.cellsOf 130 = 2 := by kernel_rfl
theorem am_ze130 : zeroCellsAV Tryd.prog 130 = some [.lit (.int .i64 0), .lit (.int .u8 0)] := by kernel_rfl
theorem am_fi130_0 : fieldOf Tryd.prog 130 0 = some (0, 3) := by kernel_rfl
theorem am_pl130 : placesL Tryd.prog 130 = some [(0, 1), (1, 1)] := by kernel_rfl
end Go.Proofs.YtnbjmckhongidaaDoor

