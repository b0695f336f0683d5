/-
  Closed facts on the types of the program, as the abstract machine asks them.
  Conditions: none.
-/
import Derived.Test.YthpjfkmhpoeojaaDoorAmStep
import Derived.Test.YthpjfkmhpoeojaaDoorChecked
import Derived.KernelRfl
namespace Go.Proofs.YthpjfkmhpoeojaaDoor
open Go.AM
theorem am_ag3 : isAggT Tryd.prog 3 = some false := by kernel_rfl
theorem am_cl3 : Tryd.prog.cellsOf 3 = 1 := by kernel_rfl
theorem am_by3 : Tryd.prog.bytesOf 3 = 8 := by kernel_rfl
theorem am_ze3 : zeroCellsAV Tryd.prog 3 = some [.lit (.int .i64 0)] := by kernel_rfl
theorem am_in4 : (Tryd.prog.info? 4).isSome = true := by kernel_rfl
theorem am_ag4 : isAggT Tryd.prog 4 = some false := by kernel_rfl
theorem am_cl4 : Tryd.prog.cellsOf 4 = 1 := by kernel_rfl
theorem am_ag5 : isAggT Tryd.prog 5 = some false := by kernel_rfl
theorem am_in9 : (Tryd.prog.info? 9).isSome = true := by kernel_rfl
theorem am_ag9 : isAggT Tryd.prog 9 = some false := by kernel_rfl
theorem am_cl9 : Tryd.prog.cellsOf 9 = 1 := by kernel_rfl
theorem am_by9 : Tryd.prog.bytesOf 9 = 16 := by kernel_rfl
theorem am_el9 : elemOfSlice Tryd.prog 9 = none := by kernel_rfl
theorem am_ze9 : zeroCellsAV Tryd.prog 9 = some [.lit (.string ByteArray.empty)] := by kernel_rfl
theorem am_ag22 : isAggT Tryd.prog 22 = some false := by kernel_rfl
theorem am_el22 : elemOfSlice Tryd.prog 22 = some 71 := by kernel_rfl
theorem am_ag23 : isAggT Tryd.prog 23 = some false := by kernel_rfl
theorem am_cl23 : Tryd.prog.cellsOf 23 = 1 := by kernel_rfl
theorem am_el23 : elemOfSlice Tryd.prog 23 = some 67 := by kernel_rfl
theorem am_ag27 : isAggT Tryd.prog 27 = some false := by kernel_rfl
theorem am_el28 : elemOfSlice Tryd.prog 28 = some 9 := by kernel_rfl
theorem am_ag31 : isAggT Tryd.prog 31 = some false := by kernel_rfl
theorem am_cl31 : Tryd.prog.cellsOf 31 = 1 := by kernel_rfl
theorem am_el31 : elemOfSlice Tryd.prog 31 = some 38 := by kernel_rfl
theorem am_in38 : (Tryd.prog.info? 38).isSome = true := by kernel_rfl
theorem am_ag38 : isAggT Tryd.prog 38 = some true := by kernel_rfl
theorem am_cl38 : Tryd.prog.cellsOf 38 = 4 := by kernel_rfl
theorem am_by38 : Tryd.prog.bytesOf 38 = 48 := by kernel_rfl
theorem am_ze38 : zeroCellsAV Tryd.prog 38 = some [.lit (.string ByteArray.empty), .lit (.string ByteArray.empty), .lit (.int .i64 0), .lit (.int .i64 0)] := by kernel_rfl
theorem am_fi38_0 : fieldOf Tryd.prog 38 0 = some (0, 9) := by kernel_rfl
theorem am_fi38_1 : fieldOf Tryd.prog 38 1 = some (1, 9) := by kernel_rfl
theorem am_fi38_2 : fieldOf Tryd.prog 38 2 = some (2, 3) := by kernel_rfl
theorem am_fi38_3 : fieldOf Tryd.prog 38 3 = some (3, 3) := by kernel_rfl
theorem am_pl38 : placesL Tryd.prog 38 = some [(0, 1), (1, 1), (2, 1), (3, 1)] := by kernel_rfl
theorem am_ag65 : isAggT Tryd.prog 65 = some false := by kernel_rfl
theorem am_cl65 : Tryd.prog.cellsOf 65 = 1 := by kernel_rfl
theorem am_el65 : elemOfSlice Tryd.prog 65 = some 3 := by kernel_rfl
theorem am_in67 : (Tryd.prog.info? 67).isSome = true := by kernel_rfl
theorem am_ag67 : isAggT Tryd.prog 67 = some true := by kernel_rfl
theorem am_cl67 : Tryd.prog.cellsOf 67 = 5 := by kernel_rfl
theorem am_by67 : Tryd.prog.bytesOf 67 = 64 := by kernel_rfl
theorem am_ze67 : zeroCellsAV Tryd.prog 67 = some [.lit (.string ByteArray.empty), .lit (.int .i64 0), .lit (.int .i64 0), .lit (.int .i64 0), .lit (.slice none 0 0)] := by kernel_rfl
theorem am_fi67_0 : fieldOf Tryd.prog 67 0 = some (0, 9) := by kernel_rfl
theorem am_fi67_1 : fieldOf Tryd.prog 67 1 = some (1, 3) := by kernel_rfl
theorem am_fi67_2 : fieldOf Tryd.prog 67 2 = some (2, 3) := by kernel_rfl
theorem am_fi67_3 : fieldOf Tryd.prog 67 3 = some (3, 3) := by kernel_rfl
theorem am_fi67_4 : fieldOf Tryd.prog 67 4 = some (4, 65) := by kernel_rfl
theorem am_pl67 : placesL Tryd.prog 67 = some [(0, 1), (1, 1), (2, 1), (3, 1), (4, 1)] := by kernel_rfl
theorem am_in71 : (Tryd.prog.info? 71).isSome = true := by kernel_rfl
theorem am_ag71 : isAggT Tryd.prog 71 = some true := by kernel_rfl
theorem am_cl71 : Tryd.prog.cellsOf 71 = 6 := by kernel_rfl
theorem am_by71 : Tryd.prog.bytesOf 71 = 104 := by kernel_rfl
theorem am_ze71 : zeroCellsAV Tryd.prog 71 = some [.lit (.int .i64 0), .lit (.int .i64 0), .lit (.string ByteArray.empty), .lit (.slice none 0 0), .lit (.slice none 0 0), .lit (.slice none 0 0)] := by kernel_rfl
theorem am_fi71_0 : fieldOf Tryd.prog 71 0 = some (0, 3) := by kernel_rfl
theorem am_fi71_1 : fieldOf Tryd.prog 71 1 = some (1, 3) := by kernel_rfl
theorem am_fi71_2 : fieldOf Tryd.prog 71 2 = some (2, 9) := by kernel_rfl
theorem am_fi71_3 : fieldOf Tryd.prog 71 3 = some (3, 31) := by kernel_rfl
theorem am_fi71_4 : fieldOf Tryd.prog 71 4 = some (4, 23) := by kernel_rfl
theorem am_fi71_5 : fieldOf Tryd.prog 71 5 = some (5, 23) := by kernel_rfl
theorem am_in74 : (Tryd.prog.info? 74).isSome = true := by kernel_rfl
theorem am_ag74 : isAggT Tryd.prog 74 = some false := by kernel_rfl
theorem am_cl74 : Tryd.prog.cellsOf 74 = 1 := by kernel_rfl
theorem am_el74 : elemOfSlice Tryd.prog 74 = some 78 := by kernel_rfl
theorem am_ze76 : zeroCellsAV Tryd.prog 76 = some [.lit (.slice none 0 0)] := by kernel_rfl
theorem am_fi76_0 : fieldOf Tryd.prog 76 0 = some (0, 74) := by kernel_rfl
theorem am_pl76 : placesL Tryd.prog 76 = some [(0, 1)] := by kernel_rfl
theorem am_in78 : (Tryd.prog.info? 78).isSome = true := by kernel_rfl
theorem am_ag78 : isAggT Tryd.prog 78 = some true := by kernel_rfl
theorem am_cl78 : Tryd.prog.cellsOf 78 = 5 := by kernel_rfl
theorem am_by78 : Tryd.prog.bytesOf 78 = 56 := by kernel_rfl
theorem am_ze78 : zeroCellsAV Tryd.prog 78 = some [.lit (.string ByteArray.empty), .lit (.string ByteArray.empty), .lit (.int .i64 0), .lit (.int .i64 0), .lit (.bool false)] := by kernel_rfl
theorem am_fi78_0 : fieldOf Tryd.prog 78 0 = some (0, 38) := by kernel_rfl
theorem am_fi78_1 : fieldOf Tryd.prog 78 1 = some (4, 4) := by kernel_rfl
theorem am_pl78 : placesL Tryd.prog 78 = some [(0, 4), (4, 1)] := by kernel_rfl
theorem am_in82 : (Tryd.prog.info? 82).isSome = true := by kernel_rfl
theorem am_cl82 : Tryd.prog.cellsOf 82 = 0 := by kernel_rfl
theorem am_ze82 : zeroCellsAV Tryd.prog 82 = some [] := by kernel_rfl
theorem am_pl82 : placesL Tryd.prog 82 = some [] := by kernel_rfl
theorem am_mt98 : mapTy Tryd.prog 98 = some (.string, some (.bool false)) := by kernel_rfl
theorem am_in130 : (Tryd.prog.info? 130).isSome = true := by kernel_rfl
theorem am_ag130 : isAggT Tryd.prog 130 = some true := by kernel_rfl
theorem am_cl130 : Tryd.prog.cellsOf 130 = 2 := by kernel_rfl
theorem am_ze130 : zeroCellsAV Tryd.prog 130 = some [.lit (.int .i64 0), .lit (.int .i64 0)] := by kernel_rfl
theorem am_fi130_0 : fieldOf Tryd.prog 130 0 = some (0, 3) := by kernel_rfl
theorem am_fi130_1 : fieldOf Tryd.prog 130 1 = some (1, 3) := by kernel_rfl
theorem am_pl130 : placesL Tryd.prog 130 = some [(0, 1), (1, 1)] := by kernel_rfl
theorem am_el142 : elemOfSlice Tryd.prog 142 = some 145 := by kernel_rfl
theorem am_in145 : (Tryd.prog.info? 145).isSome = true := by kernel_rfl
theorem am_ag145 : isAggT Tryd.prog 145 = some true := by kernel_rfl
theorem am_cl145 : Tryd.prog.cellsOf 145 = 2 := by kernel_rfl
theorem am_ze145 : zeroCellsAV Tryd.prog 145 = some [.lit (.int .i64 0), .lit (.int .u8 0)] := by kernel_rfl
theorem am_fi145_0 : fieldOf Tryd.prog 145 0 = some (0, 3) := by kernel_rfl
theorem am_pl145 : placesL Tryd.prog 145 = some [(0, 1), (1, 1)] := by kernel_rfl
end Go.Proofs.YthpjfkmhpoeojaaDoor

