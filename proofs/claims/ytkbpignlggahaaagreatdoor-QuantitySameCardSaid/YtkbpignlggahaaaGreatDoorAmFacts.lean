/-
  Closed facts on the types of the program, as the abstract machine asks them.
  Conditions: none.
-/
import Derived.Test.YtkbpignlggahaaaGreatDoorAmStep
import Derived.Test.YtkbpignlggahaaaGreatDoorChecked
import Derived.KernelRfl
namespace Go.Proofs.YtkbpignlggahaaaGreatDoor
open Go.AM
theorem am_in3 : (Tryz.prog.info? 3).isSome = true := by kernel_rfl
theorem am_ag3 : isAggT Tryz.prog 3 = some false := by kernel_rfl
theorem am_cl3 : Tryz.prog.cellsOf 3 = 1 := by kernel_rfl
theorem am_by3 : Tryz.prog.bytesOf 3 = 8 := by kernel_rfl
theorem am_ze3 : zeroCellsAV Tryz.prog 3 = some [.lit (.int .i64 0)] := by kernel_rfl
theorem am_in4 : (Tryz.prog.info? 4).isSome = true := by kernel_rfl
theorem am_ag4 : isAggT Tryz.prog 4 = some false := by kernel_rfl
theorem am_cl4 : Tryz.prog.cellsOf 4 = 1 := by kernel_rfl
theorem am_ag5 : isAggT Tryz.prog 5 = some false := by kernel_rfl
theorem am_cl5 : Tryz.prog.cellsOf 5 = 1 := by kernel_rfl
theorem am_ag9 : isAggT Tryz.prog 9 = some false := by kernel_rfl
theorem am_cl9 : Tryz.prog.cellsOf 9 = 1 := by kernel_rfl
theorem am_el9 : elemOfSlice Tryz.prog 9 = none := by kernel_rfl
theorem am_ag22 : isAggT Tryz.prog 22 = some false := by kernel_rfl
theorem am_cl22 : Tryz.prog.cellsOf 22 = 1 := by kernel_rfl
theorem am_el22 : elemOfSlice Tryz.prog 22 = some 100 := by kernel_rfl
theorem am_ag24 : isAggT Tryz.prog 24 = some true := by kernel_rfl
theorem am_cl24 : Tryz.prog.cellsOf 24 = 2 := by kernel_rfl
theorem am_fi24_0 : fieldOf Tryz.prog 24 0 = some (0, 22) := by kernel_rfl
theorem am_fi24_1 : fieldOf Tryz.prog 24 1 = some (1, 22) := by kernel_rfl
theorem am_ag26 : isAggT Tryz.prog 26 = some true := by kernel_rfl
theorem am_cl26 : Tryz.prog.cellsOf 26 = 6 := by kernel_rfl
theorem am_fi26_0 : fieldOf Tryz.prog 26 0 = some (0, 9) := by kernel_rfl
theorem am_fi26_1 : fieldOf Tryz.prog 26 1 = some (1, 24) := by kernel_rfl
theorem am_fi26_2 : fieldOf Tryz.prog 26 2 = some (3, 3) := by kernel_rfl
theorem am_fi26_3 : fieldOf Tryz.prog 26 3 = some (4, 3) := by kernel_rfl
theorem am_fi26_4 : fieldOf Tryz.prog 26 4 = some (5, 3) := by kernel_rfl
theorem am_ag27 : isAggT Tryz.prog 27 = some false := by kernel_rfl
theorem am_cl27 : Tryz.prog.cellsOf 27 = 1 := by kernel_rfl
theorem am_el27 : elemOfSlice Tryz.prog 27 = some 72 := by kernel_rfl
theorem am_ag28 : isAggT Tryz.prog 28 = some false := by kernel_rfl
theorem am_cl28 : Tryz.prog.cellsOf 28 = 1 := by kernel_rfl
theorem am_el28 : elemOfSlice Tryz.prog 28 = some 82 := by kernel_rfl
theorem am_ag29 : isAggT Tryz.prog 29 = some false := by kernel_rfl
theorem am_cl29 : Tryz.prog.cellsOf 29 = 1 := by kernel_rfl
theorem am_el29 : elemOfSlice Tryz.prog 29 = some 94 := by kernel_rfl
theorem am_ag30 : isAggT Tryz.prog 30 = some false := by kernel_rfl
theorem am_cl30 : Tryz.prog.cellsOf 30 = 1 := by kernel_rfl
theorem am_el30 : elemOfSlice Tryz.prog 30 = some 102 := by kernel_rfl
theorem am_ag32 : isAggT Tryz.prog 32 = some true := by kernel_rfl
theorem am_cl32 : Tryz.prog.cellsOf 32 = 9 := by kernel_rfl
theorem am_fi32_0 : fieldOf Tryz.prog 32 0 = some (0, 3) := by kernel_rfl
theorem am_fi32_1 : fieldOf Tryz.prog 32 1 = some (1, 3) := by kernel_rfl
theorem am_fi32_2 : fieldOf Tryz.prog 32 2 = some (2, 3) := by kernel_rfl
theorem am_fi32_3 : fieldOf Tryz.prog 32 3 = some (3, 3) := by kernel_rfl
theorem am_fi32_4 : fieldOf Tryz.prog 32 4 = some (4, 3) := by kernel_rfl
theorem am_fi32_5 : fieldOf Tryz.prog 32 5 = some (5, 3) := by kernel_rfl
theorem am_fi32_6 : fieldOf Tryz.prog 32 6 = some (6, 3) := by kernel_rfl
theorem am_fi32_7 : fieldOf Tryz.prog 32 7 = some (7, 3) := by kernel_rfl
theorem am_fi32_8 : fieldOf Tryz.prog 32 8 = some (8, 3) := by kernel_rfl
theorem am_ag34 : isAggT Tryz.prog 34 = some true := by kernel_rfl
theorem am_cl34 : Tryz.prog.cellsOf 34 = 19 := by kernel_rfl
theorem am_fi34_0 : fieldOf Tryz.prog 34 0 = some (0, 26) := by kernel_rfl
theorem am_fi34_1 : fieldOf Tryz.prog 34 1 = some (6, 27) := by kernel_rfl
theorem am_fi34_2 : fieldOf Tryz.prog 34 2 = some (7, 28) := by kernel_rfl
theorem am_fi34_3 : fieldOf Tryz.prog 34 3 = some (8, 29) := by kernel_rfl
theorem am_fi34_4 : fieldOf Tryz.prog 34 4 = some (9, 30) := by kernel_rfl
theorem am_fi34_5 : fieldOf Tryz.prog 34 5 = some (10, 32) := by kernel_rfl
theorem am_el37 : elemOfSlice Tryz.prog 37 = some 54 := by kernel_rfl
theorem am_cl54 : Tryz.prog.cellsOf 54 = 2 := by kernel_rfl
theorem am_by54 : Tryz.prog.bytesOf 54 = 24 := by kernel_rfl
theorem am_ze54 : zeroCellsAV Tryz.prog 54 = some [.lit (.int .i64 0), .lit (.string ByteArray.empty)] := by kernel_rfl
theorem am_pl54 : placesL Tryz.prog 54 = some [(0, 1), (1, 1)] := by kernel_rfl
theorem am_ag56 : isAggT Tryz.prog 56 = some false := by kernel_rfl
theorem am_cl56 : Tryz.prog.cellsOf 56 = 1 := by kernel_rfl
theorem am_el56 : elemOfSlice Tryz.prog 56 = some 62 := by kernel_rfl
theorem am_in62 : (Tryz.prog.info? 62).isSome = true := by kernel_rfl
theorem am_ag62 : isAggT Tryz.prog 62 = some true := by kernel_rfl
theorem am_cl62 : Tryz.prog.cellsOf 62 = 2 := by kernel_rfl
theorem am_by62 : Tryz.prog.bytesOf 62 = 16 := by kernel_rfl
theorem am_ze62 : zeroCellsAV Tryz.prog 62 = some [.lit (.int .i64 0), .lit (.int .i64 0)] := by kernel_rfl
theorem am_fi62_0 : fieldOf Tryz.prog 62 0 = some (0, 3) := by kernel_rfl
theorem am_fi62_1 : fieldOf Tryz.prog 62 1 = some (1, 3) := by kernel_rfl
theorem am_pl62 : placesL Tryz.prog 62 = some [(0, 1), (1, 1)] := by kernel_rfl
theorem am_ag66 : isAggT Tryz.prog 66 = some false := by kernel_rfl
theorem am_cl66 : Tryz.prog.cellsOf 66 = 1 := by kernel_rfl
theorem am_el66 : elemOfSlice Tryz.prog 66 = some 3 := by kernel_rfl
theorem am_in72 : (Tryz.prog.info? 72).isSome = true := by kernel_rfl
theorem am_ag72 : isAggT Tryz.prog 72 = some true := by kernel_rfl
theorem am_cl72 : Tryz.prog.cellsOf 72 = 5 := by kernel_rfl
theorem am_by72 : Tryz.prog.bytesOf 72 = 64 := by kernel_rfl
theorem am_ze72 : zeroCellsAV Tryz.prog 72 = some [.lit (.string ByteArray.empty), .lit (.int .i64 0), .lit (.int .i64 0), .lit (.int .i64 0), .lit (.slice none 0 0)] := by kernel_rfl
theorem am_fi72_0 : fieldOf Tryz.prog 72 0 = some (0, 9) := by kernel_rfl
theorem am_fi72_1 : fieldOf Tryz.prog 72 1 = some (1, 3) := by kernel_rfl
theorem am_fi72_2 : fieldOf Tryz.prog 72 2 = some (2, 3) := by kernel_rfl
theorem am_fi72_3 : fieldOf Tryz.prog 72 3 = some (3, 3) := by kernel_rfl
theorem am_fi72_4 : fieldOf Tryz.prog 72 4 = some (4, 66) := by kernel_rfl
theorem am_pl72 : placesL Tryz.prog 72 = some [(0, 1), (1, 1), (2, 1), (3, 1), (4, 1)] := by kernel_rfl
theorem am_mt76 : mapTy Tryz.prog 76 = some (.string, some (.int .i64 0)) := by kernel_rfl
theorem am_ag78 : isAggT Tryz.prog 78 = some true := by kernel_rfl
theorem am_cl78 : Tryz.prog.cellsOf 78 = 2 := by kernel_rfl
theorem am_fi78_0 : fieldOf Tryz.prog 78 0 = some (0, 3) := by kernel_rfl
theorem am_fi78_1 : fieldOf Tryz.prog 78 1 = some (1, 3) := by kernel_rfl
theorem am_in80 : (Tryz.prog.info? 80).isSome = true := by kernel_rfl
theorem am_ag80 : isAggT Tryz.prog 80 = some true := by kernel_rfl
theorem am_cl80 : Tryz.prog.cellsOf 80 = 3 := by kernel_rfl
theorem am_by80 : Tryz.prog.bytesOf 80 = 24 := by kernel_rfl
theorem am_ze80 : zeroCellsAV Tryz.prog 80 = some [.lit (.int .i64 0), .lit (.int .i64 0), .lit (.int .i64 0)] := by kernel_rfl
theorem am_fi80_0 : fieldOf Tryz.prog 80 0 = some (0, 3) := by kernel_rfl
theorem am_fi80_1 : fieldOf Tryz.prog 80 1 = some (1, 3) := by kernel_rfl
theorem am_fi80_2 : fieldOf Tryz.prog 80 2 = some (2, 3) := by kernel_rfl
theorem am_pl80 : placesL Tryz.prog 80 = some [(0, 1), (1, 1), (2, 1)] := by kernel_rfl
theorem am_in82 : (Tryz.prog.info? 82).isSome = true := by kernel_rfl
theorem am_ag82 : isAggT Tryz.prog 82 = some true := by kernel_rfl
theorem am_cl82 : Tryz.prog.cellsOf 82 = 10 := by kernel_rfl
theorem am_by82 : Tryz.prog.bytesOf 82 = 88 := by kernel_rfl
theorem am_ze82 : zeroCellsAV Tryz.prog 82 = some [.lit (.string ByteArray.empty), .lit (.int .i64 0), .lit (.int .i64 0), .lit (.int .i64 0), .lit (.int .i64 0), .lit (.int .i64 0), .lit (.int .i64 0), .lit (.int .i64 0), .lit (.int .i64 0), .lit (.int .i64 0)] := by kernel_rfl
theorem am_fi82_0 : fieldOf Tryz.prog 82 0 = some (0, 9) := by kernel_rfl
theorem am_fi82_1 : fieldOf Tryz.prog 82 1 = some (1, 78) := by kernel_rfl
theorem am_fi82_2 : fieldOf Tryz.prog 82 2 = some (3, 80) := by kernel_rfl
theorem am_fi82_3 : fieldOf Tryz.prog 82 3 = some (6, 80) := by kernel_rfl
theorem am_fi82_4 : fieldOf Tryz.prog 82 4 = some (9, 3) := by kernel_rfl
theorem am_in94 : (Tryz.prog.info? 94).isSome = true := by kernel_rfl
theorem am_ag94 : isAggT Tryz.prog 94 = some true := by kernel_rfl
theorem am_cl94 : Tryz.prog.cellsOf 94 = 2 := by kernel_rfl
theorem am_by94 : Tryz.prog.bytesOf 94 = 16 := by kernel_rfl
theorem am_ze94 : zeroCellsAV Tryz.prog 94 = some [.lit (.int .i64 0), .lit (.int .i64 0)] := by kernel_rfl
theorem am_fi94_0 : fieldOf Tryz.prog 94 0 = some (0, 3) := by kernel_rfl
theorem am_fi94_1 : fieldOf Tryz.prog 94 1 = some (1, 3) := by kernel_rfl
theorem am_in100 : (Tryz.prog.info? 100).isSome = true := by kernel_rfl
theorem am_ag100 : isAggT Tryz.prog 100 = some true := by kernel_rfl
theorem am_cl100 : Tryz.prog.cellsOf 100 = 6 := by kernel_rfl
theorem am_by100 : Tryz.prog.bytesOf 100 = 48 := by kernel_rfl
theorem am_ze100 : zeroCellsAV Tryz.prog 100 = some [.lit (.int .i64 0), .lit (.int .i64 0), .lit (.int .i64 0), .lit (.int .i64 0), .lit (.int .i64 0), .lit (.int .i64 0)] := by kernel_rfl
theorem am_fi100_0 : fieldOf Tryz.prog 100 0 = some (0, 80) := by kernel_rfl
theorem am_fi100_1 : fieldOf Tryz.prog 100 1 = some (3, 80) := by kernel_rfl
theorem am_pl100 : placesL Tryz.prog 100 = some [(0, 3), (3, 3)] := by kernel_rfl
theorem am_in102 : (Tryz.prog.info? 102).isSome = true := by kernel_rfl
theorem am_ag102 : isAggT Tryz.prog 102 = some true := by kernel_rfl
theorem am_cl102 : Tryz.prog.cellsOf 102 = 8 := by kernel_rfl
theorem am_by102 : Tryz.prog.bytesOf 102 = 88 := by kernel_rfl
theorem am_ze102 : zeroCellsAV Tryz.prog 102 = some [.lit (.string ByteArray.empty), .lit (.int .i64 0), .lit (.int .i64 0), .lit (.int .i64 0), .lit (.int .i64 0), .lit (.int .i64 0), .lit (.int .i64 0), .lit (.slice none 0 0)] := by kernel_rfl
theorem am_fi102_0 : fieldOf Tryz.prog 102 0 = some (0, 9) := by kernel_rfl
theorem am_fi102_1 : fieldOf Tryz.prog 102 1 = some (1, 100) := by kernel_rfl
theorem am_fi102_2 : fieldOf Tryz.prog 102 2 = some (7, 56) := by kernel_rfl
theorem am_el103 : elemOfSlice Tryz.prog 103 = some 183 := by kernel_rfl
theorem am_mt135 : mapTy Tryz.prog 135 = some (.int .i64, some (.bool false)) := by kernel_rfl
theorem am_in138 : (Tryz.prog.info? 138).isSome = true := by kernel_rfl
theorem am_ag138 : isAggT Tryz.prog 138 = some true := by kernel_rfl
theorem am_cl138 : Tryz.prog.cellsOf 138 = 2 := by kernel_rfl
theorem am_ze138 : zeroCellsAV Tryz.prog 138 = some [.lit (.int .i64 0), .lit (.int .i64 0)] := by kernel_rfl
theorem am_fi138_0 : fieldOf Tryz.prog 138 0 = some (0, 3) := by kernel_rfl
theorem am_fi138_1 : fieldOf Tryz.prog 138 1 = some (1, 3) := by kernel_rfl
theorem am_pl138 : placesL Tryz.prog 138 = some [(0, 1), (1, 1)] := by kernel_rfl
theorem am_el146 : elemOfSlice Tryz.prog 146 = some 80 := by kernel_rfl
theorem am_in183 : (Tryz.prog.info? 183).isSome = true := by kernel_rfl
theorem am_ag183 : isAggT Tryz.prog 183 = some true := by kernel_rfl
theorem am_cl183 : Tryz.prog.cellsOf 183 = 9 := by kernel_rfl
theorem am_by183 : Tryz.prog.bytesOf 183 = 80 := by kernel_rfl
theorem am_ze183 : zeroCellsAV Tryz.prog 183 = some [.lit (.int .i64 0), .lit (.int .i64 0), .lit (.int .i64 0), .lit (.int .i64 0), .lit (.int .i64 0), .lit (.int .i64 0), .lit (.bool false), .lit (.int .i64 0), .lit (.string ByteArray.empty)] := by kernel_rfl
theorem am_fi183_0 : fieldOf Tryz.prog 183 0 = some (0, 100) := by kernel_rfl
theorem am_fi183_1 : fieldOf Tryz.prog 183 1 = some (6, 4) := by kernel_rfl
theorem am_pl183 : placesL Tryz.prog 183 = some [(0, 6), (6, 1), (7, 1), (8, 1)] := by kernel_rfl
theorem am_el193 : elemOfSlice Tryz.prog 193 = some 196 := by kernel_rfl
theorem am_in196 : (Tryz.prog.info? 196).isSome = true := by kernel_rfl
theorem am_ag196 : isAggT Tryz.prog 196 = some true := by kernel_rfl
theorem am_cl196 : Tryz.prog.cellsOf 196 = 2 := by kernel_rfl
theorem am_ze196 : zeroCellsAV Tryz.prog 196 = some [.lit (.int .i64 0), .lit (.int .u8 0)] := by kernel_rfl
theorem am_fi196_0 : fieldOf Tryz.prog 196 0 = some (0, 3) := by kernel_rfl
theorem am_fi196_1 : fieldOf Tryz.prog 196 1 = some (1, 5) := by kernel_rfl
theorem am_pl196 : placesL Tryz.prog 196 = some [(0, 1), (1, 1)] := by kernel_rfl
theorem am_in237 : (Tryz.prog.info? 237).isSome = true := by kernel_rfl
theorem am_ag237 : isAggT Tryz.prog 237 = some true := by kernel_rfl
theorem am_cl237 : Tryz.prog.cellsOf 237 = 3 := by kernel_rfl
theorem am_el237 : elemOfSlice Tryz.prog 237 = none := by kernel_rfl
theorem am_ze237 : zeroCellsAV Tryz.prog 237 = some [.lit (.int .i64 0), .lit (.int .i64 0), .lit (.int .i64 0)] := by kernel_rfl
theorem am_ar237 : arrOf Tryz.prog 237 = some (3, 3) := by kernel_rfl
theorem am_pn237 : placesL Tryz.prog 237 = none := by kernel_rfl
theorem am_in249 : (Tryz.prog.info? 249).isSome = true := by kernel_rfl
theorem am_ag249 : isAggT Tryz.prog 249 = some true := by kernel_rfl
theorem am_cl249 : Tryz.prog.cellsOf 249 = 9 := by kernel_rfl
theorem am_el249 : elemOfSlice Tryz.prog 249 = none := by kernel_rfl
theorem am_ze249 : zeroCellsAV Tryz.prog 249 = some [.lit (.int .i64 0), .lit (.int .i64 0), .lit (.int .i64 0), .lit (.int .i64 0), .lit (.int .i64 0), .lit (.int .i64 0), .lit (.int .i64 0), .lit (.int .i64 0), .lit (.int .i64 0)] := by kernel_rfl
theorem am_ar249 : arrOf Tryz.prog 249 = some (3, 237) := by kernel_rfl
theorem am_pn249 : placesL Tryz.prog 249 = none := by kernel_rfl
end Go.Proofs.YtkbpignlggahaaaGreatDoor
