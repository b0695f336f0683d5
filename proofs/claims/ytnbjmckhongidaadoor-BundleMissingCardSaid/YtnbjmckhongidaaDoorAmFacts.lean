/-
  Closed facts on the types of the program, as the abstract machine asks them.
  Conditions: none.
-/
import Derived.Test.YtnbjmckhongidaaDoorAmStep
import Derived.Test.YtnbjmckhongidaaDoorChecked
import Derived.KernelRfl
namespace Go.Proofs.YtnbjmckhongidaaDoor
open Go.AM
theorem am_ag1 : isAggT Tryd.prog 1 = some false := by kernel_rfl
theorem am_cl1 : Tryd.prog.cellsOf 1 = 1 := by kernel_rfl
theorem am_in2 : (Tryd.prog.info? 2).isSome = true := by kernel_rfl
theorem am_ag2 : isAggT Tryd.prog 2 = some false := by kernel_rfl
theorem am_cl2 : Tryd.prog.cellsOf 2 = 1 := by kernel_rfl
theorem am_by2 : Tryd.prog.bytesOf 2 = 8 := by kernel_rfl
theorem am_el2 : elemOfSlice Tryd.prog 2 = none := by kernel_rfl
theorem am_ze2 : zeroCellsAV Tryd.prog 2 = some [.lit (.int .i64 0)] := by kernel_rfl
theorem am_in3 : (Tryd.prog.info? 3).isSome = true := by kernel_rfl
theorem am_ag3 : isAggT Tryd.prog 3 = some false := by kernel_rfl
theorem am_cl3 : Tryd.prog.cellsOf 3 = 1 := by kernel_rfl
theorem am_by3 : Tryd.prog.bytesOf 3 = 8 := by kernel_rfl
theorem am_el3 : elemOfSlice Tryd.prog 3 = none := by kernel_rfl
theorem am_ze3 : zeroCellsAV Tryd.prog 3 = some [.lit (.int .i64 0)] := by kernel_rfl
theorem am_in4 : (Tryd.prog.info? 4).isSome = true := by kernel_rfl
theorem am_ag4 : isAggT Tryd.prog 4 = some false := by kernel_rfl
theorem am_cl4 : Tryd.prog.cellsOf 4 = 1 := by kernel_rfl
theorem am_by4 : Tryd.prog.bytesOf 4 = 1 := by kernel_rfl
theorem am_el4 : elemOfSlice Tryd.prog 4 = none := by kernel_rfl
theorem am_ze4 : zeroCellsAV Tryd.prog 4 = some [.lit (.bool false)] := by kernel_rfl
theorem am_in5 : (Tryd.prog.info? 5).isSome = true := by kernel_rfl
theorem am_ag5 : isAggT Tryd.prog 5 = some false := by kernel_rfl
theorem am_cl5 : Tryd.prog.cellsOf 5 = 1 := by kernel_rfl
theorem am_by5 : Tryd.prog.bytesOf 5 = 1 := by kernel_rfl
theorem am_el5 : elemOfSlice Tryd.prog 5 = none := by kernel_rfl
theorem am_ze5 : zeroCellsAV Tryd.prog 5 = some [.lit (.int .u8 0)] := by kernel_rfl
theorem am_in6 : (Tryd.prog.info? 6).isSome = true := by kernel_rfl
theorem am_ag6 : isAggT Tryd.prog 6 = some false := by kernel_rfl
theorem am_cl6 : Tryd.prog.cellsOf 6 = 1 := by kernel_rfl
theorem am_by6 : Tryd.prog.bytesOf 6 = 1 := by kernel_rfl
theorem am_el6 : elemOfSlice Tryd.prog 6 = none := by kernel_rfl
theorem am_ze6 : zeroCellsAV Tryd.prog 6 = some [.lit (.int .u8 0)] := by kernel_rfl
theorem am_in7 : (Tryd.prog.info? 7).isSome = true := by kernel_rfl
theorem am_ag7 : isAggT Tryd.prog 7 = some true := by kernel_rfl
theorem am_cl7 : Tryd.prog.cellsOf 7 = 4 := by kernel_rfl
theorem am_by7 : Tryd.prog.bytesOf 7 = 24 := by kernel_rfl
theorem am_el7 : elemOfSlice Tryd.prog 7 = none := by kernel_rfl
theorem am_ze7 : zeroCellsAV Tryd.prog 7 = some [.lit (.int .i64 0), .lit (.int .i64 0), .lit (.bool false), .lit (.int .u8 0)] := by kernel_rfl
theorem am_fi7_0 : fieldOf Tryd.prog 7 0 = some (0, 2) := by kernel_rfl
theorem am_fi7_1 : fieldOf Tryd.prog 7 1 = some (1, 3) := by kernel_rfl
theorem am_fi7_2 : fieldOf Tryd.prog 7 2 = some (2, 4) := by kernel_rfl
theorem am_fi7_3 : fieldOf Tryd.prog 7 3 = some (3, 6) := by kernel_rfl
theorem am_pl7 : placesL Tryd.prog 7 = some [(0, 1), (1, 1), (2, 1), (3, 1)] := by kernel_rfl
theorem am_in8 : (Tryd.prog.info? 8).isSome = true := by kernel_rfl
theorem am_ag8 : isAggT Tryd.prog 8 = some true := by kernel_rfl
theorem am_cl8 : Tryd.prog.cellsOf 8 = 4 := by kernel_rfl
theorem am_by8 : Tryd.prog.bytesOf 8 = 24 := by kernel_rfl
theorem am_el8 : elemOfSlice Tryd.prog 8 = none := by kernel_rfl
theorem am_ze8 : zeroCellsAV Tryd.prog 8 = some [.lit (.int .i64 0), .lit (.int .i64 0), .lit (.bool false), .lit (.int .u8 0)] := by kernel_rfl
theorem am_fi8_0 : fieldOf Tryd.prog 8 0 = some (0, 2) := by kernel_rfl
theorem am_fi8_1 : fieldOf Tryd.prog 8 1 = some (1, 3) := by kernel_rfl
theorem am_fi8_2 : fieldOf Tryd.prog 8 2 = some (2, 4) := by kernel_rfl
theorem am_fi8_3 : fieldOf Tryd.prog 8 3 = some (3, 6) := by kernel_rfl
theorem am_pl8 : placesL Tryd.prog 8 = some [(0, 1), (1, 1), (2, 1), (3, 1)] := by kernel_rfl
theorem am_in9 : (Tryd.prog.info? 9).isSome = true := by kernel_rfl
theorem am_ag9 : isAggT Tryd.prog 9 = some false := by kernel_rfl
theorem am_cl9 : Tryd.prog.cellsOf 9 = 1 := by kernel_rfl
theorem am_by9 : Tryd.prog.bytesOf 9 = 16 := by kernel_rfl
theorem am_el9 : elemOfSlice Tryd.prog 9 = none := by kernel_rfl
theorem am_ze9 : zeroCellsAV Tryd.prog 9 = some [.lit (.string ByteArray.empty)] := by kernel_rfl
theorem am_in10 : (Tryd.prog.info? 10).isSome = true := by kernel_rfl
theorem am_ag10 : isAggT Tryd.prog 10 = some false := by kernel_rfl
theorem am_cl10 : Tryd.prog.cellsOf 10 = 1 := by kernel_rfl
theorem am_by10 : Tryd.prog.bytesOf 10 = 16 := by kernel_rfl
theorem am_el10 : elemOfSlice Tryd.prog 10 = none := by kernel_rfl
theorem am_ze10 : zeroCellsAV Tryd.prog 10 = some [.lit (.string ByteArray.empty)] := by kernel_rfl
theorem am_in11 : (Tryd.prog.info? 11).isSome = true := by kernel_rfl
theorem am_ag11 : isAggT Tryd.prog 11 = some false := by kernel_rfl
theorem am_cl11 : Tryd.prog.cellsOf 11 = 1 := by kernel_rfl
theorem am_by11 : Tryd.prog.bytesOf 11 = 16 := by kernel_rfl
theorem am_el11 : elemOfSlice Tryd.prog 11 = none := by kernel_rfl
theorem am_ze11 : zeroCellsAV Tryd.prog 11 = some [.lit (.string ByteArray.empty)] := by kernel_rfl
theorem am_in12 : (Tryd.prog.info? 12).isSome = true := by kernel_rfl
theorem am_ag12 : isAggT Tryd.prog 12 = some false := by kernel_rfl
theorem am_cl12 : Tryd.prog.cellsOf 12 = 1 := by kernel_rfl
theorem am_by12 : Tryd.prog.bytesOf 12 = 8 := by kernel_rfl
theorem am_el12 : elemOfSlice Tryd.prog 12 = none := by kernel_rfl
theorem am_ze12 : zeroCellsAV Tryd.prog 12 = some [.lit (.int .u64 0)] := by kernel_rfl
theorem am_in13 : (Tryd.prog.info? 13).isSome = true := by kernel_rfl
theorem am_ag13 : isAggT Tryd.prog 13 = some true := by kernel_rfl
theorem am_cl13 : Tryd.prog.cellsOf 13 = 2 := by kernel_rfl
theorem am_by13 : Tryd.prog.bytesOf 13 = 24 := by kernel_rfl
theorem am_el13 : elemOfSlice Tryd.prog 13 = none := by kernel_rfl
theorem am_ze13 : zeroCellsAV Tryd.prog 13 = some [.lit (.string ByteArray.empty), .lit (.int .u64 0)] := by kernel_rfl
theorem am_fi13_0 : fieldOf Tryd.prog 13 0 = some (0, 9) := by kernel_rfl
theorem am_fi13_1 : fieldOf Tryd.prog 13 1 = some (1, 12) := by kernel_rfl
theorem am_pl13 : placesL Tryd.prog 13 = some [(0, 1), (1, 1)] := by kernel_rfl
theorem am_in14 : (Tryd.prog.info? 14).isSome = true := by kernel_rfl
theorem am_ag14 : isAggT Tryd.prog 14 = some true := by kernel_rfl
theorem am_cl14 : Tryd.prog.cellsOf 14 = 2 := by kernel_rfl
theorem am_by14 : Tryd.prog.bytesOf 14 = 24 := by kernel_rfl
theorem am_el14 : elemOfSlice Tryd.prog 14 = none := by kernel_rfl
theorem am_ze14 : zeroCellsAV Tryd.prog 14 = some [.lit (.string ByteArray.empty), .lit (.int .u64 0)] := by kernel_rfl
theorem am_fi14_0 : fieldOf Tryd.prog 14 0 = some (0, 9) := by kernel_rfl
theorem am_fi14_1 : fieldOf Tryd.prog 14 1 = some (1, 12) := by kernel_rfl
theorem am_pl14 : placesL Tryd.prog 14 = some [(0, 1), (1, 1)] := by kernel_rfl
theorem am_in15 : (Tryd.prog.info? 15).isSome = true := by kernel_rfl
theorem am_ag15 : isAggT Tryd.prog 15 = some false := by kernel_rfl
theorem am_cl15 : Tryd.prog.cellsOf 15 = 1 := by kernel_rfl
theorem am_by15 : Tryd.prog.bytesOf 15 = 8 := by kernel_rfl
theorem am_el15 : elemOfSlice Tryd.prog 15 = none := by kernel_rfl
theorem am_ze15 : zeroCellsAV Tryd.prog 15 = some [.lit (.pointer none)] := by kernel_rfl
theorem am_in16 : (Tryd.prog.info? 16).isSome = true := by kernel_rfl
theorem am_ag16 : isAggT Tryd.prog 16 = some false := by kernel_rfl
theorem am_cl16 : Tryd.prog.cellsOf 16 = 1 := by kernel_rfl
theorem am_by16 : Tryd.prog.bytesOf 16 = 8 := by kernel_rfl
theorem am_el16 : elemOfSlice Tryd.prog 16 = none := by kernel_rfl
theorem am_ze16 : zeroCellsAV Tryd.prog 16 = some [.lit (.pointer none)] := by kernel_rfl
theorem am_in17 : (Tryd.prog.info? 17).isSome = true := by kernel_rfl
theorem am_ag17 : isAggT Tryd.prog 17 = some false := by kernel_rfl
theorem am_cl17 : Tryd.prog.cellsOf 17 = 1 := by kernel_rfl
theorem am_by17 : Tryd.prog.bytesOf 17 = 8 := by kernel_rfl
theorem am_el17 : elemOfSlice Tryd.prog 17 = none := by kernel_rfl
theorem am_ze17 : zeroCellsAV Tryd.prog 17 = some [.lit (.pointer none)] := by kernel_rfl
theorem am_in18 : (Tryd.prog.info? 18).isSome = true := by kernel_rfl
theorem am_ag18 : isAggT Tryd.prog 18 = some true := by kernel_rfl
theorem am_cl18 : Tryd.prog.cellsOf 18 = 1 := by kernel_rfl
theorem am_by18 : Tryd.prog.bytesOf 18 = 8 := by kernel_rfl
theorem am_el18 : elemOfSlice Tryd.prog 18 = none := by kernel_rfl
theorem am_ze18 : zeroCellsAV Tryd.prog 18 = some [.lit (.pointer none)] := by kernel_rfl
theorem am_fi18_0 : fieldOf Tryd.prog 18 0 = some (0, 17) := by kernel_rfl
theorem am_pl18 : placesL Tryd.prog 18 = some [(0, 1)] := by kernel_rfl
theorem am_in19 : (Tryd.prog.info? 19).isSome = true := by kernel_rfl
theorem am_ag19 : isAggT Tryd.prog 19 = some true := by kernel_rfl
theorem am_cl19 : Tryd.prog.cellsOf 19 = 1 := by kernel_rfl
theorem am_by19 : Tryd.prog.bytesOf 19 = 8 := by kernel_rfl
theorem am_el19 : elemOfSlice Tryd.prog 19 = none := by kernel_rfl
theorem am_ze19 : zeroCellsAV Tryd.prog 19 = some [.lit (.pointer none)] := by kernel_rfl
theorem am_fi19_0 : fieldOf Tryd.prog 19 0 = some (0, 17) := by kernel_rfl
theorem am_pl19 : placesL Tryd.prog 19 = some [(0, 1)] := by kernel_rfl
theorem am_ag20 : isAggT Tryd.prog 20 = some false := by kernel_rfl
theorem am_cl20 : Tryd.prog.cellsOf 20 = 1 := by kernel_rfl
theorem am_in21 : (Tryd.prog.info? 21).isSome = true := by kernel_rfl
theorem am_ag21 : isAggT Tryd.prog 21 = some false := by kernel_rfl
theorem am_cl21 : Tryd.prog.cellsOf 21 = 1 := by kernel_rfl
theorem am_by21 : Tryd.prog.bytesOf 21 = 4 := by kernel_rfl
theorem am_el21 : elemOfSlice Tryd.prog 21 = none := by kernel_rfl
theorem am_ze21 : zeroCellsAV Tryd.prog 21 = some [.lit (.int .i32 0)] := by kernel_rfl
theorem am_in22 : (Tryd.prog.info? 22).isSome = true := by kernel_rfl
theorem am_ag22 : isAggT Tryd.prog 22 = some false := by kernel_rfl
theorem am_cl22 : Tryd.prog.cellsOf 22 = 1 := by kernel_rfl
theorem am_by22 : Tryd.prog.bytesOf 22 = 24 := by kernel_rfl
theorem am_el22 : elemOfSlice Tryd.prog 22 = some 42 := by kernel_rfl
theorem am_ze22 : zeroCellsAV Tryd.prog 22 = some [.lit (.slice none 0 0)] := by kernel_rfl
theorem am_ag23 : isAggT Tryd.prog 23 = some false := by kernel_rfl
theorem am_cl23 : Tryd.prog.cellsOf 23 = 1 := by kernel_rfl
theorem am_ag24 : isAggT Tryd.prog 24 = some false := by kernel_rfl
theorem am_cl24 : Tryd.prog.cellsOf 24 = 1 := by kernel_rfl
theorem am_in25 : (Tryd.prog.info? 25).isSome = true := by kernel_rfl
theorem am_ag25 : isAggT Tryd.prog 25 = some false := by kernel_rfl
theorem am_cl25 : Tryd.prog.cellsOf 25 = 1 := by kernel_rfl
theorem am_by25 : Tryd.prog.bytesOf 25 = 24 := by kernel_rfl
theorem am_el25 : elemOfSlice Tryd.prog 25 = some 46 := by kernel_rfl
theorem am_ze25 : zeroCellsAV Tryd.prog 25 = some [.lit (.slice none 0 0)] := by kernel_rfl
theorem am_in26 : (Tryd.prog.info? 26).isSome = true := by kernel_rfl
theorem am_ag26 : isAggT Tryd.prog 26 = some false := by kernel_rfl
theorem am_cl26 : Tryd.prog.cellsOf 26 = 1 := by kernel_rfl
theorem am_by26 : Tryd.prog.bytesOf 26 = 8 := by kernel_rfl
theorem am_el26 : elemOfSlice Tryd.prog 26 = none := by kernel_rfl
theorem am_ze26 : zeroCellsAV Tryd.prog 26 = some [.lit (.int .i64 0)] := by kernel_rfl
theorem am_ag28 : isAggT Tryd.prog 28 = some false := by kernel_rfl
theorem am_cl28 : Tryd.prog.cellsOf 28 = 1 := by kernel_rfl
theorem am_ag30 : isAggT Tryd.prog 30 = some false := by kernel_rfl
theorem am_cl30 : Tryd.prog.cellsOf 30 = 1 := by kernel_rfl
theorem am_ag31 : isAggT Tryd.prog 31 = some false := by kernel_rfl
theorem am_cl31 : Tryd.prog.cellsOf 31 = 1 := by kernel_rfl
theorem am_ag32 : isAggT Tryd.prog 32 = some false := by kernel_rfl
theorem am_cl32 : Tryd.prog.cellsOf 32 = 1 := by kernel_rfl
theorem am_in33 : (Tryd.prog.info? 33).isSome = true := by kernel_rfl
theorem am_ag33 : isAggT Tryd.prog 33 = some false := by kernel_rfl
theorem am_cl33 : Tryd.prog.cellsOf 33 = 1 := by kernel_rfl
theorem am_by33 : Tryd.prog.bytesOf 33 = 4 := by kernel_rfl
theorem am_el33 : elemOfSlice Tryd.prog 33 = none := by kernel_rfl
theorem am_ze33 : zeroCellsAV Tryd.prog 33 = some [.lit (.int .u32 0)] := by kernel_rfl
theorem am_ag34 : isAggT Tryd.prog 34 = some false := by kernel_rfl
theorem am_cl34 : Tryd.prog.cellsOf 34 = 1 := by kernel_rfl
theorem am_in35 : (Tryd.prog.info? 35).isSome = true := by kernel_rfl
theorem am_ag35 : isAggT Tryd.prog 35 = some false := by kernel_rfl
theorem am_cl35 : Tryd.prog.cellsOf 35 = 1 := by kernel_rfl
theorem am_by35 : Tryd.prog.bytesOf 35 = 24 := by kernel_rfl
theorem am_el35 : elemOfSlice Tryd.prog 35 = some 57 := by kernel_rfl
theorem am_ze35 : zeroCellsAV Tryd.prog 35 = some [.lit (.slice none 0 0)] := by kernel_rfl
theorem am_ag37 : isAggT Tryd.prog 37 = some false := by kernel_rfl
theorem am_cl37 : Tryd.prog.cellsOf 37 = 1 := by kernel_rfl
theorem am_ag39 : isAggT Tryd.prog 39 = some false := by kernel_rfl
theorem am_cl39 : Tryd.prog.cellsOf 39 = 1 := by kernel_rfl
theorem am_in40 : (Tryd.prog.info? 40).isSome = true := by kernel_rfl
theorem am_ag40 : isAggT Tryd.prog 40 = some false := by kernel_rfl
theorem am_cl40 : Tryd.prog.cellsOf 40 = 1 := by kernel_rfl
theorem am_by40 : Tryd.prog.bytesOf 40 = 24 := by kernel_rfl
theorem am_el40 : elemOfSlice Tryd.prog 40 = some 3 := by kernel_rfl
theorem am_ze40 : zeroCellsAV Tryd.prog 40 = some [.lit (.slice none 0 0)] := by kernel_rfl
theorem am_in41 : (Tryd.prog.info? 41).isSome = true := by kernel_rfl
theorem am_ag41 : isAggT Tryd.prog 41 = some true := by kernel_rfl
theorem am_cl41 : Tryd.prog.cellsOf 41 = 5 := by kernel_rfl
theorem am_by41 : Tryd.prog.bytesOf 41 = 64 := by kernel_rfl
theorem am_el41 : elemOfSlice Tryd.prog 41 = none := by kernel_rfl
theorem am_ze41 : zeroCellsAV Tryd.prog 41 = some [.lit (.string ByteArray.empty), .lit (.int .i64 0), .lit (.int .i64 0), .lit (.int .i64 0), .lit (.slice none 0 0)] := by kernel_rfl
theorem am_fi41_0 : fieldOf Tryd.prog 41 0 = some (0, 9) := by kernel_rfl
theorem am_fi41_1 : fieldOf Tryd.prog 41 1 = some (1, 3) := by kernel_rfl
theorem am_fi41_2 : fieldOf Tryd.prog 41 2 = some (2, 3) := by kernel_rfl
theorem am_fi41_3 : fieldOf Tryd.prog 41 3 = some (3, 3) := by kernel_rfl
theorem am_fi41_4 : fieldOf Tryd.prog 41 4 = some (4, 40) := by kernel_rfl
theorem am_pl41 : placesL Tryd.prog 41 = some [(0, 1), (1, 1), (2, 1), (3, 1), (4, 1)] := by kernel_rfl
theorem am_in42 : (Tryd.prog.info? 42).isSome = true := by kernel_rfl
theorem am_ag42 : isAggT Tryd.prog 42 = some true := by kernel_rfl
theorem am_cl42 : Tryd.prog.cellsOf 42 = 5 := by kernel_rfl
theorem am_by42 : Tryd.prog.bytesOf 42 = 64 := by kernel_rfl
theorem am_el42 : elemOfSlice Tryd.prog 42 = none := by kernel_rfl
theorem am_ze42 : zeroCellsAV Tryd.prog 42 = some [.lit (.string ByteArray.empty), .lit (.int .i64 0), .lit (.int .i64 0), .lit (.int .i64 0), .lit (.slice none 0 0)] := by kernel_rfl
theorem am_fi42_0 : fieldOf Tryd.prog 42 0 = some (0, 9) := by kernel_rfl
theorem am_fi42_1 : fieldOf Tryd.prog 42 1 = some (1, 3) := by kernel_rfl
theorem am_fi42_2 : fieldOf Tryd.prog 42 2 = some (2, 3) := by kernel_rfl
theorem am_fi42_3 : fieldOf Tryd.prog 42 3 = some (3, 3) := by kernel_rfl
theorem am_fi42_4 : fieldOf Tryd.prog 42 4 = some (4, 40) := by kernel_rfl
theorem am_pl42 : placesL Tryd.prog 42 = some [(0, 1), (1, 1), (2, 1), (3, 1), (4, 1)] := by kernel_rfl
theorem am_ag43 : isAggT Tryd.prog 43 = some false := by kernel_rfl
theorem am_cl43 : Tryd.prog.cellsOf 43 = 1 := by kernel_rfl
theorem am_ag44 : isAggT Tryd.prog 44 = some false := by kernel_rfl
theorem am_cl44 : Tryd.prog.cellsOf 44 = 1 := by kernel_rfl
theorem am_in45 : (Tryd.prog.info? 45).isSome = true := by kernel_rfl
theorem am_ag45 : isAggT Tryd.prog 45 = some true := by kernel_rfl
theorem am_cl45 : Tryd.prog.cellsOf 45 = 4 := by kernel_rfl
theorem am_by45 : Tryd.prog.bytesOf 45 = 48 := by kernel_rfl
theorem am_el45 : elemOfSlice Tryd.prog 45 = none := by kernel_rfl
theorem am_ze45 : zeroCellsAV Tryd.prog 45 = some [.lit (.string ByteArray.empty), .lit (.string ByteArray.empty), .lit (.int .i64 0), .lit (.int .i64 0)] := by kernel_rfl
theorem am_fi45_0 : fieldOf Tryd.prog 45 0 = some (0, 9) := by kernel_rfl
theorem am_fi45_1 : fieldOf Tryd.prog 45 1 = some (1, 9) := by kernel_rfl
theorem am_fi45_2 : fieldOf Tryd.prog 45 2 = some (2, 3) := by kernel_rfl
theorem am_fi45_3 : fieldOf Tryd.prog 45 3 = some (3, 3) := by kernel_rfl
theorem am_pl45 : placesL Tryd.prog 45 = some [(0, 1), (1, 1), (2, 1), (3, 1)] := by kernel_rfl
theorem am_in46 : (Tryd.prog.info? 46).isSome = true := by kernel_rfl
theorem am_ag46 : isAggT Tryd.prog 46 = some true := by kernel_rfl
theorem am_cl46 : Tryd.prog.cellsOf 46 = 4 := by kernel_rfl
theorem am_by46 : Tryd.prog.bytesOf 46 = 48 := by kernel_rfl
theorem am_el46 : elemOfSlice Tryd.prog 46 = none := by kernel_rfl
theorem am_ze46 : zeroCellsAV Tryd.prog 46 = some [.lit (.string ByteArray.empty), .lit (.string ByteArray.empty), .lit (.int .i64 0), .lit (.int .i64 0)] := by kernel_rfl
theorem am_fi46_0 : fieldOf Tryd.prog 46 0 = some (0, 9) := by kernel_rfl
theorem am_fi46_1 : fieldOf Tryd.prog 46 1 = some (1, 9) := by kernel_rfl
theorem am_fi46_2 : fieldOf Tryd.prog 46 2 = some (2, 3) := by kernel_rfl
theorem am_fi46_3 : fieldOf Tryd.prog 46 3 = some (3, 3) := by kernel_rfl
theorem am_pl46 : placesL Tryd.prog 46 = some [(0, 1), (1, 1), (2, 1), (3, 1)] := by kernel_rfl
theorem am_ag47 : isAggT Tryd.prog 47 = some false := by kernel_rfl
theorem am_cl47 : Tryd.prog.cellsOf 47 = 1 := by kernel_rfl
theorem am_ag48 : isAggT Tryd.prog 48 = some false := by kernel_rfl
theorem am_cl48 : Tryd.prog.cellsOf 48 = 1 := by kernel_rfl
theorem am_ag50 : isAggT Tryd.prog 50 = some false := by kernel_rfl
theorem am_cl50 : Tryd.prog.cellsOf 50 = 1 := by kernel_rfl
theorem am_ag51 : isAggT Tryd.prog 51 = some false := by kernel_rfl
theorem am_cl51 : Tryd.prog.cellsOf 51 = 1 := by kernel_rfl
theorem am_ag52 : isAggT Tryd.prog 52 = some false := by kernel_rfl
theorem am_cl52 : Tryd.prog.cellsOf 52 = 1 := by kernel_rfl
theorem am_ag53 : isAggT Tryd.prog 53 = some false := by kernel_rfl
theorem am_cl53 : Tryd.prog.cellsOf 53 = 1 := by kernel_rfl
theorem am_ag54 : isAggT Tryd.prog 54 = some false := by kernel_rfl
theorem am_cl54 : Tryd.prog.cellsOf 54 = 1 := by kernel_rfl
theorem am_ag55 : isAggT Tryd.prog 55 = some false := by kernel_rfl
theorem am_cl55 : Tryd.prog.cellsOf 55 = 1 := by kernel_rfl
theorem am_in56 : (Tryd.prog.info? 56).isSome = true := by kernel_rfl
theorem am_ag56 : isAggT Tryd.prog 56 = some true := by kernel_rfl
theorem am_cl56 : Tryd.prog.cellsOf 56 = 2 := by kernel_rfl
theorem am_by56 : Tryd.prog.bytesOf 56 = 24 := by kernel_rfl
theorem am_el56 : elemOfSlice Tryd.prog 56 = none := by kernel_rfl
theorem am_ze56 : zeroCellsAV Tryd.prog 56 = some [.lit (.int .i64 0), .lit (.string ByteArray.empty)] := by kernel_rfl
theorem am_fi56_0 : fieldOf Tryd.prog 56 0 = some (0, 3) := by kernel_rfl
theorem am_fi56_1 : fieldOf Tryd.prog 56 1 = some (1, 9) := by kernel_rfl
theorem am_pl56 : placesL Tryd.prog 56 = some [(0, 1), (1, 1)] := by kernel_rfl
theorem am_in57 : (Tryd.prog.info? 57).isSome = true := by kernel_rfl
theorem am_ag57 : isAggT Tryd.prog 57 = some true := by kernel_rfl
theorem am_cl57 : Tryd.prog.cellsOf 57 = 2 := by kernel_rfl
theorem am_by57 : Tryd.prog.bytesOf 57 = 24 := by kernel_rfl
theorem am_el57 : elemOfSlice Tryd.prog 57 = none := by kernel_rfl
theorem am_ze57 : zeroCellsAV Tryd.prog 57 = some [.lit (.int .i64 0), .lit (.string ByteArray.empty)] := by kernel_rfl
theorem am_fi57_0 : fieldOf Tryd.prog 57 0 = some (0, 3) := by kernel_rfl
theorem am_fi57_1 : fieldOf Tryd.prog 57 1 = some (1, 9) := by kernel_rfl
theorem am_pl57 : placesL Tryd.prog 57 = some [(0, 1), (1, 1)] := by kernel_rfl
theorem am_ag58 : isAggT Tryd.prog 58 = some false := by kernel_rfl
theorem am_cl58 : Tryd.prog.cellsOf 58 = 1 := by kernel_rfl
theorem am_ag59 : isAggT Tryd.prog 59 = some false := by kernel_rfl
theorem am_cl59 : Tryd.prog.cellsOf 59 = 1 := by kernel_rfl
theorem am_ag60 : isAggT Tryd.prog 60 = some false := by kernel_rfl
theorem am_cl60 : Tryd.prog.cellsOf 60 = 1 := by kernel_rfl
theorem am_ag61 : isAggT Tryd.prog 61 = some false := by kernel_rfl
theorem am_cl61 : Tryd.prog.cellsOf 61 = 1 := by kernel_rfl
theorem am_ag62 : isAggT Tryd.prog 62 = some false := by kernel_rfl
theorem am_cl62 : Tryd.prog.cellsOf 62 = 1 := by kernel_rfl
theorem am_ag63 : isAggT Tryd.prog 63 = some false := by kernel_rfl
theorem am_cl63 : Tryd.prog.cellsOf 63 = 1 := by kernel_rfl
theorem am_in64 : (Tryd.prog.info? 64).isSome = true := by kernel_rfl
theorem am_ag64 : isAggT Tryd.prog 64 = some true := by kernel_rfl
theorem am_cl64 : Tryd.prog.cellsOf 64 = 2 := by kernel_rfl
theorem am_by64 : Tryd.prog.bytesOf 64 = 16 := by kernel_rfl
theorem am_el64 : elemOfSlice Tryd.prog 64 = none := by kernel_rfl
theorem am_ze64 : zeroCellsAV Tryd.prog 64 = some [.lit (.int .i64 0), .lit (.int .i64 0)] := by kernel_rfl
theorem am_fi64_0 : fieldOf Tryd.prog 64 0 = some (0, 3) := by kernel_rfl
theorem am_fi64_1 : fieldOf Tryd.prog 64 1 = some (1, 3) := by kernel_rfl
theorem am_pl64 : placesL Tryd.prog 64 = some [(0, 1), (1, 1)] := by kernel_rfl
theorem am_in65 : (Tryd.prog.info? 65).isSome = true := by kernel_rfl
theorem am_ag65 : isAggT Tryd.prog 65 = some true := by kernel_rfl
theorem am_cl65 : Tryd.prog.cellsOf 65 = 2 := by kernel_rfl
theorem am_by65 : Tryd.prog.bytesOf 65 = 16 := by kernel_rfl
theorem am_el65 : elemOfSlice Tryd.prog 65 = none := by kernel_rfl
theorem am_ze65 : zeroCellsAV Tryd.prog 65 = some [.lit (.int .i64 0), .lit (.int .i64 0)] := by kernel_rfl
theorem am_fi65_0 : fieldOf Tryd.prog 65 0 = some (0, 3) := by kernel_rfl
theorem am_fi65_1 : fieldOf Tryd.prog 65 1 = some (1, 3) := by kernel_rfl
theorem am_pl65 : placesL Tryd.prog 65 = some [(0, 1), (1, 1)] := by kernel_rfl
theorem am_ag67 : isAggT Tryd.prog 67 = some false := by kernel_rfl
theorem am_cl67 : Tryd.prog.cellsOf 67 = 1 := by kernel_rfl
theorem am_ag69 : isAggT Tryd.prog 69 = some false := by kernel_rfl
theorem am_cl69 : Tryd.prog.cellsOf 69 = 1 := by kernel_rfl
theorem am_ag70 : isAggT Tryd.prog 70 = some false := by kernel_rfl
theorem am_cl70 : Tryd.prog.cellsOf 70 = 1 := by kernel_rfl
theorem am_ag71 : isAggT Tryd.prog 71 = some false := by kernel_rfl
theorem am_cl71 : Tryd.prog.cellsOf 71 = 1 := by kernel_rfl
theorem am_ag72 : isAggT Tryd.prog 72 = some false := by kernel_rfl
theorem am_cl72 : Tryd.prog.cellsOf 72 = 1 := by kernel_rfl
theorem am_ag73 : isAggT Tryd.prog 73 = some false := by kernel_rfl
theorem am_cl73 : Tryd.prog.cellsOf 73 = 1 := by kernel_rfl
theorem am_ag74 : isAggT Tryd.prog 74 = some false := by kernel_rfl
theorem am_cl74 : Tryd.prog.cellsOf 74 = 1 := by kernel_rfl
theorem am_mt75 : mapTy Tryd.prog 75 = some (.string, some (.int .i64 0)) := by kernel_rfl
theorem am_em75 : elemOfSlice Tryd.prog 75 = none := by kernel_rfl
theorem am_ag75 : isAggT Tryd.prog 75 = some false := by kernel_rfl
theorem am_cl75 : Tryd.prog.cellsOf 75 = 1 := by kernel_rfl
theorem am_ag76 : isAggT Tryd.prog 76 = some false := by kernel_rfl
theorem am_cl76 : Tryd.prog.cellsOf 76 = 1 := by kernel_rfl
theorem am_mt77 : mapTy Tryd.prog 77 = some (.string, some (.bool false)) := by kernel_rfl
theorem am_em77 : elemOfSlice Tryd.prog 77 = none := by kernel_rfl
theorem am_ag77 : isAggT Tryd.prog 77 = some false := by kernel_rfl
theorem am_cl77 : Tryd.prog.cellsOf 77 = 1 := by kernel_rfl
theorem am_ag78 : isAggT Tryd.prog 78 = some false := by kernel_rfl
theorem am_cl78 : Tryd.prog.cellsOf 78 = 1 := by kernel_rfl
theorem am_ag79 : isAggT Tryd.prog 79 = some false := by kernel_rfl
theorem am_cl79 : Tryd.prog.cellsOf 79 = 1 := by kernel_rfl
theorem am_ag80 : isAggT Tryd.prog 80 = some false := by kernel_rfl
theorem am_cl80 : Tryd.prog.cellsOf 80 = 1 := by kernel_rfl
theorem am_ag81 : isAggT Tryd.prog 81 = some false := by kernel_rfl
theorem am_cl81 : Tryd.prog.cellsOf 81 = 1 := by kernel_rfl
theorem am_ag83 : isAggT Tryd.prog 83 = some false := by kernel_rfl
theorem am_cl83 : Tryd.prog.cellsOf 83 = 1 := by kernel_rfl
theorem am_ag85 : isAggT Tryd.prog 85 = some false := by kernel_rfl
theorem am_cl85 : Tryd.prog.cellsOf 85 = 1 := by kernel_rfl
theorem am_in86 : (Tryd.prog.info? 86).isSome = true := by kernel_rfl
theorem am_ag86 : isAggT Tryd.prog 86 = some false := by kernel_rfl
theorem am_cl86 : Tryd.prog.cellsOf 86 = 1 := by kernel_rfl
theorem am_by86 : Tryd.prog.bytesOf 86 = 8 := by kernel_rfl
theorem am_el86 : elemOfSlice Tryd.prog 86 = none := by kernel_rfl
theorem am_ze86 : zeroCellsAV Tryd.prog 86 = some [.lit (.pointer none)] := by kernel_rfl
theorem am_in87 : (Tryd.prog.info? 87).isSome = true := by kernel_rfl
theorem am_ag87 : isAggT Tryd.prog 87 = some false := by kernel_rfl
theorem am_cl87 : Tryd.prog.cellsOf 87 = 1 := by kernel_rfl
theorem am_by87 : Tryd.prog.bytesOf 87 = 24 := by kernel_rfl
theorem am_el87 : elemOfSlice Tryd.prog 87 = some 5 := by kernel_rfl
theorem am_ze87 : zeroCellsAV Tryd.prog 87 = some [.lit (.slice none 0 0)] := by kernel_rfl
theorem am_in88 : (Tryd.prog.info? 88).isSome = true := by kernel_rfl
theorem am_ag88 : isAggT Tryd.prog 88 = some true := by kernel_rfl
theorem am_cl88 : Tryd.prog.cellsOf 88 = 2 := by kernel_rfl
theorem am_by88 : Tryd.prog.bytesOf 88 = 32 := by kernel_rfl
theorem am_el88 : elemOfSlice Tryd.prog 88 = none := by kernel_rfl
theorem am_ze88 : zeroCellsAV Tryd.prog 88 = some [.lit (.pointer none), .lit (.slice none 0 0)] := by kernel_rfl
theorem am_fi88_0 : fieldOf Tryd.prog 88 0 = some (0, 86) := by kernel_rfl
theorem am_fi88_1 : fieldOf Tryd.prog 88 1 = some (1, 87) := by kernel_rfl
theorem am_pl88 : placesL Tryd.prog 88 = some [(0, 1), (1, 1)] := by kernel_rfl
theorem am_in89 : (Tryd.prog.info? 89).isSome = true := by kernel_rfl
theorem am_ag89 : isAggT Tryd.prog 89 = some true := by kernel_rfl
theorem am_cl89 : Tryd.prog.cellsOf 89 = 2 := by kernel_rfl
theorem am_by89 : Tryd.prog.bytesOf 89 = 32 := by kernel_rfl
theorem am_el89 : elemOfSlice Tryd.prog 89 = none := by kernel_rfl
theorem am_ze89 : zeroCellsAV Tryd.prog 89 = some [.lit (.pointer none), .lit (.slice none 0 0)] := by kernel_rfl
theorem am_fi89_0 : fieldOf Tryd.prog 89 0 = some (0, 86) := by kernel_rfl
theorem am_fi89_1 : fieldOf Tryd.prog 89 1 = some (1, 87) := by kernel_rfl
theorem am_pl89 : placesL Tryd.prog 89 = some [(0, 1), (1, 1)] := by kernel_rfl
theorem am_ag90 : isAggT Tryd.prog 90 = some false := by kernel_rfl
theorem am_cl90 : Tryd.prog.cellsOf 90 = 1 := by kernel_rfl
theorem am_ag91 : isAggT Tryd.prog 91 = some false := by kernel_rfl
theorem am_cl91 : Tryd.prog.cellsOf 91 = 1 := by kernel_rfl
theorem am_ag93 : isAggT Tryd.prog 93 = some false := by kernel_rfl
theorem am_cl93 : Tryd.prog.cellsOf 93 = 1 := by kernel_rfl
theorem am_ag94 : isAggT Tryd.prog 94 = some false := by kernel_rfl
theorem am_cl94 : Tryd.prog.cellsOf 94 = 1 := by kernel_rfl
theorem am_in95 : (Tryd.prog.info? 95).isSome = true := by kernel_rfl
theorem am_ag95 : isAggT Tryd.prog 95 = some false := by kernel_rfl
theorem am_cl95 : Tryd.prog.cellsOf 95 = 1 := by kernel_rfl
theorem am_by95 : Tryd.prog.bytesOf 95 = 24 := by kernel_rfl
theorem am_el95 : elemOfSlice Tryd.prog 95 = some 9 := by kernel_rfl
theorem am_ze95 : zeroCellsAV Tryd.prog 95 = some [.lit (.slice none 0 0)] := by kernel_rfl
theorem am_ag96 : isAggT Tryd.prog 96 = some false := by kernel_rfl
theorem am_cl96 : Tryd.prog.cellsOf 96 = 1 := by kernel_rfl
theorem am_ag97 : isAggT Tryd.prog 97 = some false := by kernel_rfl
theorem am_cl97 : Tryd.prog.cellsOf 97 = 1 := by kernel_rfl
theorem am_ag98 : isAggT Tryd.prog 98 = some false := by kernel_rfl
theorem am_cl98 : Tryd.prog.cellsOf 98 = 1 := by kernel_rfl
theorem am_ag99 : isAggT Tryd.prog 99 = some false := by kernel_rfl
theorem am_cl99 : Tryd.prog.cellsOf 99 = 1 := by kernel_rfl
theorem am_ag100 : isAggT Tryd.prog 100 = some false := by kernel_rfl
theorem am_cl100 : Tryd.prog.cellsOf 100 = 1 := by kernel_rfl
theorem am_in101 : (Tryd.prog.info? 101).isSome = true := by kernel_rfl
theorem am_ag101 : isAggT Tryd.prog 101 = some true := by kernel_rfl
theorem am_cl101 : Tryd.prog.cellsOf 101 = 2 := by kernel_rfl
theorem am_by101 : Tryd.prog.bytesOf 101 = 16 := by kernel_rfl
theorem am_el101 : elemOfSlice Tryd.prog 101 = none := by kernel_rfl
theorem am_ze101 : zeroCellsAV Tryd.prog 101 = some [.lit (.int .i64 0), .lit (.int .i64 0)] := by kernel_rfl
theorem am_fi101_0 : fieldOf Tryd.prog 101 0 = some (0, 3) := by kernel_rfl
theorem am_fi101_1 : fieldOf Tryd.prog 101 1 = some (1, 3) := by kernel_rfl
theorem am_pl101 : placesL Tryd.prog 101 = some [(0, 1), (1, 1)] := by kernel_rfl
theorem am_in102 : (Tryd.prog.info? 102).isSome = true := by kernel_rfl
theorem am_ag102 : isAggT Tryd.prog 102 = some true := by kernel_rfl
theorem am_cl102 : Tryd.prog.cellsOf 102 = 2 := by kernel_rfl
theorem am_by102 : Tryd.prog.bytesOf 102 = 16 := by kernel_rfl
theorem am_el102 : elemOfSlice Tryd.prog 102 = none := by kernel_rfl
theorem am_ze102 : zeroCellsAV Tryd.prog 102 = some [.lit (.int .i64 0), .lit (.int .i64 0)] := by kernel_rfl
theorem am_fi102_0 : fieldOf Tryd.prog 102 0 = some (0, 3) := by kernel_rfl
theorem am_fi102_1 : fieldOf Tryd.prog 102 1 = some (1, 3) := by kernel_rfl
theorem am_pl102 : placesL Tryd.prog 102 = some [(0, 1), (1, 1)] := by kernel_rfl
theorem am_ag104 : isAggT Tryd.prog 104 = some false := by kernel_rfl
theorem am_cl104 : Tryd.prog.cellsOf 104 = 1 := by kernel_rfl
theorem am_ag105 : isAggT Tryd.prog 105 = some false := by kernel_rfl
theorem am_cl105 : Tryd.prog.cellsOf 105 = 1 := by kernel_rfl
theorem am_ag106 : isAggT Tryd.prog 106 = some false := by kernel_rfl
theorem am_cl106 : Tryd.prog.cellsOf 106 = 1 := by kernel_rfl
theorem am_ag107 : isAggT Tryd.prog 107 = some false := by kernel_rfl
theorem am_cl107 : Tryd.prog.cellsOf 107 = 1 := by kernel_rfl
theorem am_ag108 : isAggT Tryd.prog 108 = some false := by kernel_rfl
theorem am_cl108 : Tryd.prog.cellsOf 108 = 1 := by kernel_rfl
theorem am_ag109 : isAggT Tryd.prog 109 = some false := by kernel_rfl
theorem am_cl109 : Tryd.prog.cellsOf 109 = 1 := by kernel_rfl
theorem am_ag110 : isAggT Tryd.prog 110 = some false := by kernel_rfl
theorem am_cl110 : Tryd.prog.cellsOf 110 = 1 := by kernel_rfl
theorem am_ag111 : isAggT Tryd.prog 111 = some false := by kernel_rfl
theorem am_cl111 : Tryd.prog.cellsOf 111 = 1 := by kernel_rfl
theorem am_ag112 : isAggT Tryd.prog 112 = some false := by kernel_rfl
theorem am_cl112 : Tryd.prog.cellsOf 112 = 1 := by kernel_rfl
theorem am_ag113 : isAggT Tryd.prog 113 = some false := by kernel_rfl
theorem am_cl113 : Tryd.prog.cellsOf 113 = 1 := by kernel_rfl
theorem am_in114 : (Tryd.prog.info? 114).isSome = true := by kernel_rfl
theorem am_ag114 : isAggT Tryd.prog 114 = some false := by kernel_rfl
theorem am_cl114 : Tryd.prog.cellsOf 114 = 1 := by kernel_rfl
theorem am_by114 : Tryd.prog.bytesOf 114 = 8 := by kernel_rfl
theorem am_el114 : elemOfSlice Tryd.prog 114 = none := by kernel_rfl
theorem am_ze114 : zeroCellsAV Tryd.prog 114 = some [.lit (.pointer none)] := by kernel_rfl
theorem am_ag115 : isAggT Tryd.prog 115 = some false := by kernel_rfl
theorem am_cl115 : Tryd.prog.cellsOf 115 = 1 := by kernel_rfl
theorem am_ag116 : isAggT Tryd.prog 116 = some false := by kernel_rfl
theorem am_cl116 : Tryd.prog.cellsOf 116 = 1 := by kernel_rfl
theorem am_ag117 : isAggT Tryd.prog 117 = some false := by kernel_rfl
theorem am_cl117 : Tryd.prog.cellsOf 117 = 1 := by kernel_rfl
theorem am_ag119 : isAggT Tryd.prog 119 = some false := by kernel_rfl
theorem am_cl119 : Tryd.prog.cellsOf 119 = 1 := by kernel_rfl
theorem am_ag120 : isAggT Tryd.prog 120 = some false := by kernel_rfl
theorem am_cl120 : Tryd.prog.cellsOf 120 = 1 := by kernel_rfl
theorem am_ag121 : isAggT Tryd.prog 121 = some false := by kernel_rfl
theorem am_cl121 : Tryd.prog.cellsOf 121 = 1 := by kernel_rfl
theorem am_ag122 : isAggT Tryd.prog 122 = some false := by kernel_rfl
theorem am_cl122 : Tryd.prog.cellsOf 122 = 1 := by kernel_rfl
theorem am_ag123 : isAggT Tryd.prog 123 = some false := by kernel_rfl
theorem am_cl123 : Tryd.prog.cellsOf 123 = 1 := by kernel_rfl
theorem am_ag125 : isAggT Tryd.prog 125 = some false := by kernel_rfl
theorem am_cl125 : Tryd.prog.cellsOf 125 = 1 := by kernel_rfl
theorem am_in126 : (Tryd.prog.info? 126).isSome = true := by kernel_rfl
theorem am_ag126 : isAggT Tryd.prog 126 = some false := by kernel_rfl
theorem am_cl126 : Tryd.prog.cellsOf 126 = 1 := by kernel_rfl
theorem am_by126 : Tryd.prog.bytesOf 126 = 8 := by kernel_rfl
theorem am_el126 : elemOfSlice Tryd.prog 126 = none := by kernel_rfl
theorem am_ze126 : zeroCellsAV Tryd.prog 126 = some [.lit (.int .u64 0)] := by kernel_rfl
theorem am_in127 : (Tryd.prog.info? 127).isSome = true := by kernel_rfl
theorem am_ag127 : isAggT Tryd.prog 127 = some false := by kernel_rfl
theorem am_cl127 : Tryd.prog.cellsOf 127 = 1 := by kernel_rfl
theorem am_by127 : Tryd.prog.bytesOf 127 = 24 := by kernel_rfl
theorem am_el127 : elemOfSlice Tryd.prog 127 = some 130 := by kernel_rfl
theorem am_ze127 : zeroCellsAV Tryd.prog 127 = some [.lit (.slice none 0 0)] := by kernel_rfl
theorem am_ag128 : isAggT Tryd.prog 128 = some false := by kernel_rfl
theorem am_cl128 : Tryd.prog.cellsOf 128 = 1 := by kernel_rfl
theorem am_in129 : (Tryd.prog.info? 129).isSome = true := by kernel_rfl
theorem am_ag129 : isAggT Tryd.prog 129 = some true := by kernel_rfl
theorem am_cl129 : Tryd.prog.cellsOf 129 = 2 := by kernel_rfl
theorem am_by129 : Tryd.prog.bytesOf 129 = 16 := by kernel_rfl
theorem am_el129 : elemOfSlice Tryd.prog 129 = none := by kernel_rfl
theorem am_ze129 : zeroCellsAV Tryd.prog 129 = some [.lit (.int .i64 0), .lit (.int .u8 0)] := by kernel_rfl
theorem am_fi129_0 : fieldOf Tryd.prog 129 0 = some (0, 3) := by kernel_rfl
theorem am_fi129_1 : fieldOf Tryd.prog 129 1 = some (1, 5) := by kernel_rfl
theorem am_pl129 : placesL Tryd.prog 129 = some [(0, 1), (1, 1)] := by kernel_rfl
theorem am_in130 : (Tryd.prog.info? 130).isSome = true := by kernel_rfl
theorem am_ag130 : isAggT Tryd.prog 130 = some true := by kernel_rfl
theorem am_cl130 : Tryd.prog.cellsOf 130 = 2 := by kernel_rfl
theorem am_by130 : Tryd.prog.bytesOf 130 = 16 := by kernel_rfl
theorem am_el130 : elemOfSlice Tryd.prog 130 = none := by kernel_rfl
theorem am_ze130 : zeroCellsAV Tryd.prog 130 = some [.lit (.int .i64 0), .lit (.int .u8 0)] := by kernel_rfl
theorem am_fi130_0 : fieldOf Tryd.prog 130 0 = some (0, 3) := by kernel_rfl
theorem am_fi130_1 : fieldOf Tryd.prog 130 1 = some (1, 5) := by kernel_rfl
theorem am_pl130 : placesL Tryd.prog 130 = some [(0, 1), (1, 1)] := by kernel_rfl
theorem am_in131 : (Tryd.prog.info? 131).isSome = true := by kernel_rfl
theorem am_ag131 : isAggT Tryd.prog 131 = some true := by kernel_rfl
theorem am_cl131 : Tryd.prog.cellsOf 131 = 24 := by kernel_rfl
theorem am_by131 : Tryd.prog.bytesOf 131 = 24 := by kernel_rfl
theorem am_el131 : elemOfSlice Tryd.prog 131 = none := by kernel_rfl
theorem am_ze131 : zeroCellsAV Tryd.prog 131 = some [.lit (.int .u8 0), .lit (.int .u8 0), .lit (.int .u8 0), .lit (.int .u8 0), .lit (.int .u8 0), .lit (.int .u8 0), .lit (.int .u8 0), .lit (.int .u8 0), .lit (.int .u8 0), .lit (.int .u8 0), .lit (.int .u8 0), .lit (.int .u8 0), .lit (.int .u8 0), .lit (.int .u8 0), .lit (.int .u8 0), .lit (.int .u8 0), .lit (.int .u8 0), .lit (.int .u8 0), .lit (.int .u8 0), .lit (.int .u8 0), .lit (.int .u8 0), .lit (.int .u8 0), .lit (.int .u8 0), .lit (.int .u8 0)] := by kernel_rfl
theorem am_ar131 : arrOf Tryd.prog 131 = some (24, 5) := by kernel_rfl
theorem am_pn131 : placesL Tryd.prog 131 = none := by kernel_rfl
theorem am_in132 : (Tryd.prog.info? 132).isSome = true := by kernel_rfl
theorem am_ag132 : isAggT Tryd.prog 132 = some false := by kernel_rfl
theorem am_cl132 : Tryd.prog.cellsOf 132 = 1 := by kernel_rfl
theorem am_by132 : Tryd.prog.bytesOf 132 = 8 := by kernel_rfl
theorem am_el132 : elemOfSlice Tryd.prog 132 = none := by kernel_rfl
theorem am_ze132 : zeroCellsAV Tryd.prog 132 = some [.lit (.int .u64 0)] := by kernel_rfl
theorem am_ag133 : isAggT Tryd.prog 133 = some false := by kernel_rfl
theorem am_cl133 : Tryd.prog.cellsOf 133 = 1 := by kernel_rfl
theorem am_ag134 : isAggT Tryd.prog 134 = some false := by kernel_rfl
theorem am_cl134 : Tryd.prog.cellsOf 134 = 1 := by kernel_rfl
theorem am_ag136 : isAggT Tryd.prog 136 = some false := by kernel_rfl
theorem am_cl136 : Tryd.prog.cellsOf 136 = 1 := by kernel_rfl
theorem am_ag137 : isAggT Tryd.prog 137 = some false := by kernel_rfl
theorem am_cl137 : Tryd.prog.cellsOf 137 = 1 := by kernel_rfl
theorem am_ag138 : isAggT Tryd.prog 138 = some false := by kernel_rfl
theorem am_cl138 : Tryd.prog.cellsOf 138 = 1 := by kernel_rfl
theorem am_ag139 : isAggT Tryd.prog 139 = some false := by kernel_rfl
theorem am_cl139 : Tryd.prog.cellsOf 139 = 1 := by kernel_rfl
theorem am_ag140 : isAggT Tryd.prog 140 = some false := by kernel_rfl
theorem am_cl140 : Tryd.prog.cellsOf 140 = 1 := by kernel_rfl
theorem am_ag141 : isAggT Tryd.prog 141 = some false := by kernel_rfl
theorem am_cl141 : Tryd.prog.cellsOf 141 = 1 := by kernel_rfl
theorem am_ag142 : isAggT Tryd.prog 142 = some false := by kernel_rfl
theorem am_cl142 : Tryd.prog.cellsOf 142 = 1 := by kernel_rfl
theorem am_ag144 : isAggT Tryd.prog 144 = some false := by kernel_rfl
theorem am_cl144 : Tryd.prog.cellsOf 144 = 1 := by kernel_rfl
theorem am_ag145 : isAggT Tryd.prog 145 = some false := by kernel_rfl
theorem am_cl145 : Tryd.prog.cellsOf 145 = 1 := by kernel_rfl
theorem am_in146 : (Tryd.prog.info? 146).isSome = true := by kernel_rfl
theorem am_ag146 : isAggT Tryd.prog 146 = some true := by kernel_rfl
theorem am_cl146 : Tryd.prog.cellsOf 146 = 20 := by kernel_rfl
theorem am_by146 : Tryd.prog.bytesOf 146 = 160 := by kernel_rfl
theorem am_el146 : elemOfSlice Tryd.prog 146 = none := by kernel_rfl
theorem am_ze146 : zeroCellsAV Tryd.prog 146 = some [.lit (.int .u64 0), .lit (.int .u64 0), .lit (.int .u64 0), .lit (.int .u64 0), .lit (.int .u64 0), .lit (.int .u64 0), .lit (.int .u64 0), .lit (.int .u64 0), .lit (.int .u64 0), .lit (.int .u64 0), .lit (.int .u64 0), .lit (.int .u64 0), .lit (.int .u64 0), .lit (.int .u64 0), .lit (.int .u64 0), .lit (.int .u64 0), .lit (.int .u64 0), .lit (.int .u64 0), .lit (.int .u64 0), .lit (.int .u64 0)] := by kernel_rfl
theorem am_ar146 : arrOf Tryd.prog 146 = some (20, 132) := by kernel_rfl
theorem am_pn146 : placesL Tryd.prog 146 = none := by kernel_rfl
theorem am_in147 : (Tryd.prog.info? 147).isSome = true := by kernel_rfl
theorem am_ag147 : isAggT Tryd.prog 147 = some true := by kernel_rfl
theorem am_cl147 : Tryd.prog.cellsOf 147 = 65 := by kernel_rfl
theorem am_by147 : Tryd.prog.bytesOf 147 = 65 := by kernel_rfl
theorem am_el147 : elemOfSlice Tryd.prog 147 = none := by kernel_rfl
theorem am_ar147 : arrOf Tryd.prog 147 = some (65, 5) := by kernel_rfl
theorem am_pn147 : placesL Tryd.prog 147 = none := by kernel_rfl
theorem am_ag148 : isAggT Tryd.prog 148 = some false := by kernel_rfl
theorem am_cl148 : Tryd.prog.cellsOf 148 = 1 := by kernel_rfl
theorem am_in149 : (Tryd.prog.info? 149).isSome = true := by kernel_rfl
theorem am_ag149 : isAggT Tryd.prog 149 = some false := by kernel_rfl
theorem am_cl149 : Tryd.prog.cellsOf 149 = 1 := by kernel_rfl
theorem am_by149 : Tryd.prog.bytesOf 149 = 24 := by kernel_rfl
theorem am_el149 : elemOfSlice Tryd.prog 149 = some 152 := by kernel_rfl
theorem am_ze149 : zeroCellsAV Tryd.prog 149 = some [.lit (.slice none 0 0)] := by kernel_rfl
theorem am_ag150 : isAggT Tryd.prog 150 = some false := by kernel_rfl
theorem am_cl150 : Tryd.prog.cellsOf 150 = 1 := by kernel_rfl
theorem am_in151 : (Tryd.prog.info? 151).isSome = true := by kernel_rfl
theorem am_ag151 : isAggT Tryd.prog 151 = some true := by kernel_rfl
theorem am_cl151 : Tryd.prog.cellsOf 151 = 3 := by kernel_rfl
theorem am_by151 : Tryd.prog.bytesOf 151 = 24 := by kernel_rfl
theorem am_el151 : elemOfSlice Tryd.prog 151 = none := by kernel_rfl
theorem am_ze151 : zeroCellsAV Tryd.prog 151 = some [.lit (.int .i64 0), .lit (.int .i64 0), .lit (.int .i64 0)] := by kernel_rfl
theorem am_fi151_0 : fieldOf Tryd.prog 151 0 = some (0, 3) := by kernel_rfl
theorem am_fi151_1 : fieldOf Tryd.prog 151 1 = some (1, 3) := by kernel_rfl
theorem am_fi151_2 : fieldOf Tryd.prog 151 2 = some (2, 3) := by kernel_rfl
theorem am_pl151 : placesL Tryd.prog 151 = some [(0, 1), (1, 1), (2, 1)] := by kernel_rfl
theorem am_in152 : (Tryd.prog.info? 152).isSome = true := by kernel_rfl
theorem am_ag152 : isAggT Tryd.prog 152 = some true := by kernel_rfl
theorem am_cl152 : Tryd.prog.cellsOf 152 = 3 := by kernel_rfl
theorem am_by152 : Tryd.prog.bytesOf 152 = 24 := by kernel_rfl
theorem am_el152 : elemOfSlice Tryd.prog 152 = none := by kernel_rfl
theorem am_ze152 : zeroCellsAV Tryd.prog 152 = some [.lit (.int .i64 0), .lit (.int .i64 0), .lit (.int .i64 0)] := by kernel_rfl
theorem am_fi152_0 : fieldOf Tryd.prog 152 0 = some (0, 3) := by kernel_rfl
theorem am_fi152_1 : fieldOf Tryd.prog 152 1 = some (1, 3) := by kernel_rfl
theorem am_fi152_2 : fieldOf Tryd.prog 152 2 = some (2, 3) := by kernel_rfl
theorem am_pl152 : placesL Tryd.prog 152 = some [(0, 1), (1, 1), (2, 1)] := by kernel_rfl
theorem am_ag154 : isAggT Tryd.prog 154 = some false := by kernel_rfl
theorem am_cl154 : Tryd.prog.cellsOf 154 = 1 := by kernel_rfl
theorem am_in155 : (Tryd.prog.info? 155).isSome = true := by kernel_rfl
theorem am_ag155 : isAggT Tryd.prog 155 = some false := by kernel_rfl
theorem am_cl155 : Tryd.prog.cellsOf 155 = 1 := by kernel_rfl
theorem am_by155 : Tryd.prog.bytesOf 155 = 8 := by kernel_rfl
theorem am_el155 : elemOfSlice Tryd.prog 155 = none := by kernel_rfl
theorem am_ze155 : zeroCellsAV Tryd.prog 155 = some [.lit (.int .i64 0)] := by kernel_rfl
theorem am_ag157 : isAggT Tryd.prog 157 = some false := by kernel_rfl
theorem am_cl157 : Tryd.prog.cellsOf 157 = 1 := by kernel_rfl
theorem am_in158 : (Tryd.prog.info? 158).isSome = true := by kernel_rfl
theorem am_ag158 : isAggT Tryd.prog 158 = some false := by kernel_rfl
theorem am_cl158 : Tryd.prog.cellsOf 158 = 1 := by kernel_rfl
theorem am_by158 : Tryd.prog.bytesOf 158 = 8 := by kernel_rfl
theorem am_el158 : elemOfSlice Tryd.prog 158 = none := by kernel_rfl
theorem am_ze158 : zeroCellsAV Tryd.prog 158 = some [.lit (.pointer none)] := by kernel_rfl
theorem am_ag159 : isAggT Tryd.prog 159 = some false := by kernel_rfl
theorem am_cl159 : Tryd.prog.cellsOf 159 = 1 := by kernel_rfl
theorem am_ag160 : isAggT Tryd.prog 160 = some false := by kernel_rfl
theorem am_cl160 : Tryd.prog.cellsOf 160 = 1 := by kernel_rfl
theorem am_ag161 : isAggT Tryd.prog 161 = some false := by kernel_rfl
theorem am_cl161 : Tryd.prog.cellsOf 161 = 1 := by kernel_rfl
theorem am_ag163 : isAggT Tryd.prog 163 = some false := by kernel_rfl
theorem am_cl163 : Tryd.prog.cellsOf 163 = 1 := by kernel_rfl
theorem am_ag164 : isAggT Tryd.prog 164 = some false := by kernel_rfl
theorem am_cl164 : Tryd.prog.cellsOf 164 = 1 := by kernel_rfl
theorem am_in165 : (Tryd.prog.info? 165).isSome = true := by kernel_rfl
theorem am_ag165 : isAggT Tryd.prog 165 = some true := by kernel_rfl
theorem am_cl165 : Tryd.prog.cellsOf 165 = 3 := by kernel_rfl
theorem am_by165 : Tryd.prog.bytesOf 165 = 48 := by kernel_rfl
theorem am_el165 : elemOfSlice Tryd.prog 165 = none := by kernel_rfl
theorem am_ze165 : zeroCellsAV Tryd.prog 165 = some [.lit (.string ByteArray.empty), .lit (.string ByteArray.empty), .lit (.nilIface)] := by kernel_rfl
theorem am_fi165_0 : fieldOf Tryd.prog 165 0 = some (0, 9) := by kernel_rfl
theorem am_fi165_1 : fieldOf Tryd.prog 165 1 = some (1, 9) := by kernel_rfl
theorem am_fi165_2 : fieldOf Tryd.prog 165 2 = some (2, 91) := by kernel_rfl
theorem am_pl165 : placesL Tryd.prog 165 = some [(0, 1), (1, 1), (2, 1)] := by kernel_rfl
theorem am_in166 : (Tryd.prog.info? 166).isSome = true := by kernel_rfl
theorem am_ag166 : isAggT Tryd.prog 166 = some true := by kernel_rfl
theorem am_cl166 : Tryd.prog.cellsOf 166 = 3 := by kernel_rfl
theorem am_by166 : Tryd.prog.bytesOf 166 = 48 := by kernel_rfl
theorem am_el166 : elemOfSlice Tryd.prog 166 = none := by kernel_rfl
theorem am_ze166 : zeroCellsAV Tryd.prog 166 = some [.lit (.string ByteArray.empty), .lit (.string ByteArray.empty), .lit (.nilIface)] := by kernel_rfl
theorem am_fi166_0 : fieldOf Tryd.prog 166 0 = some (0, 9) := by kernel_rfl
theorem am_fi166_1 : fieldOf Tryd.prog 166 1 = some (1, 9) := by kernel_rfl
theorem am_fi166_2 : fieldOf Tryd.prog 166 2 = some (2, 91) := by kernel_rfl
theorem am_pl166 : placesL Tryd.prog 166 = some [(0, 1), (1, 1), (2, 1)] := by kernel_rfl
theorem am_ag167 : isAggT Tryd.prog 167 = some false := by kernel_rfl
theorem am_cl167 : Tryd.prog.cellsOf 167 = 1 := by kernel_rfl
theorem am_in168 : (Tryd.prog.info? 168).isSome = true := by kernel_rfl
theorem am_ag168 : isAggT Tryd.prog 168 = some true := by kernel_rfl
theorem am_cl168 : Tryd.prog.cellsOf 168 = 32 := by kernel_rfl
theorem am_by168 : Tryd.prog.bytesOf 168 = 32 := by kernel_rfl
theorem am_el168 : elemOfSlice Tryd.prog 168 = none := by kernel_rfl
theorem am_ze168 : zeroCellsAV Tryd.prog 168 = some [.lit (.int .u8 0), .lit (.int .u8 0), .lit (.int .u8 0), .lit (.int .u8 0), .lit (.int .u8 0), .lit (.int .u8 0), .lit (.int .u8 0), .lit (.int .u8 0), .lit (.int .u8 0), .lit (.int .u8 0), .lit (.int .u8 0), .lit (.int .u8 0), .lit (.int .u8 0), .lit (.int .u8 0), .lit (.int .u8 0), .lit (.int .u8 0), .lit (.int .u8 0), .lit (.int .u8 0), .lit (.int .u8 0), .lit (.int .u8 0), .lit (.int .u8 0), .lit (.int .u8 0), .lit (.int .u8 0), .lit (.int .u8 0), .lit (.int .u8 0), .lit (.int .u8 0), .lit (.int .u8 0), .lit (.int .u8 0), .lit (.int .u8 0), .lit (.int .u8 0), .lit (.int .u8 0), .lit (.int .u8 0)] := by kernel_rfl
theorem am_ar168 : arrOf Tryd.prog 168 = some (32, 5) := by kernel_rfl
theorem am_pn168 : placesL Tryd.prog 168 = none := by kernel_rfl
theorem am_in169 : (Tryd.prog.info? 169).isSome = true := by kernel_rfl
theorem am_ag169 : isAggT Tryd.prog 169 = some true := by kernel_rfl
theorem am_cl169 : Tryd.prog.cellsOf 169 = 64 := by kernel_rfl
theorem am_by169 : Tryd.prog.bytesOf 169 = 64 := by kernel_rfl
theorem am_el169 : elemOfSlice Tryd.prog 169 = none := by kernel_rfl
theorem am_ar169 : arrOf Tryd.prog 169 = some (64, 5) := by kernel_rfl
theorem am_pn169 : placesL Tryd.prog 169 = none := by kernel_rfl
theorem am_in170 : (Tryd.prog.info? 170).isSome = true := by kernel_rfl
theorem am_ag170 : isAggT Tryd.prog 170 = some true := by kernel_rfl
theorem am_cl170 : Tryd.prog.cellsOf 170 = 256 := by kernel_rfl
theorem am_by170 : Tryd.prog.bytesOf 170 = 256 := by kernel_rfl
theorem am_el170 : elemOfSlice Tryd.prog 170 = none := by kernel_rfl
theorem am_ar170 : arrOf Tryd.prog 170 = some (256, 5) := by kernel_rfl
theorem am_pn170 : placesL Tryd.prog 170 = none := by kernel_rfl
theorem am_in171 : (Tryd.prog.info? 171).isSome = true := by kernel_rfl
theorem am_ag171 : isAggT Tryd.prog 171 = some true := by kernel_rfl
theorem am_cl171 : Tryd.prog.cellsOf 171 = 2 := by kernel_rfl
theorem am_by171 : Tryd.prog.bytesOf 171 = 2 := by kernel_rfl
theorem am_el171 : elemOfSlice Tryd.prog 171 = none := by kernel_rfl
theorem am_ze171 : zeroCellsAV Tryd.prog 171 = some [.lit (.int .u8 0), .lit (.int .u8 0)] := by kernel_rfl
theorem am_fi171_0 : fieldOf Tryd.prog 171 0 = some (0, 5) := by kernel_rfl
theorem am_fi171_1 : fieldOf Tryd.prog 171 1 = some (1, 5) := by kernel_rfl
theorem am_pl171 : placesL Tryd.prog 171 = some [(0, 1), (1, 1)] := by kernel_rfl
theorem am_in172 : (Tryd.prog.info? 172).isSome = true := by kernel_rfl
theorem am_ag172 : isAggT Tryd.prog 172 = some true := by kernel_rfl
theorem am_cl172 : Tryd.prog.cellsOf 172 = 2 := by kernel_rfl
theorem am_by172 : Tryd.prog.bytesOf 172 = 2 := by kernel_rfl
theorem am_el172 : elemOfSlice Tryd.prog 172 = none := by kernel_rfl
theorem am_ze172 : zeroCellsAV Tryd.prog 172 = some [.lit (.int .u8 0), .lit (.int .u8 0)] := by kernel_rfl
theorem am_fi172_0 : fieldOf Tryd.prog 172 0 = some (0, 5) := by kernel_rfl
theorem am_fi172_1 : fieldOf Tryd.prog 172 1 = some (1, 5) := by kernel_rfl
theorem am_pl172 : placesL Tryd.prog 172 = some [(0, 1), (1, 1)] := by kernel_rfl
theorem am_in173 : (Tryd.prog.info? 173).isSome = true := by kernel_rfl
theorem am_ag173 : isAggT Tryd.prog 173 = some true := by kernel_rfl
theorem am_cl173 : Tryd.prog.cellsOf 173 = 32 := by kernel_rfl
theorem am_by173 : Tryd.prog.bytesOf 173 = 32 := by kernel_rfl
theorem am_el173 : elemOfSlice Tryd.prog 173 = none := by kernel_rfl
theorem am_ze173 : zeroCellsAV Tryd.prog 173 = some [.lit (.int .u8 0), .lit (.int .u8 0), .lit (.int .u8 0), .lit (.int .u8 0), .lit (.int .u8 0), .lit (.int .u8 0), .lit (.int .u8 0), .lit (.int .u8 0), .lit (.int .u8 0), .lit (.int .u8 0), .lit (.int .u8 0), .lit (.int .u8 0), .lit (.int .u8 0), .lit (.int .u8 0), .lit (.int .u8 0), .lit (.int .u8 0), .lit (.int .u8 0), .lit (.int .u8 0), .lit (.int .u8 0), .lit (.int .u8 0), .lit (.int .u8 0), .lit (.int .u8 0), .lit (.int .u8 0), .lit (.int .u8 0), .lit (.int .u8 0), .lit (.int .u8 0), .lit (.int .u8 0), .lit (.int .u8 0), .lit (.int .u8 0), .lit (.int .u8 0), .lit (.int .u8 0), .lit (.int .u8 0)] := by kernel_rfl
theorem am_ar173 : arrOf Tryd.prog 173 = some (16, 172) := by kernel_rfl
theorem am_pn173 : placesL Tryd.prog 173 = none := by kernel_rfl
theorem am_ag174 : isAggT Tryd.prog 174 = some false := by kernel_rfl
theorem am_cl174 : Tryd.prog.cellsOf 174 = 1 := by kernel_rfl
theorem am_in175 : (Tryd.prog.info? 175).isSome = true := by kernel_rfl
theorem am_ag175 : isAggT Tryd.prog 175 = some false := by kernel_rfl
theorem am_cl175 : Tryd.prog.cellsOf 175 = 1 := by kernel_rfl
theorem am_by175 : Tryd.prog.bytesOf 175 = 8 := by kernel_rfl
theorem am_el175 : elemOfSlice Tryd.prog 175 = none := by kernel_rfl
theorem am_ze175 : zeroCellsAV Tryd.prog 175 = some [.lit (.pointer none)] := by kernel_rfl
theorem am_in176 : (Tryd.prog.info? 176).isSome = true := by kernel_rfl
theorem am_ag176 : isAggT Tryd.prog 176 = some true := by kernel_rfl
theorem am_cl176 : Tryd.prog.cellsOf 176 = 1 := by kernel_rfl
theorem am_by176 : Tryd.prog.bytesOf 176 = 16 := by kernel_rfl
theorem am_el176 : elemOfSlice Tryd.prog 176 = none := by kernel_rfl
theorem am_ze176 : zeroCellsAV Tryd.prog 176 = some [.lit (.string ByteArray.empty)] := by kernel_rfl
theorem am_fi176_0 : fieldOf Tryd.prog 176 0 = some (0, 9) := by kernel_rfl
theorem am_pl176 : placesL Tryd.prog 176 = some [(0, 1)] := by kernel_rfl
theorem am_in177 : (Tryd.prog.info? 177).isSome = true := by kernel_rfl
theorem am_ag177 : isAggT Tryd.prog 177 = some true := by kernel_rfl
theorem am_cl177 : Tryd.prog.cellsOf 177 = 1 := by kernel_rfl
theorem am_by177 : Tryd.prog.bytesOf 177 = 16 := by kernel_rfl
theorem am_el177 : elemOfSlice Tryd.prog 177 = none := by kernel_rfl
theorem am_ze177 : zeroCellsAV Tryd.prog 177 = some [.lit (.string ByteArray.empty)] := by kernel_rfl
theorem am_fi177_0 : fieldOf Tryd.prog 177 0 = some (0, 9) := by kernel_rfl
theorem am_pl177 : placesL Tryd.prog 177 = some [(0, 1)] := by kernel_rfl
theorem am_in178 : (Tryd.prog.info? 178).isSome = true := by kernel_rfl
theorem am_ag178 : isAggT Tryd.prog 178 = some true := by kernel_rfl
theorem am_cl178 : Tryd.prog.cellsOf 178 = 4 := by kernel_rfl
theorem am_by178 : Tryd.prog.bytesOf 178 = 40 := by kernel_rfl
theorem am_el178 : elemOfSlice Tryd.prog 178 = none := by kernel_rfl
theorem am_ze178 : zeroCellsAV Tryd.prog 178 = some [.lit (.pointer none), .lit (.pointer none), .lit (.pointer none), .lit (.string ByteArray.empty)] := by kernel_rfl
theorem am_fi178_0 : fieldOf Tryd.prog 178 0 = some (0, 17) := by kernel_rfl
theorem am_fi178_1 : fieldOf Tryd.prog 178 1 = some (1, 17) := by kernel_rfl
theorem am_fi178_2 : fieldOf Tryd.prog 178 2 = some (2, 17) := by kernel_rfl
theorem am_fi178_3 : fieldOf Tryd.prog 178 3 = some (3, 9) := by kernel_rfl
theorem am_pl178 : placesL Tryd.prog 178 = some [(0, 1), (1, 1), (2, 1), (3, 1)] := by kernel_rfl
theorem am_in179 : (Tryd.prog.info? 179).isSome = true := by kernel_rfl
theorem am_ag179 : isAggT Tryd.prog 179 = some true := by kernel_rfl
theorem am_cl179 : Tryd.prog.cellsOf 179 = 4 := by kernel_rfl
theorem am_by179 : Tryd.prog.bytesOf 179 = 40 := by kernel_rfl
theorem am_el179 : elemOfSlice Tryd.prog 179 = none := by kernel_rfl
theorem am_ze179 : zeroCellsAV Tryd.prog 179 = some [.lit (.pointer none), .lit (.pointer none), .lit (.pointer none), .lit (.string ByteArray.empty)] := by kernel_rfl
theorem am_fi179_0 : fieldOf Tryd.prog 179 0 = some (0, 17) := by kernel_rfl
theorem am_fi179_1 : fieldOf Tryd.prog 179 1 = some (1, 17) := by kernel_rfl
theorem am_fi179_2 : fieldOf Tryd.prog 179 2 = some (2, 17) := by kernel_rfl
theorem am_fi179_3 : fieldOf Tryd.prog 179 3 = some (3, 9) := by kernel_rfl
theorem am_pl179 : placesL Tryd.prog 179 = some [(0, 1), (1, 1), (2, 1), (3, 1)] := by kernel_rfl
theorem am_in180 : (Tryd.prog.info? 180).isSome = true := by kernel_rfl
theorem am_ag180 : isAggT Tryd.prog 180 = some true := by kernel_rfl
theorem am_cl180 : Tryd.prog.cellsOf 180 = 0 := by kernel_rfl
theorem am_by180 : Tryd.prog.bytesOf 180 = 0 := by kernel_rfl
theorem am_el180 : elemOfSlice Tryd.prog 180 = none := by kernel_rfl
theorem am_ze180 : zeroCellsAV Tryd.prog 180 = some [] := by kernel_rfl
theorem am_ar180 : arrOf Tryd.prog 180 = some (0, 16) := by kernel_rfl
theorem am_pn180 : placesL Tryd.prog 180 = none := by kernel_rfl
theorem am_in181 : (Tryd.prog.info? 181).isSome = true := by kernel_rfl
theorem am_ag181 : isAggT Tryd.prog 181 = some true := by kernel_rfl
theorem am_cl181 : Tryd.prog.cellsOf 181 = 0 := by kernel_rfl
theorem am_by181 : Tryd.prog.bytesOf 181 = 0 := by kernel_rfl
theorem am_el181 : elemOfSlice Tryd.prog 181 = none := by kernel_rfl
theorem am_ze181 : zeroCellsAV Tryd.prog 181 = some [] := by kernel_rfl
theorem am_fi181_0 : fieldOf Tryd.prog 181 0 = some (0, 180) := by kernel_rfl
theorem am_pl181 : placesL Tryd.prog 181 = some [(0, 0)] := by kernel_rfl
theorem am_in182 : (Tryd.prog.info? 182).isSome = true := by kernel_rfl
theorem am_ag182 : isAggT Tryd.prog 182 = some true := by kernel_rfl
theorem am_cl182 : Tryd.prog.cellsOf 182 = 0 := by kernel_rfl
theorem am_by182 : Tryd.prog.bytesOf 182 = 0 := by kernel_rfl
theorem am_el182 : elemOfSlice Tryd.prog 182 = none := by kernel_rfl
theorem am_ze182 : zeroCellsAV Tryd.prog 182 = some [] := by kernel_rfl
theorem am_fi182_0 : fieldOf Tryd.prog 182 0 = some (0, 180) := by kernel_rfl
theorem am_pl182 : placesL Tryd.prog 182 = some [(0, 0)] := by kernel_rfl
theorem am_in183 : (Tryd.prog.info? 183).isSome = true := by kernel_rfl
theorem am_ag183 : isAggT Tryd.prog 183 = some false := by kernel_rfl
theorem am_cl183 : Tryd.prog.cellsOf 183 = 1 := by kernel_rfl
theorem am_by183 : Tryd.prog.bytesOf 183 = 1 := by kernel_rfl
theorem am_el183 : elemOfSlice Tryd.prog 183 = none := by kernel_rfl
theorem am_ze183 : zeroCellsAV Tryd.prog 183 = some [.lit (.int .u8 0)] := by kernel_rfl
theorem am_in184 : (Tryd.prog.info? 184).isSome = true := by kernel_rfl
theorem am_ag184 : isAggT Tryd.prog 184 = some false := by kernel_rfl
theorem am_cl184 : Tryd.prog.cellsOf 184 = 1 := by kernel_rfl
theorem am_by184 : Tryd.prog.bytesOf 184 = 1 := by kernel_rfl
theorem am_el184 : elemOfSlice Tryd.prog 184 = none := by kernel_rfl
theorem am_ze184 : zeroCellsAV Tryd.prog 184 = some [.lit (.int .u8 0)] := by kernel_rfl
theorem am_ag185 : isAggT Tryd.prog 185 = some false := by kernel_rfl
theorem am_cl185 : Tryd.prog.cellsOf 185 = 1 := by kernel_rfl
theorem am_in186 : (Tryd.prog.info? 186).isSome = true := by kernel_rfl
theorem am_ag186 : isAggT Tryd.prog 186 = some false := by kernel_rfl
theorem am_cl186 : Tryd.prog.cellsOf 186 = 1 := by kernel_rfl
theorem am_by186 : Tryd.prog.bytesOf 186 = 4 := by kernel_rfl
theorem am_el186 : elemOfSlice Tryd.prog 186 = none := by kernel_rfl
theorem am_ze186 : zeroCellsAV Tryd.prog 186 = some [.lit (.int .i32 0)] := by kernel_rfl
theorem am_in187 : (Tryd.prog.info? 187).isSome = true := by kernel_rfl
theorem am_ag187 : isAggT Tryd.prog 187 = some false := by kernel_rfl
theorem am_cl187 : Tryd.prog.cellsOf 187 = 1 := by kernel_rfl
theorem am_by187 : Tryd.prog.bytesOf 187 = 4 := by kernel_rfl
theorem am_el187 : elemOfSlice Tryd.prog 187 = none := by kernel_rfl
theorem am_ze187 : zeroCellsAV Tryd.prog 187 = some [.lit (.int .i32 0)] := by kernel_rfl
theorem am_in188 : (Tryd.prog.info? 188).isSome = true := by kernel_rfl
theorem am_ag188 : isAggT Tryd.prog 188 = some true := by kernel_rfl
theorem am_cl188 : Tryd.prog.cellsOf 188 = 11 := by kernel_rfl
theorem am_by188 : Tryd.prog.bytesOf 188 = 48 := by kernel_rfl
theorem am_el188 : elemOfSlice Tryd.prog 188 = none := by kernel_rfl
theorem am_ze188 : zeroCellsAV Tryd.prog 188 = some [.lit (.int .u64 0), .lit (.int .u64 0), .lit (.int .u32 0), .lit (.int .u8 0), .lit (.int .u8 0), .lit (.int .u8 0), .lit (.int .u8 0), .lit (.nilFunc), .lit (.pointer none), .lit (.int .i32 0), .lit (.int .i32 0)] := by kernel_rfl
theorem am_fi188_0 : fieldOf Tryd.prog 188 0 = some (0, 12) := by kernel_rfl
theorem am_fi188_1 : fieldOf Tryd.prog 188 1 = some (1, 12) := by kernel_rfl
theorem am_fi188_2 : fieldOf Tryd.prog 188 2 = some (2, 33) := by kernel_rfl
theorem am_fi188_3 : fieldOf Tryd.prog 188 3 = some (3, 183) := by kernel_rfl
theorem am_fi188_4 : fieldOf Tryd.prog 188 4 = some (4, 5) := by kernel_rfl
theorem am_fi188_5 : fieldOf Tryd.prog 188 5 = some (5, 5) := by kernel_rfl
theorem am_fi188_6 : fieldOf Tryd.prog 188 6 = some (6, 184) := by kernel_rfl
theorem am_fi188_7 : fieldOf Tryd.prog 188 7 = some (7, 185) := by kernel_rfl
theorem am_fi188_8 : fieldOf Tryd.prog 188 8 = some (8, 114) := by kernel_rfl
theorem am_fi188_9 : fieldOf Tryd.prog 188 9 = some (9, 186) := by kernel_rfl
theorem am_fi188_10 : fieldOf Tryd.prog 188 10 = some (10, 187) := by kernel_rfl
theorem am_pl188 : placesL Tryd.prog 188 = some [(0, 1), (1, 1), (2, 1), (3, 1), (4, 1), (5, 1), (6, 1), (7, 1), (8, 1), (9, 1), (10, 1)] := by kernel_rfl
theorem am_in189 : (Tryd.prog.info? 189).isSome = true := by kernel_rfl
theorem am_ag189 : isAggT Tryd.prog 189 = some true := by kernel_rfl
theorem am_cl189 : Tryd.prog.cellsOf 189 = 11 := by kernel_rfl
theorem am_by189 : Tryd.prog.bytesOf 189 = 48 := by kernel_rfl
theorem am_el189 : elemOfSlice Tryd.prog 189 = none := by kernel_rfl
theorem am_ze189 : zeroCellsAV Tryd.prog 189 = some [.lit (.int .u64 0), .lit (.int .u64 0), .lit (.int .u32 0), .lit (.int .u8 0), .lit (.int .u8 0), .lit (.int .u8 0), .lit (.int .u8 0), .lit (.nilFunc), .lit (.pointer none), .lit (.int .i32 0), .lit (.int .i32 0)] := by kernel_rfl
theorem am_fi189_0 : fieldOf Tryd.prog 189 0 = some (0, 12) := by kernel_rfl
theorem am_fi189_1 : fieldOf Tryd.prog 189 1 = some (1, 12) := by kernel_rfl
theorem am_fi189_2 : fieldOf Tryd.prog 189 2 = some (2, 33) := by kernel_rfl
theorem am_fi189_3 : fieldOf Tryd.prog 189 3 = some (3, 183) := by kernel_rfl
theorem am_fi189_4 : fieldOf Tryd.prog 189 4 = some (4, 5) := by kernel_rfl
theorem am_fi189_5 : fieldOf Tryd.prog 189 5 = some (5, 5) := by kernel_rfl
theorem am_fi189_6 : fieldOf Tryd.prog 189 6 = some (6, 184) := by kernel_rfl
theorem am_fi189_7 : fieldOf Tryd.prog 189 7 = some (7, 185) := by kernel_rfl
theorem am_fi189_8 : fieldOf Tryd.prog 189 8 = some (8, 114) := by kernel_rfl
theorem am_fi189_9 : fieldOf Tryd.prog 189 9 = some (9, 186) := by kernel_rfl
theorem am_fi189_10 : fieldOf Tryd.prog 189 10 = some (10, 187) := by kernel_rfl
theorem am_pl189 : placesL Tryd.prog 189 = some [(0, 1), (1, 1), (2, 1), (3, 1), (4, 1), (5, 1), (6, 1), (7, 1), (8, 1), (9, 1), (10, 1)] := by kernel_rfl

end Go.Proofs.YtnbjmckhongidaaDoor

