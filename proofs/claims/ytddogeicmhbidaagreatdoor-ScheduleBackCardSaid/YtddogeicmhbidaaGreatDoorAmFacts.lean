/-
  Closed facts on the types of the program, as the abstract machine asks them.
  Conditions: none.
-/
import Derived.Test.YtddogeicmhbidaaGreatDoorAmStep
import Derived.Test.YtddogeicmhbidaaGreatDoorChecked
import Derived.KernelRfl
namespace Go.Proofs.YtddogeicmhbidaaGreatDoor
open Go.AM
theorem am_ag1 : isAggT Tryz.prog 1 = some false := by kernel_rfl
theorem am_cl1 : Tryz.prog.cellsOf 1 = 1 := by kernel_rfl
theorem am_in2 : (Tryz.prog.info? 2).isSome = true := by kernel_rfl
theorem am_ag2 : isAggT Tryz.prog 2 = some false := by kernel_rfl
theorem am_cl2 : Tryz.prog.cellsOf 2 = 1 := by kernel_rfl
theorem am_by2 : Tryz.prog.bytesOf 2 = 8 := by kernel_rfl
theorem am_el2 : elemOfSlice Tryz.prog 2 = none := by kernel_rfl
theorem am_ze2 : zeroCellsAV Tryz.prog 2 = some [.lit (.int .i64 0)] := by kernel_rfl
theorem am_in3 : (Tryz.prog.info? 3).isSome = true := by kernel_rfl
theorem am_ag3 : isAggT Tryz.prog 3 = some false := by kernel_rfl
theorem am_cl3 : Tryz.prog.cellsOf 3 = 1 := by kernel_rfl
theorem am_by3 : Tryz.prog.bytesOf 3 = 8 := by kernel_rfl
theorem am_el3 : elemOfSlice Tryz.prog 3 = none := by kernel_rfl
theorem am_ze3 : zeroCellsAV Tryz.prog 3 = some [.lit (.int .i64 0)] := by kernel_rfl
theorem am_in4 : (Tryz.prog.info? 4).isSome = true := by kernel_rfl
theorem am_ag4 : isAggT Tryz.prog 4 = some false := by kernel_rfl
theorem am_cl4 : Tryz.prog.cellsOf 4 = 1 := by kernel_rfl
theorem am_by4 : Tryz.prog.bytesOf 4 = 1 := by kernel_rfl
theorem am_el4 : elemOfSlice Tryz.prog 4 = none := by kernel_rfl
theorem am_ze4 : zeroCellsAV Tryz.prog 4 = some [.lit (.bool false)] := by kernel_rfl
theorem am_in5 : (Tryz.prog.info? 5).isSome = true := by kernel_rfl
theorem am_ag5 : isAggT Tryz.prog 5 = some false := by kernel_rfl
theorem am_cl5 : Tryz.prog.cellsOf 5 = 1 := by kernel_rfl
theorem am_by5 : Tryz.prog.bytesOf 5 = 1 := by kernel_rfl
theorem am_el5 : elemOfSlice Tryz.prog 5 = none := by kernel_rfl
theorem am_ze5 : zeroCellsAV Tryz.prog 5 = some [.lit (.int .u8 0)] := by kernel_rfl
theorem am_in6 : (Tryz.prog.info? 6).isSome = true := by kernel_rfl
theorem am_ag6 : isAggT Tryz.prog 6 = some false := by kernel_rfl
theorem am_cl6 : Tryz.prog.cellsOf 6 = 1 := by kernel_rfl
theorem am_by6 : Tryz.prog.bytesOf 6 = 1 := by kernel_rfl
theorem am_el6 : elemOfSlice Tryz.prog 6 = none := by kernel_rfl
theorem am_ze6 : zeroCellsAV Tryz.prog 6 = some [.lit (.int .u8 0)] := by kernel_rfl
theorem am_in7 : (Tryz.prog.info? 7).isSome = true := by kernel_rfl
theorem am_ag7 : isAggT Tryz.prog 7 = some true := by kernel_rfl
theorem am_cl7 : Tryz.prog.cellsOf 7 = 4 := by kernel_rfl
theorem am_by7 : Tryz.prog.bytesOf 7 = 24 := by kernel_rfl
theorem am_el7 : elemOfSlice Tryz.prog 7 = none := by kernel_rfl
theorem am_ze7 : zeroCellsAV Tryz.prog 7 = some [.lit (.int .i64 0), .lit (.int .i64 0), .lit (.bool false), .lit (.int .u8 0)] := by kernel_rfl
theorem am_fi7_0 : fieldOf Tryz.prog 7 0 = some (0, 2) := by kernel_rfl
theorem am_fi7_1 : fieldOf Tryz.prog 7 1 = some (1, 3) := by kernel_rfl
theorem am_fi7_2 : fieldOf Tryz.prog 7 2 = some (2, 4) := by kernel_rfl
theorem am_fi7_3 : fieldOf Tryz.prog 7 3 = some (3, 6) := by kernel_rfl
theorem am_pl7 : placesL Tryz.prog 7 = some [(0, 1), (1, 1), (2, 1), (3, 1)] := by kernel_rfl
theorem am_in8 : (Tryz.prog.info? 8).isSome = true := by kernel_rfl
theorem am_ag8 : isAggT Tryz.prog 8 = some true := by kernel_rfl
theorem am_cl8 : Tryz.prog.cellsOf 8 = 4 := by kernel_rfl
theorem am_by8 : Tryz.prog.bytesOf 8 = 24 := by kernel_rfl
theorem am_el8 : elemOfSlice Tryz.prog 8 = none := by kernel_rfl
theorem am_ze8 : zeroCellsAV Tryz.prog 8 = some [.lit (.int .i64 0), .lit (.int .i64 0), .lit (.bool false), .lit (.int .u8 0)] := by kernel_rfl
theorem am_fi8_0 : fieldOf Tryz.prog 8 0 = some (0, 2) := by kernel_rfl
theorem am_fi8_1 : fieldOf Tryz.prog 8 1 = some (1, 3) := by kernel_rfl
theorem am_fi8_2 : fieldOf Tryz.prog 8 2 = some (2, 4) := by kernel_rfl
theorem am_fi8_3 : fieldOf Tryz.prog 8 3 = some (3, 6) := by kernel_rfl
theorem am_pl8 : placesL Tryz.prog 8 = some [(0, 1), (1, 1), (2, 1), (3, 1)] := by kernel_rfl
theorem am_in9 : (Tryz.prog.info? 9).isSome = true := by kernel_rfl
theorem am_ag9 : isAggT Tryz.prog 9 = some false := by kernel_rfl
theorem am_cl9 : Tryz.prog.cellsOf 9 = 1 := by kernel_rfl
theorem am_by9 : Tryz.prog.bytesOf 9 = 16 := by kernel_rfl
theorem am_el9 : elemOfSlice Tryz.prog 9 = none := by kernel_rfl
theorem am_ze9 : zeroCellsAV Tryz.prog 9 = some [.lit (.string ByteArray.empty)] := by kernel_rfl
theorem am_in10 : (Tryz.prog.info? 10).isSome = true := by kernel_rfl
theorem am_ag10 : isAggT Tryz.prog 10 = some false := by kernel_rfl
theorem am_cl10 : Tryz.prog.cellsOf 10 = 1 := by kernel_rfl
theorem am_by10 : Tryz.prog.bytesOf 10 = 16 := by kernel_rfl
theorem am_el10 : elemOfSlice Tryz.prog 10 = none := by kernel_rfl
theorem am_ze10 : zeroCellsAV Tryz.prog 10 = some [.lit (.string ByteArray.empty)] := by kernel_rfl
theorem am_in11 : (Tryz.prog.info? 11).isSome = true := by kernel_rfl
theorem am_ag11 : isAggT Tryz.prog 11 = some false := by kernel_rfl
theorem am_cl11 : Tryz.prog.cellsOf 11 = 1 := by kernel_rfl
theorem am_by11 : Tryz.prog.bytesOf 11 = 16 := by kernel_rfl
theorem am_el11 : elemOfSlice Tryz.prog 11 = none := by kernel_rfl
theorem am_ze11 : zeroCellsAV Tryz.prog 11 = some [.lit (.string ByteArray.empty)] := by kernel_rfl
theorem am_in12 : (Tryz.prog.info? 12).isSome = true := by kernel_rfl
theorem am_ag12 : isAggT Tryz.prog 12 = some false := by kernel_rfl
theorem am_cl12 : Tryz.prog.cellsOf 12 = 1 := by kernel_rfl
theorem am_by12 : Tryz.prog.bytesOf 12 = 8 := by kernel_rfl
theorem am_el12 : elemOfSlice Tryz.prog 12 = none := by kernel_rfl
theorem am_ze12 : zeroCellsAV Tryz.prog 12 = some [.lit (.int .u64 0)] := by kernel_rfl
theorem am_in13 : (Tryz.prog.info? 13).isSome = true := by kernel_rfl
theorem am_ag13 : isAggT Tryz.prog 13 = some true := by kernel_rfl
theorem am_cl13 : Tryz.prog.cellsOf 13 = 2 := by kernel_rfl
theorem am_by13 : Tryz.prog.bytesOf 13 = 24 := by kernel_rfl
theorem am_el13 : elemOfSlice Tryz.prog 13 = none := by kernel_rfl
theorem am_ze13 : zeroCellsAV Tryz.prog 13 = some [.lit (.string ByteArray.empty), .lit (.int .u64 0)] := by kernel_rfl
theorem am_fi13_0 : fieldOf Tryz.prog 13 0 = some (0, 9) := by kernel_rfl
theorem am_fi13_1 : fieldOf Tryz.prog 13 1 = some (1, 12) := by kernel_rfl
theorem am_pl13 : placesL Tryz.prog 13 = some [(0, 1), (1, 1)] := by kernel_rfl
theorem am_in14 : (Tryz.prog.info? 14).isSome = true := by kernel_rfl
theorem am_ag14 : isAggT Tryz.prog 14 = some true := by kernel_rfl
theorem am_cl14 : Tryz.prog.cellsOf 14 = 2 := by kernel_rfl
theorem am_by14 : Tryz.prog.bytesOf 14 = 24 := by kernel_rfl
theorem am_el14 : elemOfSlice Tryz.prog 14 = none := by kernel_rfl
theorem am_ze14 : zeroCellsAV Tryz.prog 14 = some [.lit (.string ByteArray.empty), .lit (.int .u64 0)] := by kernel_rfl
theorem am_fi14_0 : fieldOf Tryz.prog 14 0 = some (0, 9) := by kernel_rfl
theorem am_fi14_1 : fieldOf Tryz.prog 14 1 = some (1, 12) := by kernel_rfl
theorem am_pl14 : placesL Tryz.prog 14 = some [(0, 1), (1, 1)] := by kernel_rfl
theorem am_in15 : (Tryz.prog.info? 15).isSome = true := by kernel_rfl
theorem am_ag15 : isAggT Tryz.prog 15 = some false := by kernel_rfl
theorem am_cl15 : Tryz.prog.cellsOf 15 = 1 := by kernel_rfl
theorem am_by15 : Tryz.prog.bytesOf 15 = 8 := by kernel_rfl
theorem am_el15 : elemOfSlice Tryz.prog 15 = none := by kernel_rfl
theorem am_ze15 : zeroCellsAV Tryz.prog 15 = some [.lit (.pointer none)] := by kernel_rfl
theorem am_in16 : (Tryz.prog.info? 16).isSome = true := by kernel_rfl
theorem am_ag16 : isAggT Tryz.prog 16 = some false := by kernel_rfl
theorem am_cl16 : Tryz.prog.cellsOf 16 = 1 := by kernel_rfl
theorem am_by16 : Tryz.prog.bytesOf 16 = 8 := by kernel_rfl
theorem am_el16 : elemOfSlice Tryz.prog 16 = none := by kernel_rfl
theorem am_ze16 : zeroCellsAV Tryz.prog 16 = some [.lit (.pointer none)] := by kernel_rfl
theorem am_in17 : (Tryz.prog.info? 17).isSome = true := by kernel_rfl
theorem am_ag17 : isAggT Tryz.prog 17 = some false := by kernel_rfl
theorem am_cl17 : Tryz.prog.cellsOf 17 = 1 := by kernel_rfl
theorem am_by17 : Tryz.prog.bytesOf 17 = 8 := by kernel_rfl
theorem am_el17 : elemOfSlice Tryz.prog 17 = none := by kernel_rfl
theorem am_ze17 : zeroCellsAV Tryz.prog 17 = some [.lit (.pointer none)] := by kernel_rfl
theorem am_in18 : (Tryz.prog.info? 18).isSome = true := by kernel_rfl
theorem am_ag18 : isAggT Tryz.prog 18 = some true := by kernel_rfl
theorem am_cl18 : Tryz.prog.cellsOf 18 = 1 := by kernel_rfl
theorem am_by18 : Tryz.prog.bytesOf 18 = 8 := by kernel_rfl
theorem am_el18 : elemOfSlice Tryz.prog 18 = none := by kernel_rfl
theorem am_ze18 : zeroCellsAV Tryz.prog 18 = some [.lit (.pointer none)] := by kernel_rfl
theorem am_fi18_0 : fieldOf Tryz.prog 18 0 = some (0, 17) := by kernel_rfl
theorem am_pl18 : placesL Tryz.prog 18 = some [(0, 1)] := by kernel_rfl
theorem am_in19 : (Tryz.prog.info? 19).isSome = true := by kernel_rfl
theorem am_ag19 : isAggT Tryz.prog 19 = some true := by kernel_rfl
theorem am_cl19 : Tryz.prog.cellsOf 19 = 1 := by kernel_rfl
theorem am_by19 : Tryz.prog.bytesOf 19 = 8 := by kernel_rfl
theorem am_el19 : elemOfSlice Tryz.prog 19 = none := by kernel_rfl
theorem am_ze19 : zeroCellsAV Tryz.prog 19 = some [.lit (.pointer none)] := by kernel_rfl
theorem am_fi19_0 : fieldOf Tryz.prog 19 0 = some (0, 17) := by kernel_rfl
theorem am_pl19 : placesL Tryz.prog 19 = some [(0, 1)] := by kernel_rfl
theorem am_ag20 : isAggT Tryz.prog 20 = some false := by kernel_rfl
theorem am_cl20 : Tryz.prog.cellsOf 20 = 1 := by kernel_rfl
theorem am_in21 : (Tryz.prog.info? 21).isSome = true := by kernel_rfl
theorem am_ag21 : isAggT Tryz.prog 21 = some false := by kernel_rfl
theorem am_cl21 : Tryz.prog.cellsOf 21 = 1 := by kernel_rfl
theorem am_by21 : Tryz.prog.bytesOf 21 = 4 := by kernel_rfl
theorem am_el21 : elemOfSlice Tryz.prog 21 = none := by kernel_rfl
theorem am_ze21 : zeroCellsAV Tryz.prog 21 = some [.lit (.int .i32 0)] := by kernel_rfl
theorem am_in22 : (Tryz.prog.info? 22).isSome = true := by kernel_rfl
theorem am_ag22 : isAggT Tryz.prog 22 = some false := by kernel_rfl
theorem am_cl22 : Tryz.prog.cellsOf 22 = 1 := by kernel_rfl
theorem am_by22 : Tryz.prog.bytesOf 22 = 24 := by kernel_rfl
theorem am_el22 : elemOfSlice Tryz.prog 22 = some 49 := by kernel_rfl
theorem am_ze22 : zeroCellsAV Tryz.prog 22 = some [.lit (.slice none 0 0)] := by kernel_rfl
theorem am_ag23 : isAggT Tryz.prog 23 = some false := by kernel_rfl
theorem am_cl23 : Tryz.prog.cellsOf 23 = 1 := by kernel_rfl
theorem am_ag24 : isAggT Tryz.prog 24 = some false := by kernel_rfl
theorem am_cl24 : Tryz.prog.cellsOf 24 = 1 := by kernel_rfl
theorem am_in25 : (Tryz.prog.info? 25).isSome = true := by kernel_rfl
theorem am_ag25 : isAggT Tryz.prog 25 = some false := by kernel_rfl
theorem am_cl25 : Tryz.prog.cellsOf 25 = 1 := by kernel_rfl
theorem am_by25 : Tryz.prog.bytesOf 25 = 24 := by kernel_rfl
theorem am_el25 : elemOfSlice Tryz.prog 25 = some 33 := by kernel_rfl
theorem am_ze25 : zeroCellsAV Tryz.prog 25 = some [.lit (.slice none 0 0)] := by kernel_rfl
theorem am_in26 : (Tryz.prog.info? 26).isSome = true := by kernel_rfl
theorem am_ag26 : isAggT Tryz.prog 26 = some false := by kernel_rfl
theorem am_cl26 : Tryz.prog.cellsOf 26 = 1 := by kernel_rfl
theorem am_by26 : Tryz.prog.bytesOf 26 = 8 := by kernel_rfl
theorem am_el26 : elemOfSlice Tryz.prog 26 = none := by kernel_rfl
theorem am_ze26 : zeroCellsAV Tryz.prog 26 = some [.lit (.int .i64 0)] := by kernel_rfl
theorem am_ag28 : isAggT Tryz.prog 28 = some false := by kernel_rfl
theorem am_cl28 : Tryz.prog.cellsOf 28 = 1 := by kernel_rfl
theorem am_ag29 : isAggT Tryz.prog 29 = some false := by kernel_rfl
theorem am_cl29 : Tryz.prog.cellsOf 29 = 1 := by kernel_rfl
theorem am_ag30 : isAggT Tryz.prog 30 = some false := by kernel_rfl
theorem am_cl30 : Tryz.prog.cellsOf 30 = 1 := by kernel_rfl
theorem am_ag31 : isAggT Tryz.prog 31 = some false := by kernel_rfl
theorem am_cl31 : Tryz.prog.cellsOf 31 = 1 := by kernel_rfl
theorem am_in32 : (Tryz.prog.info? 32).isSome = true := by kernel_rfl
theorem am_ag32 : isAggT Tryz.prog 32 = some true := by kernel_rfl
theorem am_cl32 : Tryz.prog.cellsOf 32 = 2 := by kernel_rfl
theorem am_by32 : Tryz.prog.bytesOf 32 = 16 := by kernel_rfl
theorem am_el32 : elemOfSlice Tryz.prog 32 = none := by kernel_rfl
theorem am_ze32 : zeroCellsAV Tryz.prog 32 = some [.lit (.int .i64 0), .lit (.int .i64 0)] := by kernel_rfl
theorem am_fi32_0 : fieldOf Tryz.prog 32 0 = some (0, 3) := by kernel_rfl
theorem am_fi32_1 : fieldOf Tryz.prog 32 1 = some (1, 3) := by kernel_rfl
theorem am_pl32 : placesL Tryz.prog 32 = some [(0, 1), (1, 1)] := by kernel_rfl
theorem am_in33 : (Tryz.prog.info? 33).isSome = true := by kernel_rfl
theorem am_ag33 : isAggT Tryz.prog 33 = some true := by kernel_rfl
theorem am_cl33 : Tryz.prog.cellsOf 33 = 2 := by kernel_rfl
theorem am_by33 : Tryz.prog.bytesOf 33 = 16 := by kernel_rfl
theorem am_el33 : elemOfSlice Tryz.prog 33 = none := by kernel_rfl
theorem am_ze33 : zeroCellsAV Tryz.prog 33 = some [.lit (.int .i64 0), .lit (.int .i64 0)] := by kernel_rfl
theorem am_fi33_0 : fieldOf Tryz.prog 33 0 = some (0, 3) := by kernel_rfl
theorem am_fi33_1 : fieldOf Tryz.prog 33 1 = some (1, 3) := by kernel_rfl
theorem am_pl33 : placesL Tryz.prog 33 = some [(0, 1), (1, 1)] := by kernel_rfl
theorem am_ag34 : isAggT Tryz.prog 34 = some false := by kernel_rfl
theorem am_cl34 : Tryz.prog.cellsOf 34 = 1 := by kernel_rfl
theorem am_ag35 : isAggT Tryz.prog 35 = some false := by kernel_rfl
theorem am_cl35 : Tryz.prog.cellsOf 35 = 1 := by kernel_rfl
theorem am_ag37 : isAggT Tryz.prog 37 = some false := by kernel_rfl
theorem am_cl37 : Tryz.prog.cellsOf 37 = 1 := by kernel_rfl
theorem am_ag38 : isAggT Tryz.prog 38 = some false := by kernel_rfl
theorem am_cl38 : Tryz.prog.cellsOf 38 = 1 := by kernel_rfl
theorem am_in39 : (Tryz.prog.info? 39).isSome = true := by kernel_rfl
theorem am_ag39 : isAggT Tryz.prog 39 = some true := by kernel_rfl
theorem am_cl39 : Tryz.prog.cellsOf 39 = 2 := by kernel_rfl
theorem am_by39 : Tryz.prog.bytesOf 39 = 16 := by kernel_rfl
theorem am_el39 : elemOfSlice Tryz.prog 39 = none := by kernel_rfl
theorem am_ze39 : zeroCellsAV Tryz.prog 39 = some [.lit (.int .i64 0), .lit (.int .i64 0)] := by kernel_rfl
theorem am_fi39_0 : fieldOf Tryz.prog 39 0 = some (0, 3) := by kernel_rfl
theorem am_fi39_1 : fieldOf Tryz.prog 39 1 = some (1, 3) := by kernel_rfl
theorem am_pl39 : placesL Tryz.prog 39 = some [(0, 1), (1, 1)] := by kernel_rfl
theorem am_in40 : (Tryz.prog.info? 40).isSome = true := by kernel_rfl
theorem am_ag40 : isAggT Tryz.prog 40 = some true := by kernel_rfl
theorem am_cl40 : Tryz.prog.cellsOf 40 = 2 := by kernel_rfl
theorem am_by40 : Tryz.prog.bytesOf 40 = 16 := by kernel_rfl
theorem am_el40 : elemOfSlice Tryz.prog 40 = none := by kernel_rfl
theorem am_ze40 : zeroCellsAV Tryz.prog 40 = some [.lit (.int .i64 0), .lit (.int .i64 0)] := by kernel_rfl
theorem am_fi40_0 : fieldOf Tryz.prog 40 0 = some (0, 3) := by kernel_rfl
theorem am_fi40_1 : fieldOf Tryz.prog 40 1 = some (1, 3) := by kernel_rfl
theorem am_pl40 : placesL Tryz.prog 40 = some [(0, 1), (1, 1)] := by kernel_rfl
theorem am_ag42 : isAggT Tryz.prog 42 = some false := by kernel_rfl
theorem am_cl42 : Tryz.prog.cellsOf 42 = 1 := by kernel_rfl
theorem am_ag44 : isAggT Tryz.prog 44 = some false := by kernel_rfl
theorem am_cl44 : Tryz.prog.cellsOf 44 = 1 := by kernel_rfl
theorem am_ag45 : isAggT Tryz.prog 45 = some false := by kernel_rfl
theorem am_cl45 : Tryz.prog.cellsOf 45 = 1 := by kernel_rfl
theorem am_ag46 : isAggT Tryz.prog 46 = some false := by kernel_rfl
theorem am_cl46 : Tryz.prog.cellsOf 46 = 1 := by kernel_rfl
theorem am_in47 : (Tryz.prog.info? 47).isSome = true := by kernel_rfl
theorem am_ag47 : isAggT Tryz.prog 47 = some false := by kernel_rfl
theorem am_cl47 : Tryz.prog.cellsOf 47 = 1 := by kernel_rfl
theorem am_by47 : Tryz.prog.bytesOf 47 = 24 := by kernel_rfl
theorem am_el47 : elemOfSlice Tryz.prog 47 = some 3 := by kernel_rfl
theorem am_ze47 : zeroCellsAV Tryz.prog 47 = some [.lit (.slice none 0 0)] := by kernel_rfl
theorem am_in48 : (Tryz.prog.info? 48).isSome = true := by kernel_rfl
theorem am_ag48 : isAggT Tryz.prog 48 = some true := by kernel_rfl
theorem am_cl48 : Tryz.prog.cellsOf 48 = 5 := by kernel_rfl
theorem am_by48 : Tryz.prog.bytesOf 48 = 64 := by kernel_rfl
theorem am_el48 : elemOfSlice Tryz.prog 48 = none := by kernel_rfl
theorem am_ze48 : zeroCellsAV Tryz.prog 48 = some [.lit (.string ByteArray.empty), .lit (.int .i64 0), .lit (.int .i64 0), .lit (.int .i64 0), .lit (.slice none 0 0)] := by kernel_rfl
theorem am_fi48_0 : fieldOf Tryz.prog 48 0 = some (0, 9) := by kernel_rfl
theorem am_fi48_1 : fieldOf Tryz.prog 48 1 = some (1, 3) := by kernel_rfl
theorem am_fi48_2 : fieldOf Tryz.prog 48 2 = some (2, 3) := by kernel_rfl
theorem am_fi48_3 : fieldOf Tryz.prog 48 3 = some (3, 3) := by kernel_rfl
theorem am_fi48_4 : fieldOf Tryz.prog 48 4 = some (4, 47) := by kernel_rfl
theorem am_pl48 : placesL Tryz.prog 48 = some [(0, 1), (1, 1), (2, 1), (3, 1), (4, 1)] := by kernel_rfl
theorem am_in49 : (Tryz.prog.info? 49).isSome = true := by kernel_rfl
theorem am_ag49 : isAggT Tryz.prog 49 = some true := by kernel_rfl
theorem am_cl49 : Tryz.prog.cellsOf 49 = 5 := by kernel_rfl
theorem am_by49 : Tryz.prog.bytesOf 49 = 64 := by kernel_rfl
theorem am_el49 : elemOfSlice Tryz.prog 49 = none := by kernel_rfl
theorem am_ze49 : zeroCellsAV Tryz.prog 49 = some [.lit (.string ByteArray.empty), .lit (.int .i64 0), .lit (.int .i64 0), .lit (.int .i64 0), .lit (.slice none 0 0)] := by kernel_rfl
theorem am_fi49_0 : fieldOf Tryz.prog 49 0 = some (0, 9) := by kernel_rfl
theorem am_fi49_1 : fieldOf Tryz.prog 49 1 = some (1, 3) := by kernel_rfl
theorem am_fi49_2 : fieldOf Tryz.prog 49 2 = some (2, 3) := by kernel_rfl
theorem am_fi49_3 : fieldOf Tryz.prog 49 3 = some (3, 3) := by kernel_rfl
theorem am_fi49_4 : fieldOf Tryz.prog 49 4 = some (4, 47) := by kernel_rfl
theorem am_pl49 : placesL Tryz.prog 49 = some [(0, 1), (1, 1), (2, 1), (3, 1), (4, 1)] := by kernel_rfl
theorem am_ag50 : isAggT Tryz.prog 50 = some false := by kernel_rfl
theorem am_cl50 : Tryz.prog.cellsOf 50 = 1 := by kernel_rfl
theorem am_ag52 : isAggT Tryz.prog 52 = some false := by kernel_rfl
theorem am_cl52 : Tryz.prog.cellsOf 52 = 1 := by kernel_rfl
theorem am_in53 : (Tryz.prog.info? 53).isSome = true := by kernel_rfl
theorem am_ag53 : isAggT Tryz.prog 53 = some false := by kernel_rfl
theorem am_cl53 : Tryz.prog.cellsOf 53 = 1 := by kernel_rfl
theorem am_by53 : Tryz.prog.bytesOf 53 = 24 := by kernel_rfl
theorem am_el53 : elemOfSlice Tryz.prog 53 = some 22 := by kernel_rfl
theorem am_ze53 : zeroCellsAV Tryz.prog 53 = some [.lit (.slice none 0 0)] := by kernel_rfl
theorem am_ag54 : isAggT Tryz.prog 54 = some false := by kernel_rfl
theorem am_cl54 : Tryz.prog.cellsOf 54 = 1 := by kernel_rfl
theorem am_mt55 : mapTy Tryz.prog 55 = some (.int .i64, some (.int .i64 0)) := by kernel_rfl
theorem am_em55 : elemOfSlice Tryz.prog 55 = none := by kernel_rfl
theorem am_ag55 : isAggT Tryz.prog 55 = some false := by kernel_rfl
theorem am_cl55 : Tryz.prog.cellsOf 55 = 1 := by kernel_rfl
theorem am_ag57 : isAggT Tryz.prog 57 = some false := by kernel_rfl
theorem am_cl57 : Tryz.prog.cellsOf 57 = 1 := by kernel_rfl
theorem am_ag58 : isAggT Tryz.prog 58 = some false := by kernel_rfl
theorem am_cl58 : Tryz.prog.cellsOf 58 = 1 := by kernel_rfl
theorem am_ag59 : isAggT Tryz.prog 59 = some false := by kernel_rfl
theorem am_cl59 : Tryz.prog.cellsOf 59 = 1 := by kernel_rfl
theorem am_ag60 : isAggT Tryz.prog 60 = some false := by kernel_rfl
theorem am_cl60 : Tryz.prog.cellsOf 60 = 1 := by kernel_rfl
theorem am_ag61 : isAggT Tryz.prog 61 = some false := by kernel_rfl
theorem am_cl61 : Tryz.prog.cellsOf 61 = 1 := by kernel_rfl
theorem am_ag62 : isAggT Tryz.prog 62 = some false := by kernel_rfl
theorem am_cl62 : Tryz.prog.cellsOf 62 = 1 := by kernel_rfl
theorem am_ag63 : isAggT Tryz.prog 63 = some false := by kernel_rfl
theorem am_cl63 : Tryz.prog.cellsOf 63 = 1 := by kernel_rfl
theorem am_in64 : (Tryz.prog.info? 64).isSome = true := by kernel_rfl
theorem am_ag64 : isAggT Tryz.prog 64 = some false := by kernel_rfl
theorem am_cl64 : Tryz.prog.cellsOf 64 = 1 := by kernel_rfl
theorem am_by64 : Tryz.prog.bytesOf 64 = 8 := by kernel_rfl
theorem am_el64 : elemOfSlice Tryz.prog 64 = none := by kernel_rfl
theorem am_ze64 : zeroCellsAV Tryz.prog 64 = some [.lit (.pointer none)] := by kernel_rfl
theorem am_in65 : (Tryz.prog.info? 65).isSome = true := by kernel_rfl
theorem am_ag65 : isAggT Tryz.prog 65 = some false := by kernel_rfl
theorem am_cl65 : Tryz.prog.cellsOf 65 = 1 := by kernel_rfl
theorem am_by65 : Tryz.prog.bytesOf 65 = 24 := by kernel_rfl
theorem am_el65 : elemOfSlice Tryz.prog 65 = some 5 := by kernel_rfl
theorem am_ze65 : zeroCellsAV Tryz.prog 65 = some [.lit (.slice none 0 0)] := by kernel_rfl
theorem am_in66 : (Tryz.prog.info? 66).isSome = true := by kernel_rfl
theorem am_ag66 : isAggT Tryz.prog 66 = some true := by kernel_rfl
theorem am_cl66 : Tryz.prog.cellsOf 66 = 2 := by kernel_rfl
theorem am_by66 : Tryz.prog.bytesOf 66 = 32 := by kernel_rfl
theorem am_el66 : elemOfSlice Tryz.prog 66 = none := by kernel_rfl
theorem am_ze66 : zeroCellsAV Tryz.prog 66 = some [.lit (.pointer none), .lit (.slice none 0 0)] := by kernel_rfl
theorem am_fi66_0 : fieldOf Tryz.prog 66 0 = some (0, 64) := by kernel_rfl
theorem am_fi66_1 : fieldOf Tryz.prog 66 1 = some (1, 65) := by kernel_rfl
theorem am_pl66 : placesL Tryz.prog 66 = some [(0, 1), (1, 1)] := by kernel_rfl
theorem am_in67 : (Tryz.prog.info? 67).isSome = true := by kernel_rfl
theorem am_ag67 : isAggT Tryz.prog 67 = some true := by kernel_rfl
theorem am_cl67 : Tryz.prog.cellsOf 67 = 2 := by kernel_rfl
theorem am_by67 : Tryz.prog.bytesOf 67 = 32 := by kernel_rfl
theorem am_el67 : elemOfSlice Tryz.prog 67 = none := by kernel_rfl
theorem am_ze67 : zeroCellsAV Tryz.prog 67 = some [.lit (.pointer none), .lit (.slice none 0 0)] := by kernel_rfl
theorem am_fi67_0 : fieldOf Tryz.prog 67 0 = some (0, 64) := by kernel_rfl
theorem am_fi67_1 : fieldOf Tryz.prog 67 1 = some (1, 65) := by kernel_rfl
theorem am_pl67 : placesL Tryz.prog 67 = some [(0, 1), (1, 1)] := by kernel_rfl
theorem am_ag68 : isAggT Tryz.prog 68 = some false := by kernel_rfl
theorem am_cl68 : Tryz.prog.cellsOf 68 = 1 := by kernel_rfl
theorem am_in69 : (Tryz.prog.info? 69).isSome = true := by kernel_rfl
theorem am_ag69 : isAggT Tryz.prog 69 = some false := by kernel_rfl
theorem am_cl69 : Tryz.prog.cellsOf 69 = 1 := by kernel_rfl
theorem am_by69 : Tryz.prog.bytesOf 69 = 24 := by kernel_rfl
theorem am_el69 : elemOfSlice Tryz.prog 69 = some 9 := by kernel_rfl
theorem am_ze69 : zeroCellsAV Tryz.prog 69 = some [.lit (.slice none 0 0)] := by kernel_rfl
theorem am_ag70 : isAggT Tryz.prog 70 = some false := by kernel_rfl
theorem am_cl70 : Tryz.prog.cellsOf 70 = 1 := by kernel_rfl
theorem am_ag71 : isAggT Tryz.prog 71 = some false := by kernel_rfl
theorem am_cl71 : Tryz.prog.cellsOf 71 = 1 := by kernel_rfl
theorem am_ag73 : isAggT Tryz.prog 73 = some false := by kernel_rfl
theorem am_cl73 : Tryz.prog.cellsOf 73 = 1 := by kernel_rfl
theorem am_ag74 : isAggT Tryz.prog 74 = some false := by kernel_rfl
theorem am_cl74 : Tryz.prog.cellsOf 74 = 1 := by kernel_rfl
theorem am_ag75 : isAggT Tryz.prog 75 = some false := by kernel_rfl
theorem am_cl75 : Tryz.prog.cellsOf 75 = 1 := by kernel_rfl
theorem am_ag76 : isAggT Tryz.prog 76 = some false := by kernel_rfl
theorem am_cl76 : Tryz.prog.cellsOf 76 = 1 := by kernel_rfl
theorem am_ag78 : isAggT Tryz.prog 78 = some false := by kernel_rfl
theorem am_cl78 : Tryz.prog.cellsOf 78 = 1 := by kernel_rfl
theorem am_ag80 : isAggT Tryz.prog 80 = some false := by kernel_rfl
theorem am_cl80 : Tryz.prog.cellsOf 80 = 1 := by kernel_rfl
theorem am_ag81 : isAggT Tryz.prog 81 = some false := by kernel_rfl
theorem am_cl81 : Tryz.prog.cellsOf 81 = 1 := by kernel_rfl
theorem am_ag83 : isAggT Tryz.prog 83 = some false := by kernel_rfl
theorem am_cl83 : Tryz.prog.cellsOf 83 = 1 := by kernel_rfl
theorem am_ag84 : isAggT Tryz.prog 84 = some false := by kernel_rfl
theorem am_cl84 : Tryz.prog.cellsOf 84 = 1 := by kernel_rfl
theorem am_ag85 : isAggT Tryz.prog 85 = some false := by kernel_rfl
theorem am_cl85 : Tryz.prog.cellsOf 85 = 1 := by kernel_rfl
theorem am_ag86 : isAggT Tryz.prog 86 = some false := by kernel_rfl
theorem am_cl86 : Tryz.prog.cellsOf 86 = 1 := by kernel_rfl
theorem am_in87 : (Tryz.prog.info? 87).isSome = true := by kernel_rfl
theorem am_ag87 : isAggT Tryz.prog 87 = some true := by kernel_rfl
theorem am_cl87 : Tryz.prog.cellsOf 87 = 2 := by kernel_rfl
theorem am_by87 : Tryz.prog.bytesOf 87 = 16 := by kernel_rfl
theorem am_el87 : elemOfSlice Tryz.prog 87 = none := by kernel_rfl
theorem am_ze87 : zeroCellsAV Tryz.prog 87 = some [.lit (.int .i64 0), .lit (.int .i64 0)] := by kernel_rfl
theorem am_fi87_0 : fieldOf Tryz.prog 87 0 = some (0, 3) := by kernel_rfl
theorem am_fi87_1 : fieldOf Tryz.prog 87 1 = some (1, 3) := by kernel_rfl
theorem am_pl87 : placesL Tryz.prog 87 = some [(0, 1), (1, 1)] := by kernel_rfl
theorem am_in88 : (Tryz.prog.info? 88).isSome = true := by kernel_rfl
theorem am_ag88 : isAggT Tryz.prog 88 = some true := by kernel_rfl
theorem am_cl88 : Tryz.prog.cellsOf 88 = 2 := by kernel_rfl
theorem am_by88 : Tryz.prog.bytesOf 88 = 16 := by kernel_rfl
theorem am_el88 : elemOfSlice Tryz.prog 88 = none := by kernel_rfl
theorem am_ze88 : zeroCellsAV Tryz.prog 88 = some [.lit (.int .i64 0), .lit (.int .i64 0)] := by kernel_rfl
theorem am_fi88_0 : fieldOf Tryz.prog 88 0 = some (0, 3) := by kernel_rfl
theorem am_fi88_1 : fieldOf Tryz.prog 88 1 = some (1, 3) := by kernel_rfl
theorem am_pl88 : placesL Tryz.prog 88 = some [(0, 1), (1, 1)] := by kernel_rfl
theorem am_ag90 : isAggT Tryz.prog 90 = some false := by kernel_rfl
theorem am_cl90 : Tryz.prog.cellsOf 90 = 1 := by kernel_rfl
theorem am_ag91 : isAggT Tryz.prog 91 = some false := by kernel_rfl
theorem am_cl91 : Tryz.prog.cellsOf 91 = 1 := by kernel_rfl
theorem am_ag92 : isAggT Tryz.prog 92 = some false := by kernel_rfl
theorem am_cl92 : Tryz.prog.cellsOf 92 = 1 := by kernel_rfl
theorem am_in93 : (Tryz.prog.info? 93).isSome = true := by kernel_rfl
theorem am_ag93 : isAggT Tryz.prog 93 = some false := by kernel_rfl
theorem am_cl93 : Tryz.prog.cellsOf 93 = 1 := by kernel_rfl
theorem am_by93 : Tryz.prog.bytesOf 93 = 8 := by kernel_rfl
theorem am_el93 : elemOfSlice Tryz.prog 93 = none := by kernel_rfl
theorem am_ze93 : zeroCellsAV Tryz.prog 93 = some [.lit (.int .u64 0)] := by kernel_rfl
theorem am_ag94 : isAggT Tryz.prog 94 = some false := by kernel_rfl
theorem am_cl94 : Tryz.prog.cellsOf 94 = 1 := by kernel_rfl
theorem am_ag95 : isAggT Tryz.prog 95 = some false := by kernel_rfl
theorem am_cl95 : Tryz.prog.cellsOf 95 = 1 := by kernel_rfl
theorem am_ag96 : isAggT Tryz.prog 96 = some false := by kernel_rfl
theorem am_cl96 : Tryz.prog.cellsOf 96 = 1 := by kernel_rfl
theorem am_ag97 : isAggT Tryz.prog 97 = some false := by kernel_rfl
theorem am_cl97 : Tryz.prog.cellsOf 97 = 1 := by kernel_rfl
theorem am_in98 : (Tryz.prog.info? 98).isSome = true := by kernel_rfl
theorem am_ag98 : isAggT Tryz.prog 98 = some false := by kernel_rfl
theorem am_cl98 : Tryz.prog.cellsOf 98 = 1 := by kernel_rfl
theorem am_by98 : Tryz.prog.bytesOf 98 = 8 := by kernel_rfl
theorem am_el98 : elemOfSlice Tryz.prog 98 = none := by kernel_rfl
theorem am_ze98 : zeroCellsAV Tryz.prog 98 = some [.lit (.pointer none)] := by kernel_rfl
theorem am_ag99 : isAggT Tryz.prog 99 = some false := by kernel_rfl
theorem am_cl99 : Tryz.prog.cellsOf 99 = 1 := by kernel_rfl
theorem am_ag101 : isAggT Tryz.prog 101 = some false := by kernel_rfl
theorem am_cl101 : Tryz.prog.cellsOf 101 = 1 := by kernel_rfl
theorem am_ag102 : isAggT Tryz.prog 102 = some false := by kernel_rfl
theorem am_cl102 : Tryz.prog.cellsOf 102 = 1 := by kernel_rfl
theorem am_ag103 : isAggT Tryz.prog 103 = some false := by kernel_rfl
theorem am_cl103 : Tryz.prog.cellsOf 103 = 1 := by kernel_rfl
theorem am_ag104 : isAggT Tryz.prog 104 = some false := by kernel_rfl
theorem am_cl104 : Tryz.prog.cellsOf 104 = 1 := by kernel_rfl
theorem am_ag105 : isAggT Tryz.prog 105 = some false := by kernel_rfl
theorem am_cl105 : Tryz.prog.cellsOf 105 = 1 := by kernel_rfl
theorem am_ag106 : isAggT Tryz.prog 106 = some false := by kernel_rfl
theorem am_cl106 : Tryz.prog.cellsOf 106 = 1 := by kernel_rfl
theorem am_ag107 : isAggT Tryz.prog 107 = some false := by kernel_rfl
theorem am_cl107 : Tryz.prog.cellsOf 107 = 1 := by kernel_rfl
theorem am_ag108 : isAggT Tryz.prog 108 = some false := by kernel_rfl
theorem am_cl108 : Tryz.prog.cellsOf 108 = 1 := by kernel_rfl
theorem am_ag110 : isAggT Tryz.prog 110 = some false := by kernel_rfl
theorem am_cl110 : Tryz.prog.cellsOf 110 = 1 := by kernel_rfl
theorem am_ag111 : isAggT Tryz.prog 111 = some false := by kernel_rfl
theorem am_cl111 : Tryz.prog.cellsOf 111 = 1 := by kernel_rfl
theorem am_ag112 : isAggT Tryz.prog 112 = some false := by kernel_rfl
theorem am_cl112 : Tryz.prog.cellsOf 112 = 1 := by kernel_rfl
theorem am_in113 : (Tryz.prog.info? 113).isSome = true := by kernel_rfl
theorem am_ag113 : isAggT Tryz.prog 113 = some false := by kernel_rfl
theorem am_cl113 : Tryz.prog.cellsOf 113 = 1 := by kernel_rfl
theorem am_by113 : Tryz.prog.bytesOf 113 = 8 := by kernel_rfl
theorem am_el113 : elemOfSlice Tryz.prog 113 = none := by kernel_rfl
theorem am_ze113 : zeroCellsAV Tryz.prog 113 = some [.lit (.int .i64 0)] := by kernel_rfl
theorem am_ag115 : isAggT Tryz.prog 115 = some false := by kernel_rfl
theorem am_cl115 : Tryz.prog.cellsOf 115 = 1 := by kernel_rfl
theorem am_ag116 : isAggT Tryz.prog 116 = some false := by kernel_rfl
theorem am_cl116 : Tryz.prog.cellsOf 116 = 1 := by kernel_rfl
theorem am_ag117 : isAggT Tryz.prog 117 = some false := by kernel_rfl
theorem am_cl117 : Tryz.prog.cellsOf 117 = 1 := by kernel_rfl
theorem am_ag118 : isAggT Tryz.prog 118 = some false := by kernel_rfl
theorem am_cl118 : Tryz.prog.cellsOf 118 = 1 := by kernel_rfl
theorem am_ag119 : isAggT Tryz.prog 119 = some false := by kernel_rfl
theorem am_cl119 : Tryz.prog.cellsOf 119 = 1 := by kernel_rfl
theorem am_in120 : (Tryz.prog.info? 120).isSome = true := by kernel_rfl
theorem am_ag120 : isAggT Tryz.prog 120 = some false := by kernel_rfl
theorem am_cl120 : Tryz.prog.cellsOf 120 = 1 := by kernel_rfl
theorem am_by120 : Tryz.prog.bytesOf 120 = 4 := by kernel_rfl
theorem am_el120 : elemOfSlice Tryz.prog 120 = none := by kernel_rfl
theorem am_ze120 : zeroCellsAV Tryz.prog 120 = some [.lit (.int .u32 0)] := by kernel_rfl
theorem am_ag121 : isAggT Tryz.prog 121 = some false := by kernel_rfl
theorem am_cl121 : Tryz.prog.cellsOf 121 = 1 := by kernel_rfl
theorem am_in122 : (Tryz.prog.info? 122).isSome = true := by kernel_rfl
theorem am_ag122 : isAggT Tryz.prog 122 = some false := by kernel_rfl
theorem am_cl122 : Tryz.prog.cellsOf 122 = 1 := by kernel_rfl
theorem am_by122 : Tryz.prog.bytesOf 122 = 8 := by kernel_rfl
theorem am_el122 : elemOfSlice Tryz.prog 122 = none := by kernel_rfl
theorem am_ze122 : zeroCellsAV Tryz.prog 122 = some [.lit (.int .u64 0)] := by kernel_rfl
theorem am_ag123 : isAggT Tryz.prog 123 = some false := by kernel_rfl
theorem am_cl123 : Tryz.prog.cellsOf 123 = 1 := by kernel_rfl
theorem am_ag124 : isAggT Tryz.prog 124 = some false := by kernel_rfl
theorem am_cl124 : Tryz.prog.cellsOf 124 = 1 := by kernel_rfl
theorem am_ag125 : isAggT Tryz.prog 125 = some false := by kernel_rfl
theorem am_cl125 : Tryz.prog.cellsOf 125 = 1 := by kernel_rfl
theorem am_ag126 : isAggT Tryz.prog 126 = some false := by kernel_rfl
theorem am_cl126 : Tryz.prog.cellsOf 126 = 1 := by kernel_rfl
theorem am_ag128 : isAggT Tryz.prog 128 = some false := by kernel_rfl
theorem am_cl128 : Tryz.prog.cellsOf 128 = 1 := by kernel_rfl
theorem am_ag129 : isAggT Tryz.prog 129 = some false := by kernel_rfl
theorem am_cl129 : Tryz.prog.cellsOf 129 = 1 := by kernel_rfl
theorem am_ag130 : isAggT Tryz.prog 130 = some false := by kernel_rfl
theorem am_cl130 : Tryz.prog.cellsOf 130 = 1 := by kernel_rfl
theorem am_ag131 : isAggT Tryz.prog 131 = some false := by kernel_rfl
theorem am_cl131 : Tryz.prog.cellsOf 131 = 1 := by kernel_rfl
theorem am_ag132 : isAggT Tryz.prog 132 = some false := by kernel_rfl
theorem am_cl132 : Tryz.prog.cellsOf 132 = 1 := by kernel_rfl
theorem am_ag133 : isAggT Tryz.prog 133 = some false := by kernel_rfl
theorem am_cl133 : Tryz.prog.cellsOf 133 = 1 := by kernel_rfl
theorem am_in134 : (Tryz.prog.info? 134).isSome = true := by kernel_rfl
theorem am_ag134 : isAggT Tryz.prog 134 = some false := by kernel_rfl
theorem am_cl134 : Tryz.prog.cellsOf 134 = 1 := by kernel_rfl
theorem am_by134 : Tryz.prog.bytesOf 134 = 24 := by kernel_rfl
theorem am_el134 : elemOfSlice Tryz.prog 134 = some 137 := by kernel_rfl
theorem am_ze134 : zeroCellsAV Tryz.prog 134 = some [.lit (.slice none 0 0)] := by kernel_rfl
theorem am_ag135 : isAggT Tryz.prog 135 = some false := by kernel_rfl
theorem am_cl135 : Tryz.prog.cellsOf 135 = 1 := by kernel_rfl
theorem am_in136 : (Tryz.prog.info? 136).isSome = true := by kernel_rfl
theorem am_ag136 : isAggT Tryz.prog 136 = some true := by kernel_rfl
theorem am_cl136 : Tryz.prog.cellsOf 136 = 2 := by kernel_rfl
theorem am_by136 : Tryz.prog.bytesOf 136 = 16 := by kernel_rfl
theorem am_el136 : elemOfSlice Tryz.prog 136 = none := by kernel_rfl
theorem am_ze136 : zeroCellsAV Tryz.prog 136 = some [.lit (.int .i64 0), .lit (.int .u8 0)] := by kernel_rfl
theorem am_fi136_0 : fieldOf Tryz.prog 136 0 = some (0, 3) := by kernel_rfl
theorem am_fi136_1 : fieldOf Tryz.prog 136 1 = some (1, 5) := by kernel_rfl
theorem am_pl136 : placesL Tryz.prog 136 = some [(0, 1), (1, 1)] := by kernel_rfl
theorem am_in137 : (Tryz.prog.info? 137).isSome = true := by kernel_rfl
theorem am_ag137 : isAggT Tryz.prog 137 = some true := by kernel_rfl
theorem am_cl137 : Tryz.prog.cellsOf 137 = 2 := by kernel_rfl
theorem am_by137 : Tryz.prog.bytesOf 137 = 16 := by kernel_rfl
theorem am_el137 : elemOfSlice Tryz.prog 137 = none := by kernel_rfl
theorem am_ze137 : zeroCellsAV Tryz.prog 137 = some [.lit (.int .i64 0), .lit (.int .u8 0)] := by kernel_rfl
theorem am_fi137_0 : fieldOf Tryz.prog 137 0 = some (0, 3) := by kernel_rfl
theorem am_fi137_1 : fieldOf Tryz.prog 137 1 = some (1, 5) := by kernel_rfl
theorem am_pl137 : placesL Tryz.prog 137 = some [(0, 1), (1, 1)] := by kernel_rfl
theorem am_in138 : (Tryz.prog.info? 138).isSome = true := by kernel_rfl
theorem am_ag138 : isAggT Tryz.prog 138 = some false := by kernel_rfl
theorem am_cl138 : Tryz.prog.cellsOf 138 = 1 := by kernel_rfl
theorem am_by138 : Tryz.prog.bytesOf 138 = 8 := by kernel_rfl
theorem am_el138 : elemOfSlice Tryz.prog 138 = none := by kernel_rfl
theorem am_ze138 : zeroCellsAV Tryz.prog 138 = some [.lit (.int .u64 0)] := by kernel_rfl
theorem am_ag139 : isAggT Tryz.prog 139 = some false := by kernel_rfl
theorem am_cl139 : Tryz.prog.cellsOf 139 = 1 := by kernel_rfl
theorem am_ag140 : isAggT Tryz.prog 140 = some false := by kernel_rfl
theorem am_cl140 : Tryz.prog.cellsOf 140 = 1 := by kernel_rfl
theorem am_ag141 : isAggT Tryz.prog 141 = some false := by kernel_rfl
theorem am_cl141 : Tryz.prog.cellsOf 141 = 1 := by kernel_rfl
theorem am_in142 : (Tryz.prog.info? 142).isSome = true := by kernel_rfl
theorem am_ag142 : isAggT Tryz.prog 142 = some false := by kernel_rfl
theorem am_cl142 : Tryz.prog.cellsOf 142 = 1 := by kernel_rfl
theorem am_by142 : Tryz.prog.bytesOf 142 = 8 := by kernel_rfl
theorem am_el142 : elemOfSlice Tryz.prog 142 = none := by kernel_rfl
theorem am_ze142 : zeroCellsAV Tryz.prog 142 = some [.lit (.pointer none)] := by kernel_rfl
theorem am_ag143 : isAggT Tryz.prog 143 = some false := by kernel_rfl
theorem am_cl143 : Tryz.prog.cellsOf 143 = 1 := by kernel_rfl
theorem am_in144 : (Tryz.prog.info? 144).isSome = true := by kernel_rfl
theorem am_ag144 : isAggT Tryz.prog 144 = some false := by kernel_rfl
theorem am_cl144 : Tryz.prog.cellsOf 144 = 1 := by kernel_rfl
theorem am_by144 : Tryz.prog.bytesOf 144 = 24 := by kernel_rfl
theorem am_el144 : elemOfSlice Tryz.prog 144 = some 147 := by kernel_rfl
theorem am_ze144 : zeroCellsAV Tryz.prog 144 = some [.lit (.slice none 0 0)] := by kernel_rfl
theorem am_ag145 : isAggT Tryz.prog 145 = some false := by kernel_rfl
theorem am_cl145 : Tryz.prog.cellsOf 145 = 1 := by kernel_rfl
theorem am_in146 : (Tryz.prog.info? 146).isSome = true := by kernel_rfl
theorem am_ag146 : isAggT Tryz.prog 146 = some true := by kernel_rfl
theorem am_cl146 : Tryz.prog.cellsOf 146 = 3 := by kernel_rfl
theorem am_by146 : Tryz.prog.bytesOf 146 = 24 := by kernel_rfl
theorem am_el146 : elemOfSlice Tryz.prog 146 = none := by kernel_rfl
theorem am_ze146 : zeroCellsAV Tryz.prog 146 = some [.lit (.int .i64 0), .lit (.int .i64 0), .lit (.int .i64 0)] := by kernel_rfl
theorem am_fi146_0 : fieldOf Tryz.prog 146 0 = some (0, 3) := by kernel_rfl
theorem am_fi146_1 : fieldOf Tryz.prog 146 1 = some (1, 3) := by kernel_rfl
theorem am_fi146_2 : fieldOf Tryz.prog 146 2 = some (2, 3) := by kernel_rfl
theorem am_pl146 : placesL Tryz.prog 146 = some [(0, 1), (1, 1), (2, 1)] := by kernel_rfl
theorem am_in147 : (Tryz.prog.info? 147).isSome = true := by kernel_rfl
theorem am_ag147 : isAggT Tryz.prog 147 = some true := by kernel_rfl
theorem am_cl147 : Tryz.prog.cellsOf 147 = 3 := by kernel_rfl
theorem am_by147 : Tryz.prog.bytesOf 147 = 24 := by kernel_rfl
theorem am_el147 : elemOfSlice Tryz.prog 147 = none := by kernel_rfl
theorem am_ze147 : zeroCellsAV Tryz.prog 147 = some [.lit (.int .i64 0), .lit (.int .i64 0), .lit (.int .i64 0)] := by kernel_rfl
theorem am_fi147_0 : fieldOf Tryz.prog 147 0 = some (0, 3) := by kernel_rfl
theorem am_fi147_1 : fieldOf Tryz.prog 147 1 = some (1, 3) := by kernel_rfl
theorem am_fi147_2 : fieldOf Tryz.prog 147 2 = some (2, 3) := by kernel_rfl
theorem am_pl147 : placesL Tryz.prog 147 = some [(0, 1), (1, 1), (2, 1)] := by kernel_rfl
theorem am_in148 : (Tryz.prog.info? 148).isSome = true := by kernel_rfl
theorem am_ag148 : isAggT Tryz.prog 148 = some true := by kernel_rfl
theorem am_cl148 : Tryz.prog.cellsOf 148 = 24 := by kernel_rfl
theorem am_by148 : Tryz.prog.bytesOf 148 = 24 := by kernel_rfl
theorem am_el148 : elemOfSlice Tryz.prog 148 = none := by kernel_rfl
theorem am_ze148 : zeroCellsAV Tryz.prog 148 = some [.lit (.int .u8 0), .lit (.int .u8 0), .lit (.int .u8 0), .lit (.int .u8 0), .lit (.int .u8 0), .lit (.int .u8 0), .lit (.int .u8 0), .lit (.int .u8 0), .lit (.int .u8 0), .lit (.int .u8 0), .lit (.int .u8 0), .lit (.int .u8 0), .lit (.int .u8 0), .lit (.int .u8 0), .lit (.int .u8 0), .lit (.int .u8 0), .lit (.int .u8 0), .lit (.int .u8 0), .lit (.int .u8 0), .lit (.int .u8 0), .lit (.int .u8 0), .lit (.int .u8 0), .lit (.int .u8 0), .lit (.int .u8 0)] := by kernel_rfl
theorem am_ar148 : arrOf Tryz.prog 148 = some (24, 5) := by kernel_rfl
theorem am_pn148 : placesL Tryz.prog 148 = none := by kernel_rfl
theorem am_ag149 : isAggT Tryz.prog 149 = some false := by kernel_rfl
theorem am_cl149 : Tryz.prog.cellsOf 149 = 1 := by kernel_rfl
theorem am_ag151 : isAggT Tryz.prog 151 = some false := by kernel_rfl
theorem am_cl151 : Tryz.prog.cellsOf 151 = 1 := by kernel_rfl
theorem am_ag152 : isAggT Tryz.prog 152 = some false := by kernel_rfl
theorem am_cl152 : Tryz.prog.cellsOf 152 = 1 := by kernel_rfl
theorem am_ag153 : isAggT Tryz.prog 153 = some false := by kernel_rfl
theorem am_cl153 : Tryz.prog.cellsOf 153 = 1 := by kernel_rfl
theorem am_ag154 : isAggT Tryz.prog 154 = some false := by kernel_rfl
theorem am_cl154 : Tryz.prog.cellsOf 154 = 1 := by kernel_rfl
theorem am_ag155 : isAggT Tryz.prog 155 = some false := by kernel_rfl
theorem am_cl155 : Tryz.prog.cellsOf 155 = 1 := by kernel_rfl
theorem am_in156 : (Tryz.prog.info? 156).isSome = true := by kernel_rfl
theorem am_ag156 : isAggT Tryz.prog 156 = some true := by kernel_rfl
theorem am_cl156 : Tryz.prog.cellsOf 156 = 256 := by kernel_rfl
theorem am_by156 : Tryz.prog.bytesOf 156 = 256 := by kernel_rfl
theorem am_el156 : elemOfSlice Tryz.prog 156 = none := by kernel_rfl
theorem am_ar156 : arrOf Tryz.prog 156 = some (256, 4) := by kernel_rfl
theorem am_pn156 : placesL Tryz.prog 156 = none := by kernel_rfl
theorem am_in157 : (Tryz.prog.info? 157).isSome = true := by kernel_rfl
theorem am_ag157 : isAggT Tryz.prog 157 = some true := by kernel_rfl
theorem am_cl157 : Tryz.prog.cellsOf 157 = 256 := by kernel_rfl
theorem am_by157 : Tryz.prog.bytesOf 157 = 256 := by kernel_rfl
theorem am_el157 : elemOfSlice Tryz.prog 157 = none := by kernel_rfl
theorem am_ar157 : arrOf Tryz.prog 157 = some (256, 4) := by kernel_rfl
theorem am_pn157 : placesL Tryz.prog 157 = none := by kernel_rfl
theorem am_ag159 : isAggT Tryz.prog 159 = some false := by kernel_rfl
theorem am_cl159 : Tryz.prog.cellsOf 159 = 1 := by kernel_rfl
theorem am_ag160 : isAggT Tryz.prog 160 = some false := by kernel_rfl
theorem am_cl160 : Tryz.prog.cellsOf 160 = 1 := by kernel_rfl
theorem am_in161 : (Tryz.prog.info? 161).isSome = true := by kernel_rfl
theorem am_ag161 : isAggT Tryz.prog 161 = some false := by kernel_rfl
theorem am_cl161 : Tryz.prog.cellsOf 161 = 1 := by kernel_rfl
theorem am_by161 : Tryz.prog.bytesOf 161 = 8 := by kernel_rfl
theorem am_el161 : elemOfSlice Tryz.prog 161 = none := by kernel_rfl
theorem am_ze161 : zeroCellsAV Tryz.prog 161 = some [.lit (.pointer none)] := by kernel_rfl
theorem am_ag162 : isAggT Tryz.prog 162 = some false := by kernel_rfl
theorem am_cl162 : Tryz.prog.cellsOf 162 = 1 := by kernel_rfl
theorem am_ag163 : isAggT Tryz.prog 163 = some false := by kernel_rfl
theorem am_cl163 : Tryz.prog.cellsOf 163 = 1 := by kernel_rfl
theorem am_ag164 : isAggT Tryz.prog 164 = some false := by kernel_rfl
theorem am_cl164 : Tryz.prog.cellsOf 164 = 1 := by kernel_rfl
theorem am_in165 : (Tryz.prog.info? 165).isSome = true := by kernel_rfl
theorem am_ag165 : isAggT Tryz.prog 165 = some false := by kernel_rfl
theorem am_cl165 : Tryz.prog.cellsOf 165 = 1 := by kernel_rfl
theorem am_by165 : Tryz.prog.bytesOf 165 = 8 := by kernel_rfl
theorem am_el165 : elemOfSlice Tryz.prog 165 = none := by kernel_rfl
theorem am_ze165 : zeroCellsAV Tryz.prog 165 = some [.lit (.pointer none)] := by kernel_rfl
theorem am_ag167 : isAggT Tryz.prog 167 = some false := by kernel_rfl
theorem am_cl167 : Tryz.prog.cellsOf 167 = 1 := by kernel_rfl
theorem am_ag168 : isAggT Tryz.prog 168 = some false := by kernel_rfl
theorem am_cl168 : Tryz.prog.cellsOf 168 = 1 := by kernel_rfl
theorem am_in169 : (Tryz.prog.info? 169).isSome = true := by kernel_rfl
theorem am_ag169 : isAggT Tryz.prog 169 = some true := by kernel_rfl
theorem am_cl169 : Tryz.prog.cellsOf 169 = 20 := by kernel_rfl
theorem am_by169 : Tryz.prog.bytesOf 169 = 160 := by kernel_rfl
theorem am_el169 : elemOfSlice Tryz.prog 169 = none := by kernel_rfl
theorem am_ze169 : zeroCellsAV Tryz.prog 169 = some [.lit (.int .u64 0), .lit (.int .u64 0), .lit (.int .u64 0), .lit (.int .u64 0), .lit (.int .u64 0), .lit (.int .u64 0), .lit (.int .u64 0), .lit (.int .u64 0), .lit (.int .u64 0), .lit (.int .u64 0), .lit (.int .u64 0), .lit (.int .u64 0), .lit (.int .u64 0), .lit (.int .u64 0), .lit (.int .u64 0), .lit (.int .u64 0), .lit (.int .u64 0), .lit (.int .u64 0), .lit (.int .u64 0), .lit (.int .u64 0)] := by kernel_rfl
theorem am_ar169 : arrOf Tryz.prog 169 = some (20, 122) := by kernel_rfl
theorem am_pn169 : placesL Tryz.prog 169 = none := by kernel_rfl
theorem am_in170 : (Tryz.prog.info? 170).isSome = true := by kernel_rfl
theorem am_ag170 : isAggT Tryz.prog 170 = some true := by kernel_rfl
theorem am_cl170 : Tryz.prog.cellsOf 170 = 65 := by kernel_rfl
theorem am_by170 : Tryz.prog.bytesOf 170 = 65 := by kernel_rfl
theorem am_el170 : elemOfSlice Tryz.prog 170 = none := by kernel_rfl
theorem am_ar170 : arrOf Tryz.prog 170 = some (65, 5) := by kernel_rfl
theorem am_pn170 : placesL Tryz.prog 170 = none := by kernel_rfl
theorem am_ag172 : isAggT Tryz.prog 172 = some false := by kernel_rfl
theorem am_cl172 : Tryz.prog.cellsOf 172 = 1 := by kernel_rfl
theorem am_ag174 : isAggT Tryz.prog 174 = some false := by kernel_rfl
theorem am_cl174 : Tryz.prog.cellsOf 174 = 1 := by kernel_rfl
theorem am_ag175 : isAggT Tryz.prog 175 = some false := by kernel_rfl
theorem am_cl175 : Tryz.prog.cellsOf 175 = 1 := by kernel_rfl
theorem am_in176 : (Tryz.prog.info? 176).isSome = true := by kernel_rfl
theorem am_ag176 : isAggT Tryz.prog 176 = some false := by kernel_rfl
theorem am_cl176 : Tryz.prog.cellsOf 176 = 1 := by kernel_rfl
theorem am_by176 : Tryz.prog.bytesOf 176 = 8 := by kernel_rfl
theorem am_el176 : elemOfSlice Tryz.prog 176 = none := by kernel_rfl
theorem am_ze176 : zeroCellsAV Tryz.prog 176 = some [.lit (.int .i64 0)] := by kernel_rfl
theorem am_ag178 : isAggT Tryz.prog 178 = some false := by kernel_rfl
theorem am_cl178 : Tryz.prog.cellsOf 178 = 1 := by kernel_rfl
theorem am_in179 : (Tryz.prog.info? 179).isSome = true := by kernel_rfl
theorem am_ag179 : isAggT Tryz.prog 179 = some false := by kernel_rfl
theorem am_cl179 : Tryz.prog.cellsOf 179 = 1 := by kernel_rfl
theorem am_by179 : Tryz.prog.bytesOf 179 = 8 := by kernel_rfl
theorem am_el179 : elemOfSlice Tryz.prog 179 = none := by kernel_rfl
theorem am_ze179 : zeroCellsAV Tryz.prog 179 = some [.lit (.pointer none)] := by kernel_rfl
theorem am_ag180 : isAggT Tryz.prog 180 = some false := by kernel_rfl
theorem am_cl180 : Tryz.prog.cellsOf 180 = 1 := by kernel_rfl
theorem am_ag181 : isAggT Tryz.prog 181 = some false := by kernel_rfl
theorem am_cl181 : Tryz.prog.cellsOf 181 = 1 := by kernel_rfl
theorem am_ag182 : isAggT Tryz.prog 182 = some false := by kernel_rfl
theorem am_cl182 : Tryz.prog.cellsOf 182 = 1 := by kernel_rfl
theorem am_ag184 : isAggT Tryz.prog 184 = some false := by kernel_rfl
theorem am_cl184 : Tryz.prog.cellsOf 184 = 1 := by kernel_rfl
theorem am_ag185 : isAggT Tryz.prog 185 = some false := by kernel_rfl
theorem am_cl185 : Tryz.prog.cellsOf 185 = 1 := by kernel_rfl
theorem am_in186 : (Tryz.prog.info? 186).isSome = true := by kernel_rfl
theorem am_ag186 : isAggT Tryz.prog 186 = some true := by kernel_rfl
theorem am_cl186 : Tryz.prog.cellsOf 186 = 3 := by kernel_rfl
theorem am_by186 : Tryz.prog.bytesOf 186 = 48 := by kernel_rfl
theorem am_el186 : elemOfSlice Tryz.prog 186 = none := by kernel_rfl
theorem am_ze186 : zeroCellsAV Tryz.prog 186 = some [.lit (.string ByteArray.empty), .lit (.string ByteArray.empty), .lit (.nilIface)] := by kernel_rfl
theorem am_fi186_0 : fieldOf Tryz.prog 186 0 = some (0, 9) := by kernel_rfl
theorem am_fi186_1 : fieldOf Tryz.prog 186 1 = some (1, 9) := by kernel_rfl
theorem am_fi186_2 : fieldOf Tryz.prog 186 2 = some (2, 71) := by kernel_rfl
theorem am_pl186 : placesL Tryz.prog 186 = some [(0, 1), (1, 1), (2, 1)] := by kernel_rfl
theorem am_in187 : (Tryz.prog.info? 187).isSome = true := by kernel_rfl
theorem am_ag187 : isAggT Tryz.prog 187 = some true := by kernel_rfl
theorem am_cl187 : Tryz.prog.cellsOf 187 = 3 := by kernel_rfl
theorem am_by187 : Tryz.prog.bytesOf 187 = 48 := by kernel_rfl
theorem am_el187 : elemOfSlice Tryz.prog 187 = none := by kernel_rfl
theorem am_ze187 : zeroCellsAV Tryz.prog 187 = some [.lit (.string ByteArray.empty), .lit (.string ByteArray.empty), .lit (.nilIface)] := by kernel_rfl
theorem am_fi187_0 : fieldOf Tryz.prog 187 0 = some (0, 9) := by kernel_rfl
theorem am_fi187_1 : fieldOf Tryz.prog 187 1 = some (1, 9) := by kernel_rfl
theorem am_fi187_2 : fieldOf Tryz.prog 187 2 = some (2, 71) := by kernel_rfl
theorem am_pl187 : placesL Tryz.prog 187 = some [(0, 1), (1, 1), (2, 1)] := by kernel_rfl
theorem am_ag188 : isAggT Tryz.prog 188 = some false := by kernel_rfl
theorem am_cl188 : Tryz.prog.cellsOf 188 = 1 := by kernel_rfl
theorem am_in189 : (Tryz.prog.info? 189).isSome = true := by kernel_rfl
theorem am_ag189 : isAggT Tryz.prog 189 = some true := by kernel_rfl
theorem am_cl189 : Tryz.prog.cellsOf 189 = 32 := by kernel_rfl
theorem am_by189 : Tryz.prog.bytesOf 189 = 32 := by kernel_rfl
theorem am_el189 : elemOfSlice Tryz.prog 189 = none := by kernel_rfl
theorem am_ze189 : zeroCellsAV Tryz.prog 189 = some [.lit (.int .u8 0), .lit (.int .u8 0), .lit (.int .u8 0), .lit (.int .u8 0), .lit (.int .u8 0), .lit (.int .u8 0), .lit (.int .u8 0), .lit (.int .u8 0), .lit (.int .u8 0), .lit (.int .u8 0), .lit (.int .u8 0), .lit (.int .u8 0), .lit (.int .u8 0), .lit (.int .u8 0), .lit (.int .u8 0), .lit (.int .u8 0), .lit (.int .u8 0), .lit (.int .u8 0), .lit (.int .u8 0), .lit (.int .u8 0), .lit (.int .u8 0), .lit (.int .u8 0), .lit (.int .u8 0), .lit (.int .u8 0), .lit (.int .u8 0), .lit (.int .u8 0), .lit (.int .u8 0), .lit (.int .u8 0), .lit (.int .u8 0), .lit (.int .u8 0), .lit (.int .u8 0), .lit (.int .u8 0)] := by kernel_rfl
theorem am_ar189 : arrOf Tryz.prog 189 = some (32, 5) := by kernel_rfl
theorem am_pn189 : placesL Tryz.prog 189 = none := by kernel_rfl
theorem am_in190 : (Tryz.prog.info? 190).isSome = true := by kernel_rfl
theorem am_ag190 : isAggT Tryz.prog 190 = some true := by kernel_rfl
theorem am_cl190 : Tryz.prog.cellsOf 190 = 64 := by kernel_rfl
theorem am_by190 : Tryz.prog.bytesOf 190 = 64 := by kernel_rfl
theorem am_el190 : elemOfSlice Tryz.prog 190 = none := by kernel_rfl
theorem am_ar190 : arrOf Tryz.prog 190 = some (64, 5) := by kernel_rfl
theorem am_pn190 : placesL Tryz.prog 190 = none := by kernel_rfl
theorem am_in191 : (Tryz.prog.info? 191).isSome = true := by kernel_rfl
theorem am_ag191 : isAggT Tryz.prog 191 = some true := by kernel_rfl
theorem am_cl191 : Tryz.prog.cellsOf 191 = 256 := by kernel_rfl
theorem am_by191 : Tryz.prog.bytesOf 191 = 256 := by kernel_rfl
theorem am_el191 : elemOfSlice Tryz.prog 191 = none := by kernel_rfl
theorem am_ar191 : arrOf Tryz.prog 191 = some (256, 5) := by kernel_rfl
theorem am_pn191 : placesL Tryz.prog 191 = none := by kernel_rfl
theorem am_in192 : (Tryz.prog.info? 192).isSome = true := by kernel_rfl
theorem am_ag192 : isAggT Tryz.prog 192 = some true := by kernel_rfl
theorem am_cl192 : Tryz.prog.cellsOf 192 = 2 := by kernel_rfl
theorem am_by192 : Tryz.prog.bytesOf 192 = 2 := by kernel_rfl
theorem am_el192 : elemOfSlice Tryz.prog 192 = none := by kernel_rfl
theorem am_ze192 : zeroCellsAV Tryz.prog 192 = some [.lit (.int .u8 0), .lit (.int .u8 0)] := by kernel_rfl
theorem am_fi192_0 : fieldOf Tryz.prog 192 0 = some (0, 5) := by kernel_rfl
theorem am_fi192_1 : fieldOf Tryz.prog 192 1 = some (1, 5) := by kernel_rfl
theorem am_pl192 : placesL Tryz.prog 192 = some [(0, 1), (1, 1)] := by kernel_rfl
theorem am_in193 : (Tryz.prog.info? 193).isSome = true := by kernel_rfl
theorem am_ag193 : isAggT Tryz.prog 193 = some true := by kernel_rfl
theorem am_cl193 : Tryz.prog.cellsOf 193 = 2 := by kernel_rfl
theorem am_by193 : Tryz.prog.bytesOf 193 = 2 := by kernel_rfl
theorem am_el193 : elemOfSlice Tryz.prog 193 = none := by kernel_rfl
theorem am_ze193 : zeroCellsAV Tryz.prog 193 = some [.lit (.int .u8 0), .lit (.int .u8 0)] := by kernel_rfl
theorem am_fi193_0 : fieldOf Tryz.prog 193 0 = some (0, 5) := by kernel_rfl
theorem am_fi193_1 : fieldOf Tryz.prog 193 1 = some (1, 5) := by kernel_rfl
theorem am_pl193 : placesL Tryz.prog 193 = some [(0, 1), (1, 1)] := by kernel_rfl
theorem am_in194 : (Tryz.prog.info? 194).isSome = true := by kernel_rfl
theorem am_ag194 : isAggT Tryz.prog 194 = some true := by kernel_rfl
theorem am_cl194 : Tryz.prog.cellsOf 194 = 32 := by kernel_rfl
theorem am_by194 : Tryz.prog.bytesOf 194 = 32 := by kernel_rfl
theorem am_el194 : elemOfSlice Tryz.prog 194 = none := by kernel_rfl
theorem am_ze194 : zeroCellsAV Tryz.prog 194 = some [.lit (.int .u8 0), .lit (.int .u8 0), .lit (.int .u8 0), .lit (.int .u8 0), .lit (.int .u8 0), .lit (.int .u8 0), .lit (.int .u8 0), .lit (.int .u8 0), .lit (.int .u8 0), .lit (.int .u8 0), .lit (.int .u8 0), .lit (.int .u8 0), .lit (.int .u8 0), .lit (.int .u8 0), .lit (.int .u8 0), .lit (.int .u8 0), .lit (.int .u8 0), .lit (.int .u8 0), .lit (.int .u8 0), .lit (.int .u8 0), .lit (.int .u8 0), .lit (.int .u8 0), .lit (.int .u8 0), .lit (.int .u8 0), .lit (.int .u8 0), .lit (.int .u8 0), .lit (.int .u8 0), .lit (.int .u8 0), .lit (.int .u8 0), .lit (.int .u8 0), .lit (.int .u8 0), .lit (.int .u8 0)] := by kernel_rfl
theorem am_ar194 : arrOf Tryz.prog 194 = some (16, 193) := by kernel_rfl
theorem am_pn194 : placesL Tryz.prog 194 = none := by kernel_rfl
theorem am_ag195 : isAggT Tryz.prog 195 = some false := by kernel_rfl
theorem am_cl195 : Tryz.prog.cellsOf 195 = 1 := by kernel_rfl
theorem am_ag196 : isAggT Tryz.prog 196 = some false := by kernel_rfl
theorem am_cl196 : Tryz.prog.cellsOf 196 = 1 := by kernel_rfl
theorem am_in197 : (Tryz.prog.info? 197).isSome = true := by kernel_rfl
theorem am_ag197 : isAggT Tryz.prog 197 = some false := by kernel_rfl
theorem am_cl197 : Tryz.prog.cellsOf 197 = 1 := by kernel_rfl
theorem am_by197 : Tryz.prog.bytesOf 197 = 8 := by kernel_rfl
theorem am_el197 : elemOfSlice Tryz.prog 197 = none := by kernel_rfl
theorem am_ze197 : zeroCellsAV Tryz.prog 197 = some [.lit (.pointer none)] := by kernel_rfl
theorem am_in198 : (Tryz.prog.info? 198).isSome = true := by kernel_rfl
theorem am_ag198 : isAggT Tryz.prog 198 = some true := by kernel_rfl
theorem am_cl198 : Tryz.prog.cellsOf 198 = 1 := by kernel_rfl
theorem am_by198 : Tryz.prog.bytesOf 198 = 16 := by kernel_rfl
theorem am_el198 : elemOfSlice Tryz.prog 198 = none := by kernel_rfl
theorem am_ze198 : zeroCellsAV Tryz.prog 198 = some [.lit (.string ByteArray.empty)] := by kernel_rfl
theorem am_fi198_0 : fieldOf Tryz.prog 198 0 = some (0, 9) := by kernel_rfl
theorem am_pl198 : placesL Tryz.prog 198 = some [(0, 1)] := by kernel_rfl
theorem am_in199 : (Tryz.prog.info? 199).isSome = true := by kernel_rfl
theorem am_ag199 : isAggT Tryz.prog 199 = some true := by kernel_rfl
theorem am_cl199 : Tryz.prog.cellsOf 199 = 1 := by kernel_rfl
theorem am_by199 : Tryz.prog.bytesOf 199 = 16 := by kernel_rfl
theorem am_el199 : elemOfSlice Tryz.prog 199 = none := by kernel_rfl
theorem am_ze199 : zeroCellsAV Tryz.prog 199 = some [.lit (.string ByteArray.empty)] := by kernel_rfl
theorem am_fi199_0 : fieldOf Tryz.prog 199 0 = some (0, 9) := by kernel_rfl
theorem am_pl199 : placesL Tryz.prog 199 = some [(0, 1)] := by kernel_rfl
theorem am_in200 : (Tryz.prog.info? 200).isSome = true := by kernel_rfl
theorem am_ag200 : isAggT Tryz.prog 200 = some true := by kernel_rfl
theorem am_cl200 : Tryz.prog.cellsOf 200 = 4 := by kernel_rfl
theorem am_by200 : Tryz.prog.bytesOf 200 = 40 := by kernel_rfl
theorem am_el200 : elemOfSlice Tryz.prog 200 = none := by kernel_rfl
theorem am_ze200 : zeroCellsAV Tryz.prog 200 = some [.lit (.pointer none), .lit (.pointer none), .lit (.pointer none), .lit (.string ByteArray.empty)] := by kernel_rfl
theorem am_fi200_0 : fieldOf Tryz.prog 200 0 = some (0, 17) := by kernel_rfl
theorem am_fi200_1 : fieldOf Tryz.prog 200 1 = some (1, 17) := by kernel_rfl
theorem am_fi200_2 : fieldOf Tryz.prog 200 2 = some (2, 17) := by kernel_rfl
theorem am_fi200_3 : fieldOf Tryz.prog 200 3 = some (3, 9) := by kernel_rfl
theorem am_pl200 : placesL Tryz.prog 200 = some [(0, 1), (1, 1), (2, 1), (3, 1)] := by kernel_rfl
theorem am_in201 : (Tryz.prog.info? 201).isSome = true := by kernel_rfl
theorem am_ag201 : isAggT Tryz.prog 201 = some true := by kernel_rfl
theorem am_cl201 : Tryz.prog.cellsOf 201 = 4 := by kernel_rfl
theorem am_by201 : Tryz.prog.bytesOf 201 = 40 := by kernel_rfl
theorem am_el201 : elemOfSlice Tryz.prog 201 = none := by kernel_rfl
theorem am_ze201 : zeroCellsAV Tryz.prog 201 = some [.lit (.pointer none), .lit (.pointer none), .lit (.pointer none), .lit (.string ByteArray.empty)] := by kernel_rfl
theorem am_fi201_0 : fieldOf Tryz.prog 201 0 = some (0, 17) := by kernel_rfl
theorem am_fi201_1 : fieldOf Tryz.prog 201 1 = some (1, 17) := by kernel_rfl
theorem am_fi201_2 : fieldOf Tryz.prog 201 2 = some (2, 17) := by kernel_rfl
theorem am_fi201_3 : fieldOf Tryz.prog 201 3 = some (3, 9) := by kernel_rfl
theorem am_pl201 : placesL Tryz.prog 201 = some [(0, 1), (1, 1), (2, 1), (3, 1)] := by kernel_rfl
theorem am_in202 : (Tryz.prog.info? 202).isSome = true := by kernel_rfl
theorem am_ag202 : isAggT Tryz.prog 202 = some true := by kernel_rfl
theorem am_cl202 : Tryz.prog.cellsOf 202 = 0 := by kernel_rfl
theorem am_by202 : Tryz.prog.bytesOf 202 = 0 := by kernel_rfl
theorem am_el202 : elemOfSlice Tryz.prog 202 = none := by kernel_rfl
theorem am_ze202 : zeroCellsAV Tryz.prog 202 = some [] := by kernel_rfl
theorem am_ar202 : arrOf Tryz.prog 202 = some (0, 16) := by kernel_rfl
theorem am_pn202 : placesL Tryz.prog 202 = none := by kernel_rfl
theorem am_in203 : (Tryz.prog.info? 203).isSome = true := by kernel_rfl
theorem am_ag203 : isAggT Tryz.prog 203 = some true := by kernel_rfl
theorem am_cl203 : Tryz.prog.cellsOf 203 = 0 := by kernel_rfl
theorem am_by203 : Tryz.prog.bytesOf 203 = 0 := by kernel_rfl
theorem am_el203 : elemOfSlice Tryz.prog 203 = none := by kernel_rfl
theorem am_ze203 : zeroCellsAV Tryz.prog 203 = some [] := by kernel_rfl
theorem am_fi203_0 : fieldOf Tryz.prog 203 0 = some (0, 202) := by kernel_rfl
theorem am_pl203 : placesL Tryz.prog 203 = some [(0, 0)] := by kernel_rfl
theorem am_in204 : (Tryz.prog.info? 204).isSome = true := by kernel_rfl
theorem am_ag204 : isAggT Tryz.prog 204 = some true := by kernel_rfl
theorem am_cl204 : Tryz.prog.cellsOf 204 = 0 := by kernel_rfl
theorem am_by204 : Tryz.prog.bytesOf 204 = 0 := by kernel_rfl
theorem am_el204 : elemOfSlice Tryz.prog 204 = none := by kernel_rfl
theorem am_ze204 : zeroCellsAV Tryz.prog 204 = some [] := by kernel_rfl
theorem am_fi204_0 : fieldOf Tryz.prog 204 0 = some (0, 202) := by kernel_rfl
theorem am_pl204 : placesL Tryz.prog 204 = some [(0, 0)] := by kernel_rfl
theorem am_in205 : (Tryz.prog.info? 205).isSome = true := by kernel_rfl
theorem am_ag205 : isAggT Tryz.prog 205 = some false := by kernel_rfl
theorem am_cl205 : Tryz.prog.cellsOf 205 = 1 := by kernel_rfl
theorem am_by205 : Tryz.prog.bytesOf 205 = 1 := by kernel_rfl
theorem am_el205 : elemOfSlice Tryz.prog 205 = none := by kernel_rfl
theorem am_ze205 : zeroCellsAV Tryz.prog 205 = some [.lit (.int .u8 0)] := by kernel_rfl
theorem am_in206 : (Tryz.prog.info? 206).isSome = true := by kernel_rfl
theorem am_ag206 : isAggT Tryz.prog 206 = some false := by kernel_rfl
theorem am_cl206 : Tryz.prog.cellsOf 206 = 1 := by kernel_rfl
theorem am_by206 : Tryz.prog.bytesOf 206 = 1 := by kernel_rfl
theorem am_el206 : elemOfSlice Tryz.prog 206 = none := by kernel_rfl
theorem am_ze206 : zeroCellsAV Tryz.prog 206 = some [.lit (.int .u8 0)] := by kernel_rfl
theorem am_ag207 : isAggT Tryz.prog 207 = some false := by kernel_rfl
theorem am_cl207 : Tryz.prog.cellsOf 207 = 1 := by kernel_rfl
theorem am_in208 : (Tryz.prog.info? 208).isSome = true := by kernel_rfl
theorem am_ag208 : isAggT Tryz.prog 208 = some false := by kernel_rfl
theorem am_cl208 : Tryz.prog.cellsOf 208 = 1 := by kernel_rfl
theorem am_by208 : Tryz.prog.bytesOf 208 = 4 := by kernel_rfl
theorem am_el208 : elemOfSlice Tryz.prog 208 = none := by kernel_rfl
theorem am_ze208 : zeroCellsAV Tryz.prog 208 = some [.lit (.int .i32 0)] := by kernel_rfl
theorem am_in209 : (Tryz.prog.info? 209).isSome = true := by kernel_rfl
theorem am_ag209 : isAggT Tryz.prog 209 = some false := by kernel_rfl
theorem am_cl209 : Tryz.prog.cellsOf 209 = 1 := by kernel_rfl
theorem am_by209 : Tryz.prog.bytesOf 209 = 4 := by kernel_rfl
theorem am_el209 : elemOfSlice Tryz.prog 209 = none := by kernel_rfl
theorem am_ze209 : zeroCellsAV Tryz.prog 209 = some [.lit (.int .i32 0)] := by kernel_rfl
theorem am_in210 : (Tryz.prog.info? 210).isSome = true := by kernel_rfl
theorem am_ag210 : isAggT Tryz.prog 210 = some true := by kernel_rfl
theorem am_cl210 : Tryz.prog.cellsOf 210 = 11 := by kernel_rfl
theorem am_by210 : Tryz.prog.bytesOf 210 = 48 := by kernel_rfl
theorem am_el210 : elemOfSlice Tryz.prog 210 = none := by kernel_rfl
theorem am_ze210 : zeroCellsAV Tryz.prog 210 = some [.lit (.int .u64 0), .lit (.int .u64 0), .lit (.int .u32 0), .lit (.int .u8 0), .lit (.int .u8 0), .lit (.int .u8 0), .lit (.int .u8 0), .lit (.nilFunc), .lit (.pointer none), .lit (.int .i32 0), .lit (.int .i32 0)] := by kernel_rfl
theorem am_fi210_0 : fieldOf Tryz.prog 210 0 = some (0, 12) := by kernel_rfl
theorem am_fi210_1 : fieldOf Tryz.prog 210 1 = some (1, 12) := by kernel_rfl
theorem am_fi210_2 : fieldOf Tryz.prog 210 2 = some (2, 120) := by kernel_rfl
theorem am_fi210_3 : fieldOf Tryz.prog 210 3 = some (3, 205) := by kernel_rfl
theorem am_fi210_4 : fieldOf Tryz.prog 210 4 = some (4, 5) := by kernel_rfl
theorem am_fi210_5 : fieldOf Tryz.prog 210 5 = some (5, 5) := by kernel_rfl
theorem am_fi210_6 : fieldOf Tryz.prog 210 6 = some (6, 206) := by kernel_rfl
theorem am_fi210_7 : fieldOf Tryz.prog 210 7 = some (7, 207) := by kernel_rfl
theorem am_fi210_8 : fieldOf Tryz.prog 210 8 = some (8, 98) := by kernel_rfl
theorem am_fi210_9 : fieldOf Tryz.prog 210 9 = some (9, 208) := by kernel_rfl
theorem am_fi210_10 : fieldOf Tryz.prog 210 10 = some (10, 209) := by kernel_rfl
theorem am_pl210 : placesL Tryz.prog 210 = some [(0, 1), (1, 1), (2, 1), (3, 1), (4, 1), (5, 1), (6, 1), (7, 1), (8, 1), (9, 1), (10, 1)] := by kernel_rfl
theorem am_in211 : (Tryz.prog.info? 211).isSome = true := by kernel_rfl
theorem am_ag211 : isAggT Tryz.prog 211 = some true := by kernel_rfl
theorem am_cl211 : Tryz.prog.cellsOf 211 = 11 := by kernel_rfl
theorem am_by211 : Tryz.prog.bytesOf 211 = 48 := by kernel_rfl
theorem am_el211 : elemOfSlice Tryz.prog 211 = none := by kernel_rfl
theorem am_ze211 : zeroCellsAV Tryz.prog 211 = some [.lit (.int .u64 0), .lit (.int .u64 0), .lit (.int .u32 0), .lit (.int .u8 0), .lit (.int .u8 0), .lit (.int .u8 0), .lit (.int .u8 0), .lit (.nilFunc), .lit (.pointer none), .lit (.int .i32 0), .lit (.int .i32 0)] := by kernel_rfl
theorem am_fi211_0 : fieldOf Tryz.prog 211 0 = some (0, 12) := by kernel_rfl
theorem am_fi211_1 : fieldOf Tryz.prog 211 1 = some (1, 12) := by kernel_rfl
theorem am_fi211_2 : fieldOf Tryz.prog 211 2 = some (2, 120) := by kernel_rfl
theorem am_fi211_3 : fieldOf Tryz.prog 211 3 = some (3, 205) := by kernel_rfl
theorem am_fi211_4 : fieldOf Tryz.prog 211 4 = some (4, 5) := by kernel_rfl
theorem am_fi211_5 : fieldOf Tryz.prog 211 5 = some (5, 5) := by kernel_rfl
theorem am_fi211_6 : fieldOf Tryz.prog 211 6 = some (6, 206) := by kernel_rfl
theorem am_fi211_7 : fieldOf Tryz.prog 211 7 = some (7, 207) := by kernel_rfl
theorem am_fi211_8 : fieldOf Tryz.prog 211 8 = some (8, 98) := by kernel_rfl
theorem am_fi211_9 : fieldOf Tryz.prog 211 9 = some (9, 208) := by kernel_rfl
theorem am_fi211_10 : fieldOf Tryz.prog 211 10 = some (10, 209) := by kernel_rfl
theorem am_pl211 : placesL Tryz.prog 211 = some [(0, 1), (1, 1), (2, 1), (3, 1), (4, 1), (5, 1), (6, 1), (7, 1), (8, 1), (9, 1), (10, 1)] := by kernel_rfl

end Go.Proofs.YtddogeicmhbidaaGreatDoor

