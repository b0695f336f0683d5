/-
  Closed facts on the types of the program, as the abstract machine asks them.
  Conditions: none.
-/
import Derived.Test.YtnomiafjeiijkaaDoorAmStep
import Derived.Test.YtnomiafjeiijkaaDoorChecked
import Derived.KernelRfl
namespace Go.Proofs.YtnomiafjeiijkaaDoor
open Go.AM
theorem am_ag1 : isAggT Tryd.prog 1 = some false := by kernel_rfl
theorem am_cl1 : Tryd.prog.cellsOf 1 = 1 := by kernel_rfl
theorem am_in2 : (Tryd.prog.info? 2).isSome = true := by kernel_rfl
theorem am_ag2 : isAggT Tryd.prog 2 = some false := by kernel_rfl
theorem am_cl2 : Tryd.prog.cellsOf 2 = 1 := by kernel_rfl
theorem am_by2 : Tryd.prog.bytesOf 2 = 8 := by kernel_rfl
theorem am_el2 : elemOfSlice Tryd.prog 2 = none := by kernel_rfl
theorem am_ze2 : zeroCellsAV Tryd.prog 2 = some [.lit (.int .i64 0)] := by kernel_rfl
theorem am_in3 : (Tryd.prog.info? 3).isSome = true := by kernel_rfl
theorem am_ag3 : isAggT Tryd.prog 3 = some false := by kernel_rfl
theorem am_cl3 : Tryd.prog.cellsOf 3 = 1 := by kernel_rfl
theorem am_by3 : Tryd.prog.bytesOf 3 = 8 := by kernel_rfl
theorem am_el3 : elemOfSlice Tryd.prog 3 = none := by kernel_rfl
theorem am_ze3 : zeroCellsAV Tryd.prog 3 = some [.lit (.int .i64 0)] := by kernel_rfl
theorem am_in4 : (Tryd.prog.info? 4).isSome = true := by kernel_rfl
theorem am_ag4 : isAggT Tryd.prog 4 = some false := by kernel_rfl
theorem am_cl4 : Tryd.prog.cellsOf 4 = 1 := by kernel_rfl
theorem am_by4 : Tryd.prog.bytesOf 4 = 1 := by kernel_rfl
theorem am_el4 : elemOfSlice Tryd.prog 4 = none := by kernel_rfl
theorem am_ze4 : zeroCellsAV Tryd.prog 4 = some [.lit (.bool false)] := by kernel_rfl
theorem am_in5 : (Tryd.prog.info? 5).isSome = true := by kernel_rfl
theorem am_ag5 : isAggT Tryd.prog 5 = some false := by kernel_rfl
theorem am_cl5 : Tryd.prog.cellsOf 5 = 1 := by kernel_rfl
theorem am_by5 : Tryd.prog.bytesOf 5 = 1 := by kernel_rfl
theorem am_el5 : elemOfSlice Tryd.prog 5 = none := by kernel_rfl
theorem am_ze5 : zeroCellsAV Tryd.prog 5 = some [.lit (.int .u8 0)] := by kernel_rfl
theorem am_in6 : (Tryd.prog.info? 6).isSome = true := by kernel_rfl
theorem am_ag6 : isAggT Tryd.prog 6 = some false := by kernel_rfl
theorem am_cl6 : Tryd.prog.cellsOf 6 = 1 := by kernel_rfl
theorem am_by6 : Tryd.prog.bytesOf 6 = 1 := by kernel_rfl
theorem am_el6 : elemOfSlice Tryd.prog 6 = none := by kernel_rfl
theorem am_ze6 : zeroCellsAV Tryd.prog 6 = some [.lit (.int .u8 0)] := by kernel_rfl
theorem am_in7 : (Tryd.prog.info? 7).isSome = true := by kernel_rfl
theorem am_ag7 : isAggT Tryd.prog 7 = some true := by kernel_rfl
theorem am_cl7 : Tryd.prog.cellsOf 7 = 4 := by kernel_rfl
theorem am_by7 : Tryd.prog.bytesOf 7 = 24 := by kernel_rfl
theorem am_el7 : elemOfSlice Tryd.prog 7 = none := by kernel_rfl
theorem am_ze7 : zeroCellsAV Tryd.prog 7 = some [.lit (.int .i64 0), .lit (.int .i64 0), .lit (.bool false), .lit (.int .u8 0)] := by kernel_rfl
theorem am_fi7_0 : fieldOf Tryd.prog 7 0 = some (0, 2) := by kernel_rfl
theorem am_fi7_1 : fieldOf Tryd.prog 7 1 = some (1, 3) := by kernel_rfl
theorem am_fi7_2 : fieldOf Tryd.prog 7 2 = some (2, 4) := by kernel_rfl
theorem am_fi7_3 : fieldOf Tryd.prog 7 3 = some (3, 6) := by kernel_rfl
theorem am_pl7 : placesL Tryd.prog 7 = some [(0, 1), (1, 1), (2, 1), (3, 1)] := by kernel_rfl
theorem am_in8 : (Tryd.prog.info? 8).isSome = true := by kernel_rfl
theorem am_ag8 : isAggT Tryd.prog 8 = some true := by kernel_rfl
theorem am_cl8 : Tryd.prog.cellsOf 8 = 4 := by kernel_rfl
theorem am_by8 : Tryd.prog.bytesOf 8 = 24 := by kernel_rfl
theorem am_el8 : elemOfSlice Tryd.prog 8 = none := by kernel_rfl
theorem am_ze8 : zeroCellsAV Tryd.prog 8 = some [.lit (.int .i64 0), .lit (.int .i64 0), .lit (.bool false), .lit (.int .u8 0)] := by kernel_rfl
theorem am_fi8_0 : fieldOf Tryd.prog 8 0 = some (0, 2) := by kernel_rfl
theorem am_fi8_1 : fieldOf Tryd.prog 8 1 = some (1, 3) := by kernel_rfl
theorem am_fi8_2 : fieldOf Tryd.prog 8 2 = some (2, 4) := by kernel_rfl
theorem am_fi8_3 : fieldOf Tryd.prog 8 3 = some (3, 6) := by kernel_rfl
theorem am_pl8 : placesL Tryd.prog 8 = some [(0, 1), (1, 1), (2, 1), (3, 1)] := by kernel_rfl
theorem am_in9 : (Tryd.prog.info? 9).isSome = true := by kernel_rfl
theorem am_ag9 : isAggT Tryd.prog 9 = some false := by kernel_rfl
theorem am_cl9 : Tryd.prog.cellsOf 9 = 1 := by kernel_rfl
theorem am_by9 : Tryd.prog.bytesOf 9 = 16 := by kernel_rfl
theorem am_el9 : elemOfSlice Tryd.prog 9 = none := by kernel_rfl
theorem am_ze9 : zeroCellsAV Tryd.prog 9 = some [.lit (.string ByteArray.empty)] := by kernel_rfl
theorem am_in10 : (Tryd.prog.info? 10).isSome = true := by kernel_rfl
theorem am_ag10 : isAggT Tryd.prog 10 = some false := by kernel_rfl
theorem am_cl10 : Tryd.prog.cellsOf 10 = 1 := by kernel_rfl
theorem am_by10 : Tryd.prog.bytesOf 10 = 16 := by kernel_rfl
theorem am_el10 : elemOfSlice Tryd.prog 10 = none := by kernel_rfl
theorem am_ze10 : zeroCellsAV Tryd.prog 10 = some [.lit (.string ByteArray.empty)] := by kernel_rfl
theorem am_in11 : (Tryd.prog.info? 11).isSome = true := by kernel_rfl
theorem am_ag11 : isAggT Tryd.prog 11 = some false := by kernel_rfl
theorem am_cl11 : Tryd.prog.cellsOf 11 = 1 := by kernel_rfl
theorem am_by11 : Tryd.prog.bytesOf 11 = 16 := by kernel_rfl
theorem am_el11 : elemOfSlice Tryd.prog 11 = none := by kernel_rfl
theorem am_ze11 : zeroCellsAV Tryd.prog 11 = some [.lit (.string ByteArray.empty)] := by kernel_rfl
theorem am_in12 : (Tryd.prog.info? 12).isSome = true := by kernel_rfl
theorem am_ag12 : isAggT Tryd.prog 12 = some false := by kernel_rfl
theorem am_cl12 : Tryd.prog.cellsOf 12 = 1 := by kernel_rfl
theorem am_by12 : Tryd.prog.bytesOf 12 = 8 := by kernel_rfl
theorem am_el12 : elemOfSlice Tryd.prog 12 = none := by kernel_rfl
theorem am_ze12 : zeroCellsAV Tryd.prog 12 = some [.lit (.int .u64 0)] := by kernel_rfl
theorem am_in13 : (Tryd.prog.info? 13).isSome = true := by kernel_rfl
theorem am_ag13 : isAggT Tryd.prog 13 = some true := by kernel_rfl
theorem am_cl13 : Tryd.prog.cellsOf 13 = 2 := by kernel_rfl
theorem am_by13 : Tryd.prog.bytesOf 13 = 24 := by kernel_rfl
theorem am_el13 : elemOfSlice Tryd.prog 13 = none := by kernel_rfl
theorem am_ze13 : zeroCellsAV Tryd.prog 13 = some [.lit (.string ByteArray.empty), .lit (.int .u64 0)] := by kernel_rfl
theorem am_fi13_0 : fieldOf Tryd.prog 13 0 = some (0, 9) := by kernel_rfl
theorem am_fi13_1 : fieldOf Tryd.prog 13 1 = some (1, 12) := by kernel_rfl
theorem am_pl13 : placesL Tryd.prog 13 = some [(0, 1), (1, 1)] := by kernel_rfl
theorem am_in14 : (Tryd.prog.info? 14).isSome = true := by kernel_rfl
theorem am_ag14 : isAggT Tryd.prog 14 = some true := by kernel_rfl
theorem am_cl14 : Tryd.prog.cellsOf 14 = 2 := by kernel_rfl
theorem am_by14 : Tryd.prog.bytesOf 14 = 24 := by kernel_rfl
theorem am_el14 : elemOfSlice Tryd.prog 14 = none := by kernel_rfl
theorem am_ze14 : zeroCellsAV Tryd.prog 14 = some [.lit (.string ByteArray.empty), .lit (.int .u64 0)] := by kernel_rfl
theorem am_fi14_0 : fieldOf Tryd.prog 14 0 = some (0, 9) := by kernel_rfl
theorem am_fi14_1 : fieldOf Tryd.prog 14 1 = some (1, 12) := by kernel_rfl
theorem am_pl14 : placesL Tryd.prog 14 = some [(0, 1), (1, 1)] := by kernel_rfl
theorem am_in15 : (Tryd.prog.info? 15).isSome = true := by kernel_rfl
theorem am_ag15 : isAggT Tryd.prog 15 = some false := by kernel_rfl
theorem am_cl15 : Tryd.prog.cellsOf 15 = 1 := by kernel_rfl
theorem am_by15 : Tryd.prog.bytesOf 15 = 8 := by kernel_rfl
theorem am_el15 : elemOfSlice Tryd.prog 15 = none := by kernel_rfl
theorem am_ze15 : zeroCellsAV Tryd.prog 15 = some [.lit (.pointer none)] := by kernel_rfl
theorem am_in16 : (Tryd.prog.info? 16).isSome = true := by kernel_rfl
theorem am_ag16 : isAggT Tryd.prog 16 = some false := by kernel_rfl
theorem am_cl16 : Tryd.prog.cellsOf 16 = 1 := by kernel_rfl
theorem am_by16 : Tryd.prog.bytesOf 16 = 8 := by kernel_rfl
theorem am_el16 : elemOfSlice Tryd.prog 16 = none := by kernel_rfl
theorem am_ze16 : zeroCellsAV Tryd.prog 16 = some [.lit (.pointer none)] := by kernel_rfl
theorem am_in17 : (Tryd.prog.info? 17).isSome = true := by kernel_rfl
theorem am_ag17 : isAggT Tryd.prog 17 = some false := by kernel_rfl
theorem am_cl17 : Tryd.prog.cellsOf 17 = 1 := by kernel_rfl
theorem am_by17 : Tryd.prog.bytesOf 17 = 8 := by kernel_rfl
theorem am_el17 : elemOfSlice Tryd.prog 17 = none := by kernel_rfl
theorem am_ze17 : zeroCellsAV Tryd.prog 17 = some [.lit (.pointer none)] := by kernel_rfl
theorem am_in18 : (Tryd.prog.info? 18).isSome = true := by kernel_rfl
theorem am_ag18 : isAggT Tryd.prog 18 = some true := by kernel_rfl
theorem am_cl18 : Tryd.prog.cellsOf 18 = 1 := by kernel_rfl
theorem am_by18 : Tryd.prog.bytesOf 18 = 8 := by kernel_rfl
theorem am_el18 : elemOfSlice Tryd.prog 18 = none := by kernel_rfl
theorem am_ze18 : zeroCellsAV Tryd.prog 18 = some [.lit (.pointer none)] := by kernel_rfl
theorem am_fi18_0 : fieldOf Tryd.prog 18 0 = some (0, 17) := by kernel_rfl
theorem am_pl18 : placesL Tryd.prog 18 = some [(0, 1)] := by kernel_rfl
theorem am_in19 : (Tryd.prog.info? 19).isSome = true := by kernel_rfl
theorem am_ag19 : isAggT Tryd.prog 19 = some true := by kernel_rfl
theorem am_cl19 : Tryd.prog.cellsOf 19 = 1 := by kernel_rfl
theorem am_by19 : Tryd.prog.bytesOf 19 = 8 := by kernel_rfl
theorem am_el19 : elemOfSlice Tryd.prog 19 = none := by kernel_rfl
theorem am_ze19 : zeroCellsAV Tryd.prog 19 = some [.lit (.pointer none)] := by kernel_rfl
theorem am_fi19_0 : fieldOf Tryd.prog 19 0 = some (0, 17) := by kernel_rfl
theorem am_pl19 : placesL Tryd.prog 19 = some [(0, 1)] := by kernel_rfl
theorem am_ag20 : isAggT Tryd.prog 20 = some false := by kernel_rfl
theorem am_cl20 : Tryd.prog.cellsOf 20 = 1 := by kernel_rfl
theorem am_in21 : (Tryd.prog.info? 21).isSome = true := by kernel_rfl
theorem am_ag21 : isAggT Tryd.prog 21 = some false := by kernel_rfl
theorem am_cl21 : Tryd.prog.cellsOf 21 = 1 := by kernel_rfl
theorem am_by21 : Tryd.prog.bytesOf 21 = 4 := by kernel_rfl
theorem am_el21 : elemOfSlice Tryd.prog 21 = none := by kernel_rfl
theorem am_ze21 : zeroCellsAV Tryd.prog 21 = some [.lit (.int .i32 0)] := by kernel_rfl
theorem am_in22 : (Tryd.prog.info? 22).isSome = true := by kernel_rfl
theorem am_ag22 : isAggT Tryd.prog 22 = some true := by kernel_rfl
theorem am_cl22 : Tryd.prog.cellsOf 22 = 3 := by kernel_rfl
theorem am_by22 : Tryd.prog.bytesOf 22 = 24 := by kernel_rfl
theorem am_el22 : elemOfSlice Tryd.prog 22 = none := by kernel_rfl
theorem am_ze22 : zeroCellsAV Tryd.prog 22 = some [.lit (.int .i64 0), .lit (.int .i64 0), .lit (.int .i64 0)] := by kernel_rfl
theorem am_fi22_0 : fieldOf Tryd.prog 22 0 = some (0, 3) := by kernel_rfl
theorem am_fi22_1 : fieldOf Tryd.prog 22 1 = some (1, 3) := by kernel_rfl
theorem am_fi22_2 : fieldOf Tryd.prog 22 2 = some (2, 3) := by kernel_rfl
theorem am_pl22 : placesL Tryd.prog 22 = some [(0, 1), (1, 1), (2, 1)] := by kernel_rfl
theorem am_in23 : (Tryd.prog.info? 23).isSome = true := by kernel_rfl
theorem am_ag23 : isAggT Tryd.prog 23 = some true := by kernel_rfl
theorem am_cl23 : Tryd.prog.cellsOf 23 = 3 := by kernel_rfl
theorem am_by23 : Tryd.prog.bytesOf 23 = 24 := by kernel_rfl
theorem am_el23 : elemOfSlice Tryd.prog 23 = none := by kernel_rfl
theorem am_ze23 : zeroCellsAV Tryd.prog 23 = some [.lit (.int .i64 0), .lit (.int .i64 0), .lit (.int .i64 0)] := by kernel_rfl
theorem am_fi23_0 : fieldOf Tryd.prog 23 0 = some (0, 3) := by kernel_rfl
theorem am_fi23_1 : fieldOf Tryd.prog 23 1 = some (1, 3) := by kernel_rfl
theorem am_fi23_2 : fieldOf Tryd.prog 23 2 = some (2, 3) := by kernel_rfl
theorem am_pl23 : placesL Tryd.prog 23 = some [(0, 1), (1, 1), (2, 1)] := by kernel_rfl
theorem am_in24 : (Tryd.prog.info? 24).isSome = true := by kernel_rfl
theorem am_ag24 : isAggT Tryd.prog 24 = some true := by kernel_rfl
theorem am_cl24 : Tryd.prog.cellsOf 24 = 6 := by kernel_rfl
theorem am_by24 : Tryd.prog.bytesOf 24 = 48 := by kernel_rfl
theorem am_el24 : elemOfSlice Tryd.prog 24 = none := by kernel_rfl
theorem am_ze24 : zeroCellsAV Tryd.prog 24 = some [.lit (.int .i64 0), .lit (.int .i64 0), .lit (.int .i64 0), .lit (.int .i64 0), .lit (.int .i64 0), .lit (.int .i64 0)] := by kernel_rfl
theorem am_fi24_0 : fieldOf Tryd.prog 24 0 = some (0, 23) := by kernel_rfl
theorem am_fi24_1 : fieldOf Tryd.prog 24 1 = some (3, 23) := by kernel_rfl
theorem am_pl24 : placesL Tryd.prog 24 = some [(0, 3), (3, 3)] := by kernel_rfl
theorem am_in25 : (Tryd.prog.info? 25).isSome = true := by kernel_rfl
theorem am_ag25 : isAggT Tryd.prog 25 = some true := by kernel_rfl
theorem am_cl25 : Tryd.prog.cellsOf 25 = 6 := by kernel_rfl
theorem am_by25 : Tryd.prog.bytesOf 25 = 48 := by kernel_rfl
theorem am_el25 : elemOfSlice Tryd.prog 25 = none := by kernel_rfl
theorem am_ze25 : zeroCellsAV Tryd.prog 25 = some [.lit (.int .i64 0), .lit (.int .i64 0), .lit (.int .i64 0), .lit (.int .i64 0), .lit (.int .i64 0), .lit (.int .i64 0)] := by kernel_rfl
theorem am_fi25_0 : fieldOf Tryd.prog 25 0 = some (0, 23) := by kernel_rfl
theorem am_fi25_1 : fieldOf Tryd.prog 25 1 = some (3, 23) := by kernel_rfl
theorem am_pl25 : placesL Tryd.prog 25 = some [(0, 3), (3, 3)] := by kernel_rfl
theorem am_in26 : (Tryd.prog.info? 26).isSome = true := by kernel_rfl
theorem am_ag26 : isAggT Tryd.prog 26 = some false := by kernel_rfl
theorem am_cl26 : Tryd.prog.cellsOf 26 = 1 := by kernel_rfl
theorem am_by26 : Tryd.prog.bytesOf 26 = 24 := by kernel_rfl
theorem am_el26 : elemOfSlice Tryd.prog 26 = some 70 := by kernel_rfl
theorem am_ze26 : zeroCellsAV Tryd.prog 26 = some [.lit (.slice none 0 0)] := by kernel_rfl
theorem am_in27 : (Tryd.prog.info? 27).isSome = true := by kernel_rfl
theorem am_ag27 : isAggT Tryd.prog 27 = some true := by kernel_rfl
theorem am_cl27 : Tryd.prog.cellsOf 27 = 8 := by kernel_rfl
theorem am_by27 : Tryd.prog.bytesOf 27 = 88 := by kernel_rfl
theorem am_el27 : elemOfSlice Tryd.prog 27 = none := by kernel_rfl
theorem am_ze27 : zeroCellsAV Tryd.prog 27 = some [.lit (.string ByteArray.empty), .lit (.int .i64 0), .lit (.int .i64 0), .lit (.int .i64 0), .lit (.int .i64 0), .lit (.int .i64 0), .lit (.int .i64 0), .lit (.slice none 0 0)] := by kernel_rfl
theorem am_fi27_0 : fieldOf Tryd.prog 27 0 = some (0, 9) := by kernel_rfl
theorem am_fi27_1 : fieldOf Tryd.prog 27 1 = some (1, 25) := by kernel_rfl
theorem am_fi27_2 : fieldOf Tryd.prog 27 2 = some (7, 26) := by kernel_rfl
theorem am_pl27 : placesL Tryd.prog 27 = some [(0, 1), (1, 6), (7, 1)] := by kernel_rfl
theorem am_in28 : (Tryd.prog.info? 28).isSome = true := by kernel_rfl
theorem am_ag28 : isAggT Tryd.prog 28 = some true := by kernel_rfl
theorem am_cl28 : Tryd.prog.cellsOf 28 = 8 := by kernel_rfl
theorem am_by28 : Tryd.prog.bytesOf 28 = 88 := by kernel_rfl
theorem am_el28 : elemOfSlice Tryd.prog 28 = none := by kernel_rfl
theorem am_ze28 : zeroCellsAV Tryd.prog 28 = some [.lit (.string ByteArray.empty), .lit (.int .i64 0), .lit (.int .i64 0), .lit (.int .i64 0), .lit (.int .i64 0), .lit (.int .i64 0), .lit (.int .i64 0), .lit (.slice none 0 0)] := by kernel_rfl
theorem am_fi28_0 : fieldOf Tryd.prog 28 0 = some (0, 9) := by kernel_rfl
theorem am_fi28_1 : fieldOf Tryd.prog 28 1 = some (1, 25) := by kernel_rfl
theorem am_fi28_2 : fieldOf Tryd.prog 28 2 = some (7, 26) := by kernel_rfl
theorem am_pl28 : placesL Tryd.prog 28 = some [(0, 1), (1, 6), (7, 1)] := by kernel_rfl
theorem am_ag29 : isAggT Tryd.prog 29 = some false := by kernel_rfl
theorem am_cl29 : Tryd.prog.cellsOf 29 = 1 := by kernel_rfl
theorem am_ag30 : isAggT Tryd.prog 30 = some false := by kernel_rfl
theorem am_cl30 : Tryd.prog.cellsOf 30 = 1 := by kernel_rfl
theorem am_in31 : (Tryd.prog.info? 31).isSome = true := by kernel_rfl
theorem am_ag31 : isAggT Tryd.prog 31 = some false := by kernel_rfl
theorem am_cl31 : Tryd.prog.cellsOf 31 = 1 := by kernel_rfl
theorem am_by31 : Tryd.prog.bytesOf 31 = 8 := by kernel_rfl
theorem am_el31 : elemOfSlice Tryd.prog 31 = none := by kernel_rfl
theorem am_ze31 : zeroCellsAV Tryd.prog 31 = some [.lit (.int .i64 0)] := by kernel_rfl
theorem am_ag33 : isAggT Tryd.prog 33 = some false := by kernel_rfl
theorem am_cl33 : Tryd.prog.cellsOf 33 = 1 := by kernel_rfl
theorem am_ag35 : isAggT Tryd.prog 35 = some false := by kernel_rfl
theorem am_cl35 : Tryd.prog.cellsOf 35 = 1 := by kernel_rfl
theorem am_ag37 : isAggT Tryd.prog 37 = some false := by kernel_rfl
theorem am_cl37 : Tryd.prog.cellsOf 37 = 1 := by kernel_rfl
theorem am_ag39 : isAggT Tryd.prog 39 = some false := by kernel_rfl
theorem am_cl39 : Tryd.prog.cellsOf 39 = 1 := by kernel_rfl
theorem am_ag40 : isAggT Tryd.prog 40 = some false := by kernel_rfl
theorem am_cl40 : Tryd.prog.cellsOf 40 = 1 := by kernel_rfl
theorem am_in41 : (Tryd.prog.info? 41).isSome = true := by kernel_rfl
theorem am_ag41 : isAggT Tryd.prog 41 = some false := by kernel_rfl
theorem am_cl41 : Tryd.prog.cellsOf 41 = 1 := by kernel_rfl
theorem am_by41 : Tryd.prog.bytesOf 41 = 24 := by kernel_rfl
theorem am_el41 : elemOfSlice Tryd.prog 41 = some 28 := by kernel_rfl
theorem am_ze41 : zeroCellsAV Tryd.prog 41 = some [.lit (.slice none 0 0)] := by kernel_rfl
theorem am_ag42 : isAggT Tryd.prog 42 = some false := by kernel_rfl
theorem am_cl42 : Tryd.prog.cellsOf 42 = 1 := by kernel_rfl
theorem am_in43 : (Tryd.prog.info? 43).isSome = true := by kernel_rfl
theorem am_ag43 : isAggT Tryd.prog 43 = some false := by kernel_rfl
theorem am_cl43 : Tryd.prog.cellsOf 43 = 1 := by kernel_rfl
theorem am_by43 : Tryd.prog.bytesOf 43 = 2 := by kernel_rfl
theorem am_el43 : elemOfSlice Tryd.prog 43 = none := by kernel_rfl
theorem am_ze43 : zeroCellsAV Tryd.prog 43 = some [.lit (.int .i16 0)] := by kernel_rfl
theorem am_ag44 : isAggT Tryd.prog 44 = some false := by kernel_rfl
theorem am_cl44 : Tryd.prog.cellsOf 44 = 1 := by kernel_rfl
theorem am_ag45 : isAggT Tryd.prog 45 = some false := by kernel_rfl
theorem am_cl45 : Tryd.prog.cellsOf 45 = 1 := by kernel_rfl
theorem am_ag47 : isAggT Tryd.prog 47 = some false := by kernel_rfl
theorem am_cl47 : Tryd.prog.cellsOf 47 = 1 := by kernel_rfl
theorem am_ag48 : isAggT Tryd.prog 48 = some false := by kernel_rfl
theorem am_cl48 : Tryd.prog.cellsOf 48 = 1 := by kernel_rfl
theorem am_ag50 : isAggT Tryd.prog 50 = some false := by kernel_rfl
theorem am_cl50 : Tryd.prog.cellsOf 50 = 1 := by kernel_rfl
theorem am_ag51 : isAggT Tryd.prog 51 = some false := by kernel_rfl
theorem am_cl51 : Tryd.prog.cellsOf 51 = 1 := by kernel_rfl
theorem am_ag52 : isAggT Tryd.prog 52 = some false := by kernel_rfl
theorem am_cl52 : Tryd.prog.cellsOf 52 = 1 := by kernel_rfl
theorem am_ag53 : isAggT Tryd.prog 53 = some false := by kernel_rfl
theorem am_cl53 : Tryd.prog.cellsOf 53 = 1 := by kernel_rfl
theorem am_ag54 : isAggT Tryd.prog 54 = some false := by kernel_rfl
theorem am_cl54 : Tryd.prog.cellsOf 54 = 1 := by kernel_rfl
theorem am_in55 : (Tryd.prog.info? 55).isSome = true := by kernel_rfl
theorem am_ag55 : isAggT Tryd.prog 55 = some false := by kernel_rfl
theorem am_cl55 : Tryd.prog.cellsOf 55 = 1 := by kernel_rfl
theorem am_by55 : Tryd.prog.bytesOf 55 = 2 := by kernel_rfl
theorem am_el55 : elemOfSlice Tryd.prog 55 = none := by kernel_rfl
theorem am_ze55 : zeroCellsAV Tryd.prog 55 = some [.lit (.int .u16 0)] := by kernel_rfl
theorem am_ag56 : isAggT Tryd.prog 56 = some false := by kernel_rfl
theorem am_cl56 : Tryd.prog.cellsOf 56 = 1 := by kernel_rfl
theorem am_ag58 : isAggT Tryd.prog 58 = some false := by kernel_rfl
theorem am_cl58 : Tryd.prog.cellsOf 58 = 1 := by kernel_rfl
theorem am_ag60 : isAggT Tryd.prog 60 = some false := by kernel_rfl
theorem am_cl60 : Tryd.prog.cellsOf 60 = 1 := by kernel_rfl
theorem am_in61 : (Tryd.prog.info? 61).isSome = true := by kernel_rfl
theorem am_ag61 : isAggT Tryd.prog 61 = some false := by kernel_rfl
theorem am_cl61 : Tryd.prog.cellsOf 61 = 1 := by kernel_rfl
theorem am_by61 : Tryd.prog.bytesOf 61 = 24 := by kernel_rfl
theorem am_el61 : elemOfSlice Tryd.prog 61 = some 9 := by kernel_rfl
theorem am_ze61 : zeroCellsAV Tryd.prog 61 = some [.lit (.slice none 0 0)] := by kernel_rfl
theorem am_ag62 : isAggT Tryd.prog 62 = some false := by kernel_rfl
theorem am_cl62 : Tryd.prog.cellsOf 62 = 1 := by kernel_rfl
theorem am_ag63 : isAggT Tryd.prog 63 = some false := by kernel_rfl
theorem am_cl63 : Tryd.prog.cellsOf 63 = 1 := by kernel_rfl
theorem am_ag65 : isAggT Tryd.prog 65 = some false := by kernel_rfl
theorem am_cl65 : Tryd.prog.cellsOf 65 = 1 := by kernel_rfl
theorem am_ag67 : isAggT Tryd.prog 67 = some false := by kernel_rfl
theorem am_cl67 : Tryd.prog.cellsOf 67 = 1 := by kernel_rfl
theorem am_ag68 : isAggT Tryd.prog 68 = some false := by kernel_rfl
theorem am_cl68 : Tryd.prog.cellsOf 68 = 1 := by kernel_rfl
theorem am_in69 : (Tryd.prog.info? 69).isSome = true := by kernel_rfl
theorem am_ag69 : isAggT Tryd.prog 69 = some true := by kernel_rfl
theorem am_cl69 : Tryd.prog.cellsOf 69 = 2 := by kernel_rfl
theorem am_by69 : Tryd.prog.bytesOf 69 = 16 := by kernel_rfl
theorem am_el69 : elemOfSlice Tryd.prog 69 = none := by kernel_rfl
theorem am_ze69 : zeroCellsAV Tryd.prog 69 = some [.lit (.int .i64 0), .lit (.int .i64 0)] := by kernel_rfl
theorem am_fi69_0 : fieldOf Tryd.prog 69 0 = some (0, 3) := by kernel_rfl
theorem am_fi69_1 : fieldOf Tryd.prog 69 1 = some (1, 3) := by kernel_rfl
theorem am_pl69 : placesL Tryd.prog 69 = some [(0, 1), (1, 1)] := by kernel_rfl
theorem am_in70 : (Tryd.prog.info? 70).isSome = true := by kernel_rfl
theorem am_ag70 : isAggT Tryd.prog 70 = some true := by kernel_rfl
theorem am_cl70 : Tryd.prog.cellsOf 70 = 2 := by kernel_rfl
theorem am_by70 : Tryd.prog.bytesOf 70 = 16 := by kernel_rfl
theorem am_el70 : elemOfSlice Tryd.prog 70 = none := by kernel_rfl
theorem am_ze70 : zeroCellsAV Tryd.prog 70 = some [.lit (.int .i64 0), .lit (.int .i64 0)] := by kernel_rfl
theorem am_fi70_0 : fieldOf Tryd.prog 70 0 = some (0, 3) := by kernel_rfl
theorem am_fi70_1 : fieldOf Tryd.prog 70 1 = some (1, 3) := by kernel_rfl
theorem am_pl70 : placesL Tryd.prog 70 = some [(0, 1), (1, 1)] := by kernel_rfl
theorem am_ag71 : isAggT Tryd.prog 71 = some false := by kernel_rfl
theorem am_cl71 : Tryd.prog.cellsOf 71 = 1 := by kernel_rfl
theorem am_ag72 : isAggT Tryd.prog 72 = some false := by kernel_rfl
theorem am_cl72 : Tryd.prog.cellsOf 72 = 1 := by kernel_rfl
theorem am_ag73 : isAggT Tryd.prog 73 = some false := by kernel_rfl
theorem am_cl73 : Tryd.prog.cellsOf 73 = 1 := by kernel_rfl
theorem am_ag74 : isAggT Tryd.prog 74 = some false := by kernel_rfl
theorem am_cl74 : Tryd.prog.cellsOf 74 = 1 := by kernel_rfl
theorem am_ag75 : isAggT Tryd.prog 75 = some false := by kernel_rfl
theorem am_cl75 : Tryd.prog.cellsOf 75 = 1 := by kernel_rfl
theorem am_ag76 : isAggT Tryd.prog 76 = some false := by kernel_rfl
theorem am_cl76 : Tryd.prog.cellsOf 76 = 1 := by kernel_rfl
theorem am_ag77 : isAggT Tryd.prog 77 = some false := by kernel_rfl
theorem am_cl77 : Tryd.prog.cellsOf 77 = 1 := by kernel_rfl
theorem am_ag78 : isAggT Tryd.prog 78 = some false := by kernel_rfl
theorem am_cl78 : Tryd.prog.cellsOf 78 = 1 := by kernel_rfl
theorem am_ag79 : isAggT Tryd.prog 79 = some false := by kernel_rfl
theorem am_cl79 : Tryd.prog.cellsOf 79 = 1 := by kernel_rfl
theorem am_ag80 : isAggT Tryd.prog 80 = some false := by kernel_rfl
theorem am_cl80 : Tryd.prog.cellsOf 80 = 1 := by kernel_rfl
theorem am_ag81 : isAggT Tryd.prog 81 = some false := by kernel_rfl
theorem am_cl81 : Tryd.prog.cellsOf 81 = 1 := by kernel_rfl
theorem am_ag82 : isAggT Tryd.prog 82 = some false := by kernel_rfl
theorem am_cl82 : Tryd.prog.cellsOf 82 = 1 := by kernel_rfl
theorem am_ag83 : isAggT Tryd.prog 83 = some false := by kernel_rfl
theorem am_cl83 : Tryd.prog.cellsOf 83 = 1 := by kernel_rfl
theorem am_ag84 : isAggT Tryd.prog 84 = some false := by kernel_rfl
theorem am_cl84 : Tryd.prog.cellsOf 84 = 1 := by kernel_rfl
theorem am_ag85 : isAggT Tryd.prog 85 = some false := by kernel_rfl
theorem am_cl85 : Tryd.prog.cellsOf 85 = 1 := by kernel_rfl
theorem am_ag86 : isAggT Tryd.prog 86 = some false := by kernel_rfl
theorem am_cl86 : Tryd.prog.cellsOf 86 = 1 := by kernel_rfl
theorem am_ag87 : isAggT Tryd.prog 87 = some false := by kernel_rfl
theorem am_cl87 : Tryd.prog.cellsOf 87 = 1 := by kernel_rfl
theorem am_in88 : (Tryd.prog.info? 88).isSome = true := by kernel_rfl
theorem am_ag88 : isAggT Tryd.prog 88 = some false := by kernel_rfl
theorem am_cl88 : Tryd.prog.cellsOf 88 = 1 := by kernel_rfl
theorem am_by88 : Tryd.prog.bytesOf 88 = 24 := by kernel_rfl
theorem am_el88 : elemOfSlice Tryd.prog 88 = some 5 := by kernel_rfl
theorem am_ze88 : zeroCellsAV Tryd.prog 88 = some [.lit (.slice none 0 0)] := by kernel_rfl
theorem am_in89 : (Tryd.prog.info? 89).isSome = true := by kernel_rfl
theorem am_ag89 : isAggT Tryd.prog 89 = some false := by kernel_rfl
theorem am_cl89 : Tryd.prog.cellsOf 89 = 1 := by kernel_rfl
theorem am_by89 : Tryd.prog.bytesOf 89 = 24 := by kernel_rfl
theorem am_el89 : elemOfSlice Tryd.prog 89 = some 3 := by kernel_rfl
theorem am_ze89 : zeroCellsAV Tryd.prog 89 = some [.lit (.slice none 0 0)] := by kernel_rfl
theorem am_ag90 : isAggT Tryd.prog 90 = some false := by kernel_rfl
theorem am_cl90 : Tryd.prog.cellsOf 90 = 1 := by kernel_rfl
theorem am_ag91 : isAggT Tryd.prog 91 = some false := by kernel_rfl
theorem am_cl91 : Tryd.prog.cellsOf 91 = 1 := by kernel_rfl
theorem am_ag92 : isAggT Tryd.prog 92 = some false := by kernel_rfl
theorem am_cl92 : Tryd.prog.cellsOf 92 = 1 := by kernel_rfl
theorem am_ag93 : isAggT Tryd.prog 93 = some false := by kernel_rfl
theorem am_cl93 : Tryd.prog.cellsOf 93 = 1 := by kernel_rfl
theorem am_ag94 : isAggT Tryd.prog 94 = some false := by kernel_rfl
theorem am_cl94 : Tryd.prog.cellsOf 94 = 1 := by kernel_rfl
theorem am_ag96 : isAggT Tryd.prog 96 = some false := by kernel_rfl
theorem am_cl96 : Tryd.prog.cellsOf 96 = 1 := by kernel_rfl
theorem am_ag97 : isAggT Tryd.prog 97 = some false := by kernel_rfl
theorem am_cl97 : Tryd.prog.cellsOf 97 = 1 := by kernel_rfl
theorem am_ag98 : isAggT Tryd.prog 98 = some false := by kernel_rfl
theorem am_cl98 : Tryd.prog.cellsOf 98 = 1 := by kernel_rfl
theorem am_ag99 : isAggT Tryd.prog 99 = some false := by kernel_rfl
theorem am_cl99 : Tryd.prog.cellsOf 99 = 1 := by kernel_rfl
theorem am_ag100 : isAggT Tryd.prog 100 = some false := by kernel_rfl
theorem am_cl100 : Tryd.prog.cellsOf 100 = 1 := by kernel_rfl
theorem am_ag102 : isAggT Tryd.prog 102 = some false := by kernel_rfl
theorem am_cl102 : Tryd.prog.cellsOf 102 = 1 := by kernel_rfl
theorem am_ag103 : isAggT Tryd.prog 103 = some false := by kernel_rfl
theorem am_cl103 : Tryd.prog.cellsOf 103 = 1 := by kernel_rfl
theorem am_ag104 : isAggT Tryd.prog 104 = some false := by kernel_rfl
theorem am_cl104 : Tryd.prog.cellsOf 104 = 1 := by kernel_rfl
theorem am_ag105 : isAggT Tryd.prog 105 = some false := by kernel_rfl
theorem am_cl105 : Tryd.prog.cellsOf 105 = 1 := by kernel_rfl
theorem am_ag106 : isAggT Tryd.prog 106 = some false := by kernel_rfl
theorem am_cl106 : Tryd.prog.cellsOf 106 = 1 := by kernel_rfl
theorem am_ag107 : isAggT Tryd.prog 107 = some false := by kernel_rfl
theorem am_cl107 : Tryd.prog.cellsOf 107 = 1 := by kernel_rfl
theorem am_ag108 : isAggT Tryd.prog 108 = some false := by kernel_rfl
theorem am_cl108 : Tryd.prog.cellsOf 108 = 1 := by kernel_rfl
theorem am_ag109 : isAggT Tryd.prog 109 = some false := by kernel_rfl
theorem am_cl109 : Tryd.prog.cellsOf 109 = 1 := by kernel_rfl
theorem am_ag110 : isAggT Tryd.prog 110 = some false := by kernel_rfl
theorem am_cl110 : Tryd.prog.cellsOf 110 = 1 := by kernel_rfl
theorem am_in111 : (Tryd.prog.info? 111).isSome = true := by kernel_rfl
theorem am_ag111 : isAggT Tryd.prog 111 = some false := by kernel_rfl
theorem am_cl111 : Tryd.prog.cellsOf 111 = 1 := by kernel_rfl
theorem am_by111 : Tryd.prog.bytesOf 111 = 8 := by kernel_rfl
theorem am_el111 : elemOfSlice Tryd.prog 111 = none := by kernel_rfl
theorem am_ze111 : zeroCellsAV Tryd.prog 111 = some [.lit (.int .u64 0)] := by kernel_rfl
theorem am_ag112 : isAggT Tryd.prog 112 = some false := by kernel_rfl
theorem am_cl112 : Tryd.prog.cellsOf 112 = 1 := by kernel_rfl
theorem am_ag113 : isAggT Tryd.prog 113 = some false := by kernel_rfl
theorem am_cl113 : Tryd.prog.cellsOf 113 = 1 := by kernel_rfl
theorem am_in114 : (Tryd.prog.info? 114).isSome = true := by kernel_rfl
theorem am_ag114 : isAggT Tryd.prog 114 = some true := by kernel_rfl
theorem am_cl114 : Tryd.prog.cellsOf 114 = 3 := by kernel_rfl
theorem am_by114 : Tryd.prog.bytesOf 114 = 24 := by kernel_rfl
theorem am_el114 : elemOfSlice Tryd.prog 114 = none := by kernel_rfl
theorem am_ze114 : zeroCellsAV Tryd.prog 114 = some [.lit (.int .i64 0), .lit (.int .i64 0), .lit (.int .i64 0)] := by kernel_rfl
theorem am_ar114 : arrOf Tryd.prog 114 = some (3, 3) := by kernel_rfl
theorem am_pn114 : placesL Tryd.prog 114 = none := by kernel_rfl
theorem am_ag115 : isAggT Tryd.prog 115 = some false := by kernel_rfl
theorem am_cl115 : Tryd.prog.cellsOf 115 = 1 := by kernel_rfl
theorem am_in116 : (Tryd.prog.info? 116).isSome = true := by kernel_rfl
theorem am_ag116 : isAggT Tryd.prog 116 = some false := by kernel_rfl
theorem am_cl116 : Tryd.prog.cellsOf 116 = 1 := by kernel_rfl
theorem am_by116 : Tryd.prog.bytesOf 116 = 8 := by kernel_rfl
theorem am_el116 : elemOfSlice Tryd.prog 116 = none := by kernel_rfl
theorem am_ze116 : zeroCellsAV Tryd.prog 116 = some [.lit (.int .u64 0)] := by kernel_rfl
theorem am_ag117 : isAggT Tryd.prog 117 = some false := by kernel_rfl
theorem am_cl117 : Tryd.prog.cellsOf 117 = 1 := by kernel_rfl
theorem am_ag118 : isAggT Tryd.prog 118 = some false := by kernel_rfl
theorem am_cl118 : Tryd.prog.cellsOf 118 = 1 := by kernel_rfl
theorem am_ag119 : isAggT Tryd.prog 119 = some false := by kernel_rfl
theorem am_cl119 : Tryd.prog.cellsOf 119 = 1 := by kernel_rfl
theorem am_ag121 : isAggT Tryd.prog 121 = some false := by kernel_rfl
theorem am_cl121 : Tryd.prog.cellsOf 121 = 1 := by kernel_rfl
theorem am_ag122 : isAggT Tryd.prog 122 = some false := by kernel_rfl
theorem am_cl122 : Tryd.prog.cellsOf 122 = 1 := by kernel_rfl
theorem am_in123 : (Tryd.prog.info? 123).isSome = true := by kernel_rfl
theorem am_ag123 : isAggT Tryd.prog 123 = some false := by kernel_rfl
theorem am_cl123 : Tryd.prog.cellsOf 123 = 1 := by kernel_rfl
theorem am_by123 : Tryd.prog.bytesOf 123 = 8 := by kernel_rfl
theorem am_el123 : elemOfSlice Tryd.prog 123 = none := by kernel_rfl
theorem am_ze123 : zeroCellsAV Tryd.prog 123 = some [.lit (.int .i64 0)] := by kernel_rfl
theorem am_ag125 : isAggT Tryd.prog 125 = some false := by kernel_rfl
theorem am_cl125 : Tryd.prog.cellsOf 125 = 1 := by kernel_rfl
theorem am_ag126 : isAggT Tryd.prog 126 = some false := by kernel_rfl
theorem am_cl126 : Tryd.prog.cellsOf 126 = 1 := by kernel_rfl
theorem am_ag127 : isAggT Tryd.prog 127 = some false := by kernel_rfl
theorem am_cl127 : Tryd.prog.cellsOf 127 = 1 := by kernel_rfl
theorem am_ag128 : isAggT Tryd.prog 128 = some false := by kernel_rfl
theorem am_cl128 : Tryd.prog.cellsOf 128 = 1 := by kernel_rfl
theorem am_ag129 : isAggT Tryd.prog 129 = some false := by kernel_rfl
theorem am_cl129 : Tryd.prog.cellsOf 129 = 1 := by kernel_rfl
theorem am_ag130 : isAggT Tryd.prog 130 = some false := by kernel_rfl
theorem am_cl130 : Tryd.prog.cellsOf 130 = 1 := by kernel_rfl
theorem am_in131 : (Tryd.prog.info? 131).isSome = true := by kernel_rfl
theorem am_ag131 : isAggT Tryd.prog 131 = some false := by kernel_rfl
theorem am_cl131 : Tryd.prog.cellsOf 131 = 1 := by kernel_rfl
theorem am_by131 : Tryd.prog.bytesOf 131 = 4 := by kernel_rfl
theorem am_el131 : elemOfSlice Tryd.prog 131 = none := by kernel_rfl
theorem am_ze131 : zeroCellsAV Tryd.prog 131 = some [.lit (.int .u32 0)] := by kernel_rfl
theorem am_ag132 : isAggT Tryd.prog 132 = some false := by kernel_rfl
theorem am_cl132 : Tryd.prog.cellsOf 132 = 1 := by kernel_rfl
theorem am_in133 : (Tryd.prog.info? 133).isSome = true := by kernel_rfl
theorem am_ag133 : isAggT Tryd.prog 133 = some true := by kernel_rfl
theorem am_cl133 : Tryd.prog.cellsOf 133 = 24 := by kernel_rfl
theorem am_by133 : Tryd.prog.bytesOf 133 = 24 := by kernel_rfl
theorem am_el133 : elemOfSlice Tryd.prog 133 = none := by kernel_rfl
theorem am_ze133 : zeroCellsAV Tryd.prog 133 = some [.lit (.int .u8 0), .lit (.int .u8 0), .lit (.int .u8 0), .lit (.int .u8 0), .lit (.int .u8 0), .lit (.int .u8 0), .lit (.int .u8 0), .lit (.int .u8 0), .lit (.int .u8 0), .lit (.int .u8 0), .lit (.int .u8 0), .lit (.int .u8 0), .lit (.int .u8 0), .lit (.int .u8 0), .lit (.int .u8 0), .lit (.int .u8 0), .lit (.int .u8 0), .lit (.int .u8 0), .lit (.int .u8 0), .lit (.int .u8 0), .lit (.int .u8 0), .lit (.int .u8 0), .lit (.int .u8 0), .lit (.int .u8 0)] := by kernel_rfl
theorem am_ar133 : arrOf Tryd.prog 133 = some (24, 5) := by kernel_rfl
theorem am_pn133 : placesL Tryd.prog 133 = none := by kernel_rfl
theorem am_ag134 : isAggT Tryd.prog 134 = some false := by kernel_rfl
theorem am_cl134 : Tryd.prog.cellsOf 134 = 1 := by kernel_rfl
theorem am_ag136 : isAggT Tryd.prog 136 = some false := by kernel_rfl
theorem am_cl136 : Tryd.prog.cellsOf 136 = 1 := by kernel_rfl
theorem am_ag138 : isAggT Tryd.prog 138 = some false := by kernel_rfl
theorem am_cl138 : Tryd.prog.cellsOf 138 = 1 := by kernel_rfl
theorem am_in139 : (Tryd.prog.info? 139).isSome = true := by kernel_rfl
theorem am_ag139 : isAggT Tryd.prog 139 = some false := by kernel_rfl
theorem am_cl139 : Tryd.prog.cellsOf 139 = 1 := by kernel_rfl
theorem am_by139 : Tryd.prog.bytesOf 139 = 8 := by kernel_rfl
theorem am_el139 : elemOfSlice Tryd.prog 139 = none := by kernel_rfl
theorem am_ze139 : zeroCellsAV Tryd.prog 139 = some [.lit (.int .u64 0)] := by kernel_rfl
theorem am_ag140 : isAggT Tryd.prog 140 = some false := by kernel_rfl
theorem am_cl140 : Tryd.prog.cellsOf 140 = 1 := by kernel_rfl
theorem am_ag141 : isAggT Tryd.prog 141 = some false := by kernel_rfl
theorem am_cl141 : Tryd.prog.cellsOf 141 = 1 := by kernel_rfl
theorem am_ag142 : isAggT Tryd.prog 142 = some false := by kernel_rfl
theorem am_cl142 : Tryd.prog.cellsOf 142 = 1 := by kernel_rfl
theorem am_in143 : (Tryd.prog.info? 143).isSome = true := by kernel_rfl
theorem am_ag143 : isAggT Tryd.prog 143 = some false := by kernel_rfl
theorem am_cl143 : Tryd.prog.cellsOf 143 = 1 := by kernel_rfl
theorem am_by143 : Tryd.prog.bytesOf 143 = 8 := by kernel_rfl
theorem am_el143 : elemOfSlice Tryd.prog 143 = none := by kernel_rfl
theorem am_ze143 : zeroCellsAV Tryd.prog 143 = some [.lit (.pointer none)] := by kernel_rfl
theorem am_ag144 : isAggT Tryd.prog 144 = some false := by kernel_rfl
theorem am_cl144 : Tryd.prog.cellsOf 144 = 1 := by kernel_rfl
theorem am_ag145 : isAggT Tryd.prog 145 = some false := by kernel_rfl
theorem am_cl145 : Tryd.prog.cellsOf 145 = 1 := by kernel_rfl
theorem am_in146 : (Tryd.prog.info? 146).isSome = true := by kernel_rfl
theorem am_ag146 : isAggT Tryd.prog 146 = some true := by kernel_rfl
theorem am_cl146 : Tryd.prog.cellsOf 146 = 20 := by kernel_rfl
theorem am_by146 : Tryd.prog.bytesOf 146 = 160 := by kernel_rfl
theorem am_el146 : elemOfSlice Tryd.prog 146 = none := by kernel_rfl
theorem am_ze146 : zeroCellsAV Tryd.prog 146 = some [.lit (.int .u64 0), .lit (.int .u64 0), .lit (.int .u64 0), .lit (.int .u64 0), .lit (.int .u64 0), .lit (.int .u64 0), .lit (.int .u64 0), .lit (.int .u64 0), .lit (.int .u64 0), .lit (.int .u64 0), .lit (.int .u64 0), .lit (.int .u64 0), .lit (.int .u64 0), .lit (.int .u64 0), .lit (.int .u64 0), .lit (.int .u64 0), .lit (.int .u64 0), .lit (.int .u64 0), .lit (.int .u64 0), .lit (.int .u64 0)] := by kernel_rfl
theorem am_ar146 : arrOf Tryd.prog 146 = some (20, 116) := by kernel_rfl
theorem am_pn146 : placesL Tryd.prog 146 = none := by kernel_rfl
theorem am_in147 : (Tryd.prog.info? 147).isSome = true := by kernel_rfl
theorem am_ag147 : isAggT Tryd.prog 147 = some true := by kernel_rfl
theorem am_cl147 : Tryd.prog.cellsOf 147 = 65 := by kernel_rfl
theorem am_by147 : Tryd.prog.bytesOf 147 = 65 := by kernel_rfl
theorem am_el147 : elemOfSlice Tryd.prog 147 = none := by kernel_rfl
theorem am_ar147 : arrOf Tryd.prog 147 = some (65, 5) := by kernel_rfl
theorem am_pn147 : placesL Tryd.prog 147 = none := by kernel_rfl
theorem am_in148 : (Tryd.prog.info? 148).isSome = true := by kernel_rfl
theorem am_ag148 : isAggT Tryd.prog 148 = some true := by kernel_rfl
theorem am_cl148 : Tryd.prog.cellsOf 148 = 256 := by kernel_rfl
theorem am_by148 : Tryd.prog.bytesOf 148 = 256 := by kernel_rfl
theorem am_el148 : elemOfSlice Tryd.prog 148 = none := by kernel_rfl
theorem am_ar148 : arrOf Tryd.prog 148 = some (256, 5) := by kernel_rfl
theorem am_pn148 : placesL Tryd.prog 148 = none := by kernel_rfl
theorem am_in149 : (Tryd.prog.info? 149).isSome = true := by kernel_rfl
theorem am_ag149 : isAggT Tryd.prog 149 = some true := by kernel_rfl
theorem am_cl149 : Tryd.prog.cellsOf 149 = 2 := by kernel_rfl
theorem am_by149 : Tryd.prog.bytesOf 149 = 2 := by kernel_rfl
theorem am_el149 : elemOfSlice Tryd.prog 149 = none := by kernel_rfl
theorem am_ze149 : zeroCellsAV Tryd.prog 149 = some [.lit (.int .u8 0), .lit (.int .u8 0)] := by kernel_rfl
theorem am_fi149_0 : fieldOf Tryd.prog 149 0 = some (0, 5) := by kernel_rfl
theorem am_fi149_1 : fieldOf Tryd.prog 149 1 = some (1, 5) := by kernel_rfl
theorem am_pl149 : placesL Tryd.prog 149 = some [(0, 1), (1, 1)] := by kernel_rfl
theorem am_in150 : (Tryd.prog.info? 150).isSome = true := by kernel_rfl
theorem am_ag150 : isAggT Tryd.prog 150 = some true := by kernel_rfl
theorem am_cl150 : Tryd.prog.cellsOf 150 = 2 := by kernel_rfl
theorem am_by150 : Tryd.prog.bytesOf 150 = 2 := by kernel_rfl
theorem am_el150 : elemOfSlice Tryd.prog 150 = none := by kernel_rfl
theorem am_ze150 : zeroCellsAV Tryd.prog 150 = some [.lit (.int .u8 0), .lit (.int .u8 0)] := by kernel_rfl
theorem am_fi150_0 : fieldOf Tryd.prog 150 0 = some (0, 5) := by kernel_rfl
theorem am_fi150_1 : fieldOf Tryd.prog 150 1 = some (1, 5) := by kernel_rfl
theorem am_pl150 : placesL Tryd.prog 150 = some [(0, 1), (1, 1)] := by kernel_rfl
theorem am_in151 : (Tryd.prog.info? 151).isSome = true := by kernel_rfl
theorem am_ag151 : isAggT Tryd.prog 151 = some true := by kernel_rfl
theorem am_cl151 : Tryd.prog.cellsOf 151 = 32 := by kernel_rfl
theorem am_by151 : Tryd.prog.bytesOf 151 = 32 := by kernel_rfl
theorem am_el151 : elemOfSlice Tryd.prog 151 = none := by kernel_rfl
theorem am_ze151 : zeroCellsAV Tryd.prog 151 = some [.lit (.int .u8 0), .lit (.int .u8 0), .lit (.int .u8 0), .lit (.int .u8 0), .lit (.int .u8 0), .lit (.int .u8 0), .lit (.int .u8 0), .lit (.int .u8 0), .lit (.int .u8 0), .lit (.int .u8 0), .lit (.int .u8 0), .lit (.int .u8 0), .lit (.int .u8 0), .lit (.int .u8 0), .lit (.int .u8 0), .lit (.int .u8 0), .lit (.int .u8 0), .lit (.int .u8 0), .lit (.int .u8 0), .lit (.int .u8 0), .lit (.int .u8 0), .lit (.int .u8 0), .lit (.int .u8 0), .lit (.int .u8 0), .lit (.int .u8 0), .lit (.int .u8 0), .lit (.int .u8 0), .lit (.int .u8 0), .lit (.int .u8 0), .lit (.int .u8 0), .lit (.int .u8 0), .lit (.int .u8 0)] := by kernel_rfl
theorem am_ar151 : arrOf Tryd.prog 151 = some (16, 150) := by kernel_rfl
theorem am_pn151 : placesL Tryd.prog 151 = none := by kernel_rfl
theorem am_in152 : (Tryd.prog.info? 152).isSome = true := by kernel_rfl
theorem am_ag152 : isAggT Tryd.prog 152 = some false := by kernel_rfl
theorem am_cl152 : Tryd.prog.cellsOf 152 = 1 := by kernel_rfl
theorem am_by152 : Tryd.prog.bytesOf 152 = 8 := by kernel_rfl
theorem am_el152 : elemOfSlice Tryd.prog 152 = none := by kernel_rfl
theorem am_ze152 : zeroCellsAV Tryd.prog 152 = some [.lit (.pointer none)] := by kernel_rfl
theorem am_ag153 : isAggT Tryd.prog 153 = some false := by kernel_rfl
theorem am_cl153 : Tryd.prog.cellsOf 153 = 1 := by kernel_rfl
theorem am_in154 : (Tryd.prog.info? 154).isSome = true := by kernel_rfl
theorem am_ag154 : isAggT Tryd.prog 154 = some true := by kernel_rfl
theorem am_cl154 : Tryd.prog.cellsOf 154 = 32 := by kernel_rfl
theorem am_by154 : Tryd.prog.bytesOf 154 = 32 := by kernel_rfl
theorem am_el154 : elemOfSlice Tryd.prog 154 = none := by kernel_rfl
theorem am_ze154 : zeroCellsAV Tryd.prog 154 = some [.lit (.int .u8 0), .lit (.int .u8 0), .lit (.int .u8 0), .lit (.int .u8 0), .lit (.int .u8 0), .lit (.int .u8 0), .lit (.int .u8 0), .lit (.int .u8 0), .lit (.int .u8 0), .lit (.int .u8 0), .lit (.int .u8 0), .lit (.int .u8 0), .lit (.int .u8 0), .lit (.int .u8 0), .lit (.int .u8 0), .lit (.int .u8 0), .lit (.int .u8 0), .lit (.int .u8 0), .lit (.int .u8 0), .lit (.int .u8 0), .lit (.int .u8 0), .lit (.int .u8 0), .lit (.int .u8 0), .lit (.int .u8 0), .lit (.int .u8 0), .lit (.int .u8 0), .lit (.int .u8 0), .lit (.int .u8 0), .lit (.int .u8 0), .lit (.int .u8 0), .lit (.int .u8 0), .lit (.int .u8 0)] := by kernel_rfl
theorem am_ar154 : arrOf Tryd.prog 154 = some (32, 5) := by kernel_rfl
theorem am_pn154 : placesL Tryd.prog 154 = none := by kernel_rfl
theorem am_in155 : (Tryd.prog.info? 155).isSome = true := by kernel_rfl
theorem am_ag155 : isAggT Tryd.prog 155 = some true := by kernel_rfl
theorem am_cl155 : Tryd.prog.cellsOf 155 = 64 := by kernel_rfl
theorem am_by155 : Tryd.prog.bytesOf 155 = 64 := by kernel_rfl
theorem am_el155 : elemOfSlice Tryd.prog 155 = none := by kernel_rfl
theorem am_ar155 : arrOf Tryd.prog 155 = some (64, 5) := by kernel_rfl
theorem am_pn155 : placesL Tryd.prog 155 = none := by kernel_rfl
theorem am_ag156 : isAggT Tryd.prog 156 = some false := by kernel_rfl
theorem am_cl156 : Tryd.prog.cellsOf 156 = 1 := by kernel_rfl
theorem am_in157 : (Tryd.prog.info? 157).isSome = true := by kernel_rfl
theorem am_ag157 : isAggT Tryd.prog 157 = some true := by kernel_rfl
theorem am_cl157 : Tryd.prog.cellsOf 157 = 4 := by kernel_rfl
theorem am_by157 : Tryd.prog.bytesOf 157 = 40 := by kernel_rfl
theorem am_el157 : elemOfSlice Tryd.prog 157 = none := by kernel_rfl
theorem am_ze157 : zeroCellsAV Tryd.prog 157 = some [.lit (.pointer none), .lit (.pointer none), .lit (.pointer none), .lit (.string ByteArray.empty)] := by kernel_rfl
theorem am_fi157_0 : fieldOf Tryd.prog 157 0 = some (0, 17) := by kernel_rfl
theorem am_fi157_1 : fieldOf Tryd.prog 157 1 = some (1, 17) := by kernel_rfl
theorem am_fi157_2 : fieldOf Tryd.prog 157 2 = some (2, 17) := by kernel_rfl
theorem am_fi157_3 : fieldOf Tryd.prog 157 3 = some (3, 9) := by kernel_rfl
theorem am_pl157 : placesL Tryd.prog 157 = some [(0, 1), (1, 1), (2, 1), (3, 1)] := by kernel_rfl
theorem am_in158 : (Tryd.prog.info? 158).isSome = true := by kernel_rfl
theorem am_ag158 : isAggT Tryd.prog 158 = some true := by kernel_rfl
theorem am_cl158 : Tryd.prog.cellsOf 158 = 4 := by kernel_rfl
theorem am_by158 : Tryd.prog.bytesOf 158 = 40 := by kernel_rfl
theorem am_el158 : elemOfSlice Tryd.prog 158 = none := by kernel_rfl
theorem am_ze158 : zeroCellsAV Tryd.prog 158 = some [.lit (.pointer none), .lit (.pointer none), .lit (.pointer none), .lit (.string ByteArray.empty)] := by kernel_rfl
theorem am_fi158_0 : fieldOf Tryd.prog 158 0 = some (0, 17) := by kernel_rfl
theorem am_fi158_1 : fieldOf Tryd.prog 158 1 = some (1, 17) := by kernel_rfl
theorem am_fi158_2 : fieldOf Tryd.prog 158 2 = some (2, 17) := by kernel_rfl
theorem am_fi158_3 : fieldOf Tryd.prog 158 3 = some (3, 9) := by kernel_rfl
theorem am_pl158 : placesL Tryd.prog 158 = some [(0, 1), (1, 1), (2, 1), (3, 1)] := by kernel_rfl
theorem am_in159 : (Tryd.prog.info? 159).isSome = true := by kernel_rfl
theorem am_ag159 : isAggT Tryd.prog 159 = some true := by kernel_rfl
theorem am_cl159 : Tryd.prog.cellsOf 159 = 0 := by kernel_rfl
theorem am_by159 : Tryd.prog.bytesOf 159 = 0 := by kernel_rfl
theorem am_el159 : elemOfSlice Tryd.prog 159 = none := by kernel_rfl
theorem am_ze159 : zeroCellsAV Tryd.prog 159 = some [] := by kernel_rfl
theorem am_ar159 : arrOf Tryd.prog 159 = some (0, 16) := by kernel_rfl
theorem am_pn159 : placesL Tryd.prog 159 = none := by kernel_rfl
theorem am_in160 : (Tryd.prog.info? 160).isSome = true := by kernel_rfl
theorem am_ag160 : isAggT Tryd.prog 160 = some true := by kernel_rfl
theorem am_cl160 : Tryd.prog.cellsOf 160 = 0 := by kernel_rfl
theorem am_by160 : Tryd.prog.bytesOf 160 = 0 := by kernel_rfl
theorem am_el160 : elemOfSlice Tryd.prog 160 = none := by kernel_rfl
theorem am_ze160 : zeroCellsAV Tryd.prog 160 = some [] := by kernel_rfl
theorem am_fi160_0 : fieldOf Tryd.prog 160 0 = some (0, 159) := by kernel_rfl
theorem am_pl160 : placesL Tryd.prog 160 = some [(0, 0)] := by kernel_rfl
theorem am_in161 : (Tryd.prog.info? 161).isSome = true := by kernel_rfl
theorem am_ag161 : isAggT Tryd.prog 161 = some true := by kernel_rfl
theorem am_cl161 : Tryd.prog.cellsOf 161 = 0 := by kernel_rfl
theorem am_by161 : Tryd.prog.bytesOf 161 = 0 := by kernel_rfl
theorem am_el161 : elemOfSlice Tryd.prog 161 = none := by kernel_rfl
theorem am_ze161 : zeroCellsAV Tryd.prog 161 = some [] := by kernel_rfl
theorem am_fi161_0 : fieldOf Tryd.prog 161 0 = some (0, 159) := by kernel_rfl
theorem am_pl161 : placesL Tryd.prog 161 = some [(0, 0)] := by kernel_rfl
theorem am_ag162 : isAggT Tryd.prog 162 = some false := by kernel_rfl
theorem am_cl162 : Tryd.prog.cellsOf 162 = 1 := by kernel_rfl
theorem am_in163 : (Tryd.prog.info? 163).isSome = true := by kernel_rfl
theorem am_ag163 : isAggT Tryd.prog 163 = some false := by kernel_rfl
theorem am_cl163 : Tryd.prog.cellsOf 163 = 1 := by kernel_rfl
theorem am_by163 : Tryd.prog.bytesOf 163 = 1 := by kernel_rfl
theorem am_el163 : elemOfSlice Tryd.prog 163 = none := by kernel_rfl
theorem am_ze163 : zeroCellsAV Tryd.prog 163 = some [.lit (.int .u8 0)] := by kernel_rfl
theorem am_in164 : (Tryd.prog.info? 164).isSome = true := by kernel_rfl
theorem am_ag164 : isAggT Tryd.prog 164 = some false := by kernel_rfl
theorem am_cl164 : Tryd.prog.cellsOf 164 = 1 := by kernel_rfl
theorem am_by164 : Tryd.prog.bytesOf 164 = 1 := by kernel_rfl
theorem am_el164 : elemOfSlice Tryd.prog 164 = none := by kernel_rfl
theorem am_ze164 : zeroCellsAV Tryd.prog 164 = some [.lit (.int .u8 0)] := by kernel_rfl
theorem am_ag165 : isAggT Tryd.prog 165 = some false := by kernel_rfl
theorem am_cl165 : Tryd.prog.cellsOf 165 = 1 := by kernel_rfl
theorem am_in166 : (Tryd.prog.info? 166).isSome = true := by kernel_rfl
theorem am_ag166 : isAggT Tryd.prog 166 = some false := by kernel_rfl
theorem am_cl166 : Tryd.prog.cellsOf 166 = 1 := by kernel_rfl
theorem am_by166 : Tryd.prog.bytesOf 166 = 8 := by kernel_rfl
theorem am_el166 : elemOfSlice Tryd.prog 166 = none := by kernel_rfl
theorem am_ze166 : zeroCellsAV Tryd.prog 166 = some [.lit (.pointer none)] := by kernel_rfl
theorem am_in167 : (Tryd.prog.info? 167).isSome = true := by kernel_rfl
theorem am_ag167 : isAggT Tryd.prog 167 = some false := by kernel_rfl
theorem am_cl167 : Tryd.prog.cellsOf 167 = 1 := by kernel_rfl
theorem am_by167 : Tryd.prog.bytesOf 167 = 4 := by kernel_rfl
theorem am_el167 : elemOfSlice Tryd.prog 167 = none := by kernel_rfl
theorem am_ze167 : zeroCellsAV Tryd.prog 167 = some [.lit (.int .i32 0)] := by kernel_rfl
theorem am_in168 : (Tryd.prog.info? 168).isSome = true := by kernel_rfl
theorem am_ag168 : isAggT Tryd.prog 168 = some false := by kernel_rfl
theorem am_cl168 : Tryd.prog.cellsOf 168 = 1 := by kernel_rfl
theorem am_by168 : Tryd.prog.bytesOf 168 = 4 := by kernel_rfl
theorem am_el168 : elemOfSlice Tryd.prog 168 = none := by kernel_rfl
theorem am_ze168 : zeroCellsAV Tryd.prog 168 = some [.lit (.int .i32 0)] := by kernel_rfl
theorem am_in169 : (Tryd.prog.info? 169).isSome = true := by kernel_rfl
theorem am_ag169 : isAggT Tryd.prog 169 = some true := by kernel_rfl
theorem am_cl169 : Tryd.prog.cellsOf 169 = 11 := by kernel_rfl
theorem am_by169 : Tryd.prog.bytesOf 169 = 48 := by kernel_rfl
theorem am_el169 : elemOfSlice Tryd.prog 169 = none := by kernel_rfl
theorem am_ze169 : zeroCellsAV Tryd.prog 169 = some [.lit (.int .u64 0), .lit (.int .u64 0), .lit (.int .u32 0), .lit (.int .u8 0), .lit (.int .u8 0), .lit (.int .u8 0), .lit (.int .u8 0), .lit (.nilFunc), .lit (.pointer none), .lit (.int .i32 0), .lit (.int .i32 0)] := by kernel_rfl
theorem am_fi169_0 : fieldOf Tryd.prog 169 0 = some (0, 12) := by kernel_rfl
theorem am_fi169_1 : fieldOf Tryd.prog 169 1 = some (1, 12) := by kernel_rfl
theorem am_fi169_2 : fieldOf Tryd.prog 169 2 = some (2, 131) := by kernel_rfl
theorem am_fi169_3 : fieldOf Tryd.prog 169 3 = some (3, 163) := by kernel_rfl
theorem am_fi169_4 : fieldOf Tryd.prog 169 4 = some (4, 5) := by kernel_rfl
theorem am_fi169_5 : fieldOf Tryd.prog 169 5 = some (5, 5) := by kernel_rfl
theorem am_fi169_6 : fieldOf Tryd.prog 169 6 = some (6, 164) := by kernel_rfl
theorem am_fi169_7 : fieldOf Tryd.prog 169 7 = some (7, 165) := by kernel_rfl
theorem am_fi169_8 : fieldOf Tryd.prog 169 8 = some (8, 166) := by kernel_rfl
theorem am_fi169_9 : fieldOf Tryd.prog 169 9 = some (9, 167) := by kernel_rfl
theorem am_fi169_10 : fieldOf Tryd.prog 169 10 = some (10, 168) := by kernel_rfl
theorem am_pl169 : placesL Tryd.prog 169 = some [(0, 1), (1, 1), (2, 1), (3, 1), (4, 1), (5, 1), (6, 1), (7, 1), (8, 1), (9, 1), (10, 1)] := by kernel_rfl
theorem am_in170 : (Tryd.prog.info? 170).isSome = true := by kernel_rfl
theorem am_ag170 : isAggT Tryd.prog 170 = some true := by kernel_rfl
theorem am_cl170 : Tryd.prog.cellsOf 170 = 11 := by kernel_rfl
theorem am_by170 : Tryd.prog.bytesOf 170 = 48 := by kernel_rfl
theorem am_el170 : elemOfSlice Tryd.prog 170 = none := by kernel_rfl
theorem am_ze170 : zeroCellsAV Tryd.prog 170 = some [.lit (.int .u64 0), .lit (.int .u64 0), .lit (.int .u32 0), .lit (.int .u8 0), .lit (.int .u8 0), .lit (.int .u8 0), .lit (.int .u8 0), .lit (.nilFunc), .lit (.pointer none), .lit (.int .i32 0), .lit (.int .i32 0)] := by kernel_rfl
theorem am_fi170_0 : fieldOf Tryd.prog 170 0 = some (0, 12) := by kernel_rfl
theorem am_fi170_1 : fieldOf Tryd.prog 170 1 = some (1, 12) := by kernel_rfl
theorem am_fi170_2 : fieldOf Tryd.prog 170 2 = some (2, 131) := by kernel_rfl
theorem am_fi170_3 : fieldOf Tryd.prog 170 3 = some (3, 163) := by kernel_rfl
theorem am_fi170_4 : fieldOf Tryd.prog 170 4 = some (4, 5) := by kernel_rfl
theorem am_fi170_5 : fieldOf Tryd.prog 170 5 = some (5, 5) := by kernel_rfl
theorem am_fi170_6 : fieldOf Tryd.prog 170 6 = some (6, 164) := by kernel_rfl
theorem am_fi170_7 : fieldOf Tryd.prog 170 7 = some (7, 165) := by kernel_rfl
theorem am_fi170_8 : fieldOf Tryd.prog 170 8 = some (8, 166) := by kernel_rfl
theorem am_fi170_9 : fieldOf Tryd.prog 170 9 = some (9, 167) := by kernel_rfl
theorem am_fi170_10 : fieldOf Tryd.prog 170 10 = some (10, 168) := by kernel_rfl
theorem am_pl170 : placesL Tryd.prog 170 = some [(0, 1), (1, 1), (2, 1), (3, 1), (4, 1), (5, 1), (6, 1), (7, 1), (8, 1), (9, 1), (10, 1)] := by kernel_rfl

end Go.Proofs.YtnomiafjeiijkaaDoor

