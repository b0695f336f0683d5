/-
  Closed facts on the types of the program, as the abstract machine asks them.
  Conditions: none.
-/
import Derived.Test.YtdegjlhcchimbaaDoorAmStep
import Derived.Test.YtdegjlhcchimbaaDoorChecked
import Derived.KernelRfl
namespace Go.Proofs.YtdegjlhcchimbaaDoor
open Go.AM
theorem am_ag1 : isAggT Tryd.prog 1 = some false := by kernel_rfl
theorem am_cl1 : Tryd.prog.cellsOf 1 = 1 := by kernel_rfl
theorem am_in2 : (Tryd.prog.info? 2).isSome = true := by kernel_rfl
theorem am_ag2 : isAggT Tryd.prog 2 = some false := by kernel_rfl
theorem am_cl2 : Tryd.prog.cellsOf 2 = 1 := by kernel_rfl
theorem am_by2 : Tryd.prog.bytesOf 2 = 8 := by kernel_rfl
theorem am_el2 : elemOfSlice Tryd.prog 2 = none := by kernel_rfl
theorem am_ze2 : zeroCellsAV Tryd.prog 2 = some [.lit (.int .i64 0)] := by kernel_rfl
theorem am_in3 : (Tryd.prog.info? 3).isSome = true := by kernel_rfl
theorem am_ag3 : isAggT Tryd.prog 3 = some false := by kernel_rfl
theorem am_cl3 : Tryd.prog.cellsOf 3 = 1 := by kernel_rfl
theorem am_by3 : Tryd.prog.bytesOf 3 = 8 := by kernel_rfl
theorem am_el3 : elemOfSlice Tryd.prog 3 = none := by kernel_rfl
theorem am_ze3 : zeroCellsAV Tryd.prog 3 = some [.lit (.int .i64 0)] := by kernel_rfl
theorem am_in4 : (Tryd.prog.info? 4).isSome = true := by kernel_rfl
theorem am_ag4 : isAggT Tryd.prog 4 = some false := by kernel_rfl
theorem am_cl4 : Tryd.prog.cellsOf 4 = 1 := by kernel_rfl
theorem am_by4 : Tryd.prog.bytesOf 4 = 1 := by kernel_rfl
theorem am_el4 : elemOfSlice Tryd.prog 4 = none := by kernel_rfl
theorem am_ze4 : zeroCellsAV Tryd.prog 4 = some [.lit (.bool false)] := by kernel_rfl
theorem am_in5 : (Tryd.prog.info? 5).isSome = true := by kernel_rfl
theorem am_ag5 : isAggT Tryd.prog 5 = some false := by kernel_rfl
theorem am_cl5 : Tryd.prog.cellsOf 5 = 1 := by kernel_rfl
theorem am_by5 : Tryd.prog.bytesOf 5 = 1 := by kernel_rfl
theorem am_el5 : elemOfSlice Tryd.prog 5 = none := by kernel_rfl
theorem am_ze5 : zeroCellsAV Tryd.prog 5 = some [.lit (.int .u8 0)] := by kernel_rfl
theorem am_in6 : (Tryd.prog.info? 6).isSome = true := by kernel_rfl
theorem am_ag6 : isAggT Tryd.prog 6 = some false := by kernel_rfl
theorem am_cl6 : Tryd.prog.cellsOf 6 = 1 := by kernel_rfl
theorem am_by6 : Tryd.prog.bytesOf 6 = 1 := by kernel_rfl
theorem am_el6 : elemOfSlice Tryd.prog 6 = none := by kernel_rfl
theorem am_ze6 : zeroCellsAV Tryd.prog 6 = some [.lit (.int .u8 0)] := by kernel_rfl
theorem am_in7 : (Tryd.prog.info? 7).isSome = true := by kernel_rfl
theorem am_ag7 : isAggT Tryd.prog 7 = some true := by kernel_rfl
theorem am_cl7 : Tryd.prog.cellsOf 7 = 4 := by kernel_rfl
theorem am_by7 : Tryd.prog.bytesOf 7 = 24 := by kernel_rfl
theorem am_el7 : elemOfSlice Tryd.prog 7 = none := by kernel_rfl
theorem am_ze7 : zeroCellsAV Tryd.prog 7 = some [.lit (.int .i64 0), .lit (.int .i64 0), .lit (.bool false), .lit (.int .u8 0)] := by kernel_rfl
theorem am_fi7_0 : fieldOf Tryd.prog 7 0 = some (0, 2) := by kernel_rfl
theorem am_fi7_1 : fieldOf Tryd.prog 7 1 = some (1, 3) := by kernel_rfl
theorem am_fi7_2 : fieldOf Tryd.prog 7 2 = some (2, 4) := by kernel_rfl
theorem am_fi7_3 : fieldOf Tryd.prog 7 3 = some (3, 6) := by kernel_rfl
theorem am_pl7 : placesL Tryd.prog 7 = some [(0, 1), (1, 1), (2, 1), (3, 1)] := by kernel_rfl
theorem am_in8 : (Tryd.prog.info? 8).isSome = true := by kernel_rfl
theorem am_ag8 : isAggT Tryd.prog 8 = some true := by kernel_rfl
theorem am_cl8 : Tryd.prog.cellsOf 8 = 4 := by kernel_rfl
theorem am_by8 : Tryd.prog.bytesOf 8 = 24 := by kernel_rfl
theorem am_el8 : elemOfSlice Tryd.prog 8 = none := by kernel_rfl
theorem am_ze8 : zeroCellsAV Tryd.prog 8 = some [.lit (.int .i64 0), .lit (.int .i64 0), .lit (.bool false), .lit (.int .u8 0)] := by kernel_rfl
theorem am_fi8_0 : fieldOf Tryd.prog 8 0 = some (0, 2) := by kernel_rfl
theorem am_fi8_1 : fieldOf Tryd.prog 8 1 = some (1, 3) := by kernel_rfl
theorem am_fi8_2 : fieldOf Tryd.prog 8 2 = some (2, 4) := by kernel_rfl
theorem am_fi8_3 : fieldOf Tryd.prog 8 3 = some (3, 6) := by kernel_rfl
theorem am_pl8 : placesL Tryd.prog 8 = some [(0, 1), (1, 1), (2, 1), (3, 1)] := by kernel_rfl
theorem am_in9 : (Tryd.prog.info? 9).isSome = true := by kernel_rfl
theorem am_ag9 : isAggT Tryd.prog 9 = some false := by kernel_rfl
theorem am_cl9 : Tryd.prog.cellsOf 9 = 1 := by kernel_rfl
theorem am_by9 : Tryd.prog.bytesOf 9 = 16 := by kernel_rfl
theorem am_el9 : elemOfSlice Tryd.prog 9 = none := by kernel_rfl
theorem am_ze9 : zeroCellsAV Tryd.prog 9 = some [.lit (.string ByteArray.empty)] := by kernel_rfl
theorem am_in10 : (Tryd.prog.info? 10).isSome = true := by kernel_rfl
theorem am_ag10 : isAggT Tryd.prog 10 = some false := by kernel_rfl
theorem am_cl10 : Tryd.prog.cellsOf 10 = 1 := by kernel_rfl
theorem am_by10 : Tryd.prog.bytesOf 10 = 16 := by kernel_rfl
theorem am_el10 : elemOfSlice Tryd.prog 10 = none := by kernel_rfl
theorem am_ze10 : zeroCellsAV Tryd.prog 10 = some [.lit (.string ByteArray.empty)] := by kernel_rfl
theorem am_in11 : (Tryd.prog.info? 11).isSome = true := by kernel_rfl
theorem am_ag11 : isAggT Tryd.prog 11 = some false := by kernel_rfl
theorem am_cl11 : Tryd.prog.cellsOf 11 = 1 := by kernel_rfl
theorem am_by11 : Tryd.prog.bytesOf 11 = 16 := by kernel_rfl
theorem am_el11 : elemOfSlice Tryd.prog 11 = none := by kernel_rfl
theorem am_ze11 : zeroCellsAV Tryd.prog 11 = some [.lit (.string ByteArray.empty)] := by kernel_rfl
theorem am_in12 : (Tryd.prog.info? 12).isSome = true := by kernel_rfl
theorem am_ag12 : isAggT Tryd.prog 12 = some false := by kernel_rfl
theorem am_cl12 : Tryd.prog.cellsOf 12 = 1 := by kernel_rfl
theorem am_by12 : Tryd.prog.bytesOf 12 = 8 := by kernel_rfl
theorem am_el12 : elemOfSlice Tryd.prog 12 = none := by kernel_rfl
theorem am_ze12 : zeroCellsAV Tryd.prog 12 = some [.lit (.int .u64 0)] := by kernel_rfl
theorem am_in13 : (Tryd.prog.info? 13).isSome = true := by kernel_rfl
theorem am_ag13 : isAggT Tryd.prog 13 = some true := by kernel_rfl
theorem am_cl13 : Tryd.prog.cellsOf 13 = 2 := by kernel_rfl
theorem am_by13 : Tryd.prog.bytesOf 13 = 24 := by kernel_rfl
theorem am_el13 : elemOfSlice Tryd.prog 13 = none := by kernel_rfl
theorem am_ze13 : zeroCellsAV Tryd.prog 13 = some [.lit (.string ByteArray.empty), .lit (.int .u64 0)] := by kernel_rfl
theorem am_fi13_0 : fieldOf Tryd.prog 13 0 = some (0, 9) := by kernel_rfl
theorem am_fi13_1 : fieldOf Tryd.prog 13 1 = some (1, 12) := by kernel_rfl
theorem am_pl13 : placesL Tryd.prog 13 = some [(0, 1), (1, 1)] := by kernel_rfl
theorem am_in14 : (Tryd.prog.info? 14).isSome = true := by kernel_rfl
theorem am_ag14 : isAggT Tryd.prog 14 = some true := by kernel_rfl
theorem am_cl14 : Tryd.prog.cellsOf 14 = 2 := by kernel_rfl
theorem am_by14 : Tryd.prog.bytesOf 14 = 24 := by kernel_rfl
theorem am_el14 : elemOfSlice Tryd.prog 14 = none := by kernel_rfl
theorem am_ze14 : zeroCellsAV Tryd.prog 14 = some [.lit (.string ByteArray.empty), .lit (.int .u64 0)] := by kernel_rfl
theorem am_fi14_0 : fieldOf Tryd.prog 14 0 = some (0, 9) := by kernel_rfl
theorem am_fi14_1 : fieldOf Tryd.prog 14 1 = some (1, 12) := by kernel_rfl
theorem am_pl14 : placesL Tryd.prog 14 = some [(0, 1), (1, 1)] := by kernel_rfl
theorem am_in15 : (Tryd.prog.info? 15).isSome = true := by kernel_rfl
theorem am_ag15 : isAggT Tryd.prog 15 = some false := by kernel_rfl
theorem am_cl15 : Tryd.prog.cellsOf 15 = 1 := by kernel_rfl
theorem am_by15 : Tryd.prog.bytesOf 15 = 8 := by kernel_rfl
theorem am_el15 : elemOfSlice Tryd.prog 15 = none := by kernel_rfl
theorem am_ze15 : zeroCellsAV Tryd.prog 15 = some [.lit (.pointer none)] := by kernel_rfl
theorem am_in16 : (Tryd.prog.info? 16).isSome = true := by kernel_rfl
theorem am_ag16 : isAggT Tryd.prog 16 = some false := by kernel_rfl
theorem am_cl16 : Tryd.prog.cellsOf 16 = 1 := by kernel_rfl
theorem am_by16 : Tryd.prog.bytesOf 16 = 8 := by kernel_rfl
theorem am_el16 : elemOfSlice Tryd.prog 16 = none := by kernel_rfl
theorem am_ze16 : zeroCellsAV Tryd.prog 16 = some [.lit (.pointer none)] := by kernel_rfl
theorem am_in17 : (Tryd.prog.info? 17).isSome = true := by kernel_rfl
theorem am_ag17 : isAggT Tryd.prog 17 = some false := by kernel_rfl
theorem am_cl17 : Tryd.prog.cellsOf 17 = 1 := by kernel_rfl
theorem am_by17 : Tryd.prog.bytesOf 17 = 8 := by kernel_rfl
theorem am_el17 : elemOfSlice Tryd.prog 17 = none := by kernel_rfl
theorem am_ze17 : zeroCellsAV Tryd.prog 17 = some [.lit (.pointer none)] := by kernel_rfl
theorem am_in18 : (Tryd.prog.info? 18).isSome = true := by kernel_rfl
theorem am_ag18 : isAggT Tryd.prog 18 = some true := by kernel_rfl
theorem am_cl18 : Tryd.prog.cellsOf 18 = 1 := by kernel_rfl
theorem am_by18 : Tryd.prog.bytesOf 18 = 8 := by kernel_rfl
theorem am_el18 : elemOfSlice Tryd.prog 18 = none := by kernel_rfl
theorem am_ze18 : zeroCellsAV Tryd.prog 18 = some [.lit (.pointer none)] := by kernel_rfl
theorem am_fi18_0 : fieldOf Tryd.prog 18 0 = some (0, 17) := by kernel_rfl
theorem am_pl18 : placesL Tryd.prog 18 = some [(0, 1)] := by kernel_rfl
theorem am_in19 : (Tryd.prog.info? 19).isSome = true := by kernel_rfl
theorem am_ag19 : isAggT Tryd.prog 19 = some true := by kernel_rfl
theorem am_cl19 : Tryd.prog.cellsOf 19 = 1 := by kernel_rfl
theorem am_by19 : Tryd.prog.bytesOf 19 = 8 := by kernel_rfl
theorem am_el19 : elemOfSlice Tryd.prog 19 = none := by kernel_rfl
theorem am_ze19 : zeroCellsAV Tryd.prog 19 = some [.lit (.pointer none)] := by kernel_rfl
theorem am_fi19_0 : fieldOf Tryd.prog 19 0 = some (0, 17) := by kernel_rfl
theorem am_pl19 : placesL Tryd.prog 19 = some [(0, 1)] := by kernel_rfl
theorem am_ag20 : isAggT Tryd.prog 20 = some false := by kernel_rfl
theorem am_cl20 : Tryd.prog.cellsOf 20 = 1 := by kernel_rfl
theorem am_in21 : (Tryd.prog.info? 21).isSome = true := by kernel_rfl
theorem am_ag21 : isAggT Tryd.prog 21 = some false := by kernel_rfl
theorem am_cl21 : Tryd.prog.cellsOf 21 = 1 := by kernel_rfl
theorem am_by21 : Tryd.prog.bytesOf 21 = 4 := by kernel_rfl
theorem am_el21 : elemOfSlice Tryd.prog 21 = none := by kernel_rfl
theorem am_ze21 : zeroCellsAV Tryd.prog 21 = some [.lit (.int .i32 0)] := by kernel_rfl
theorem am_in22 : (Tryd.prog.info? 22).isSome = true := by kernel_rfl
theorem am_ag22 : isAggT Tryd.prog 22 = some false := by kernel_rfl
theorem am_cl22 : Tryd.prog.cellsOf 22 = 1 := by kernel_rfl
theorem am_by22 : Tryd.prog.bytesOf 22 = 24 := by kernel_rfl
theorem am_el22 : elemOfSlice Tryd.prog 22 = some 48 := by kernel_rfl
theorem am_ze22 : zeroCellsAV Tryd.prog 22 = some [.lit (.slice none 0 0)] := by kernel_rfl
theorem am_in23 : (Tryd.prog.info? 23).isSome = true := by kernel_rfl
theorem am_ag23 : isAggT Tryd.prog 23 = some true := by kernel_rfl
theorem am_cl23 : Tryd.prog.cellsOf 23 = 3 := by kernel_rfl
theorem am_by23 : Tryd.prog.bytesOf 23 = 24 := by kernel_rfl
theorem am_el23 : elemOfSlice Tryd.prog 23 = none := by kernel_rfl
theorem am_ze23 : zeroCellsAV Tryd.prog 23 = some [.lit (.int .i64 0), .lit (.int .i64 0), .lit (.int .i64 0)] := by kernel_rfl
theorem am_fi23_0 : fieldOf Tryd.prog 23 0 = some (0, 3) := by kernel_rfl
theorem am_fi23_1 : fieldOf Tryd.prog 23 1 = some (1, 3) := by kernel_rfl
theorem am_fi23_2 : fieldOf Tryd.prog 23 2 = some (2, 3) := by kernel_rfl
theorem am_pl23 : placesL Tryd.prog 23 = some [(0, 1), (1, 1), (2, 1)] := by kernel_rfl
theorem am_in24 : (Tryd.prog.info? 24).isSome = true := by kernel_rfl
theorem am_ag24 : isAggT Tryd.prog 24 = some true := by kernel_rfl
theorem am_cl24 : Tryd.prog.cellsOf 24 = 3 := by kernel_rfl
theorem am_by24 : Tryd.prog.bytesOf 24 = 24 := by kernel_rfl
theorem am_el24 : elemOfSlice Tryd.prog 24 = none := by kernel_rfl
theorem am_ze24 : zeroCellsAV Tryd.prog 24 = some [.lit (.int .i64 0), .lit (.int .i64 0), .lit (.int .i64 0)] := by kernel_rfl
theorem am_fi24_0 : fieldOf Tryd.prog 24 0 = some (0, 3) := by kernel_rfl
theorem am_fi24_1 : fieldOf Tryd.prog 24 1 = some (1, 3) := by kernel_rfl
theorem am_fi24_2 : fieldOf Tryd.prog 24 2 = some (2, 3) := by kernel_rfl
theorem am_pl24 : placesL Tryd.prog 24 = some [(0, 1), (1, 1), (2, 1)] := by kernel_rfl
theorem am_in25 : (Tryd.prog.info? 25).isSome = true := by kernel_rfl
theorem am_ag25 : isAggT Tryd.prog 25 = some true := by kernel_rfl
theorem am_cl25 : Tryd.prog.cellsOf 25 = 6 := by kernel_rfl
theorem am_by25 : Tryd.prog.bytesOf 25 = 48 := by kernel_rfl
theorem am_el25 : elemOfSlice Tryd.prog 25 = none := by kernel_rfl
theorem am_ze25 : zeroCellsAV Tryd.prog 25 = some [.lit (.int .i64 0), .lit (.int .i64 0), .lit (.int .i64 0), .lit (.int .i64 0), .lit (.int .i64 0), .lit (.int .i64 0)] := by kernel_rfl
theorem am_fi25_0 : fieldOf Tryd.prog 25 0 = some (0, 24) := by kernel_rfl
theorem am_fi25_1 : fieldOf Tryd.prog 25 1 = some (3, 24) := by kernel_rfl
theorem am_pl25 : placesL Tryd.prog 25 = some [(0, 3), (3, 3)] := by kernel_rfl
theorem am_in26 : (Tryd.prog.info? 26).isSome = true := by kernel_rfl
theorem am_ag26 : isAggT Tryd.prog 26 = some true := by kernel_rfl
theorem am_cl26 : Tryd.prog.cellsOf 26 = 6 := by kernel_rfl
theorem am_by26 : Tryd.prog.bytesOf 26 = 48 := by kernel_rfl
theorem am_el26 : elemOfSlice Tryd.prog 26 = none := by kernel_rfl
theorem am_ze26 : zeroCellsAV Tryd.prog 26 = some [.lit (.int .i64 0), .lit (.int .i64 0), .lit (.int .i64 0), .lit (.int .i64 0), .lit (.int .i64 0), .lit (.int .i64 0)] := by kernel_rfl
theorem am_fi26_0 : fieldOf Tryd.prog 26 0 = some (0, 24) := by kernel_rfl
theorem am_fi26_1 : fieldOf Tryd.prog 26 1 = some (3, 24) := by kernel_rfl
theorem am_pl26 : placesL Tryd.prog 26 = some [(0, 3), (3, 3)] := by kernel_rfl
theorem am_ag27 : isAggT Tryd.prog 27 = some false := by kernel_rfl
theorem am_cl27 : Tryd.prog.cellsOf 27 = 1 := by kernel_rfl
theorem am_ag28 : isAggT Tryd.prog 28 = some false := by kernel_rfl
theorem am_cl28 : Tryd.prog.cellsOf 28 = 1 := by kernel_rfl
theorem am_in29 : (Tryd.prog.info? 29).isSome = true := by kernel_rfl
theorem am_ag29 : isAggT Tryd.prog 29 = some false := by kernel_rfl
theorem am_cl29 : Tryd.prog.cellsOf 29 = 1 := by kernel_rfl
theorem am_by29 : Tryd.prog.bytesOf 29 = 24 := by kernel_rfl
theorem am_el29 : elemOfSlice Tryd.prog 29 = some 39 := by kernel_rfl
theorem am_ze29 : zeroCellsAV Tryd.prog 29 = some [.lit (.slice none 0 0)] := by kernel_rfl
theorem am_in30 : (Tryd.prog.info? 30).isSome = true := by kernel_rfl
theorem am_ag30 : isAggT Tryd.prog 30 = some false := by kernel_rfl
theorem am_cl30 : Tryd.prog.cellsOf 30 = 1 := by kernel_rfl
theorem am_by30 : Tryd.prog.bytesOf 30 = 8 := by kernel_rfl
theorem am_el30 : elemOfSlice Tryd.prog 30 = none := by kernel_rfl
theorem am_ze30 : zeroCellsAV Tryd.prog 30 = some [.lit (.int .i64 0)] := by kernel_rfl
theorem am_ag32 : isAggT Tryd.prog 32 = some false := by kernel_rfl
theorem am_cl32 : Tryd.prog.cellsOf 32 = 1 := by kernel_rfl
theorem am_ag34 : isAggT Tryd.prog 34 = some false := by kernel_rfl
theorem am_cl34 : Tryd.prog.cellsOf 34 = 1 := by kernel_rfl
theorem am_ag36 : isAggT Tryd.prog 36 = some false := by kernel_rfl
theorem am_cl36 : Tryd.prog.cellsOf 36 = 1 := by kernel_rfl
theorem am_ag37 : isAggT Tryd.prog 37 = some false := by kernel_rfl
theorem am_cl37 : Tryd.prog.cellsOf 37 = 1 := by kernel_rfl
theorem am_in38 : (Tryd.prog.info? 38).isSome = true := by kernel_rfl
theorem am_ag38 : isAggT Tryd.prog 38 = some true := by kernel_rfl
theorem am_cl38 : Tryd.prog.cellsOf 38 = 2 := by kernel_rfl
theorem am_by38 : Tryd.prog.bytesOf 38 = 16 := by kernel_rfl
theorem am_el38 : elemOfSlice Tryd.prog 38 = none := by kernel_rfl
theorem am_ze38 : zeroCellsAV Tryd.prog 38 = some [.lit (.int .i64 0), .lit (.int .i64 0)] := by kernel_rfl
theorem am_fi38_0 : fieldOf Tryd.prog 38 0 = some (0, 3) := by kernel_rfl
theorem am_fi38_1 : fieldOf Tryd.prog 38 1 = some (1, 3) := by kernel_rfl
theorem am_pl38 : placesL Tryd.prog 38 = some [(0, 1), (1, 1)] := by kernel_rfl
theorem am_in39 : (Tryd.prog.info? 39).isSome = true := by kernel_rfl
theorem am_ag39 : isAggT Tryd.prog 39 = some true := by kernel_rfl
theorem am_cl39 : Tryd.prog.cellsOf 39 = 2 := by kernel_rfl
theorem am_by39 : Tryd.prog.bytesOf 39 = 16 := by kernel_rfl
theorem am_el39 : elemOfSlice Tryd.prog 39 = none := by kernel_rfl
theorem am_ze39 : zeroCellsAV Tryd.prog 39 = some [.lit (.int .i64 0), .lit (.int .i64 0)] := by kernel_rfl
theorem am_fi39_0 : fieldOf Tryd.prog 39 0 = some (0, 3) := by kernel_rfl
theorem am_fi39_1 : fieldOf Tryd.prog 39 1 = some (1, 3) := by kernel_rfl
theorem am_pl39 : placesL Tryd.prog 39 = some [(0, 1), (1, 1)] := by kernel_rfl
theorem am_ag40 : isAggT Tryd.prog 40 = some false := by kernel_rfl
theorem am_cl40 : Tryd.prog.cellsOf 40 = 1 := by kernel_rfl
theorem am_ag41 : isAggT Tryd.prog 41 = some false := by kernel_rfl
theorem am_cl41 : Tryd.prog.cellsOf 41 = 1 := by kernel_rfl
theorem am_ag42 : isAggT Tryd.prog 42 = some false := by kernel_rfl
theorem am_cl42 : Tryd.prog.cellsOf 42 = 1 := by kernel_rfl
theorem am_ag43 : isAggT Tryd.prog 43 = some false := by kernel_rfl
theorem am_cl43 : Tryd.prog.cellsOf 43 = 1 := by kernel_rfl
theorem am_ag44 : isAggT Tryd.prog 44 = some false := by kernel_rfl
theorem am_cl44 : Tryd.prog.cellsOf 44 = 1 := by kernel_rfl
theorem am_ag46 : isAggT Tryd.prog 46 = some false := by kernel_rfl
theorem am_cl46 : Tryd.prog.cellsOf 46 = 1 := by kernel_rfl
theorem am_in47 : (Tryd.prog.info? 47).isSome = true := by kernel_rfl
theorem am_ag47 : isAggT Tryd.prog 47 = some true := by kernel_rfl
theorem am_cl47 : Tryd.prog.cellsOf 47 = 8 := by kernel_rfl
theorem am_by47 : Tryd.prog.bytesOf 47 = 88 := by kernel_rfl
theorem am_el47 : elemOfSlice Tryd.prog 47 = none := by kernel_rfl
theorem am_ze47 : zeroCellsAV Tryd.prog 47 = some [.lit (.string ByteArray.empty), .lit (.int .i64 0), .lit (.int .i64 0), .lit (.int .i64 0), .lit (.int .i64 0), .lit (.int .i64 0), .lit (.int .i64 0), .lit (.slice none 0 0)] := by kernel_rfl
theorem am_fi47_0 : fieldOf Tryd.prog 47 0 = some (0, 9) := by kernel_rfl
theorem am_fi47_1 : fieldOf Tryd.prog 47 1 = some (1, 26) := by kernel_rfl
theorem am_fi47_2 : fieldOf Tryd.prog 47 2 = some (7, 29) := by kernel_rfl
theorem am_pl47 : placesL Tryd.prog 47 = some [(0, 1), (1, 6), (7, 1)] := by kernel_rfl
theorem am_in48 : (Tryd.prog.info? 48).isSome = true := by kernel_rfl
theorem am_ag48 : isAggT Tryd.prog 48 = some true := by kernel_rfl
theorem am_cl48 : Tryd.prog.cellsOf 48 = 8 := by kernel_rfl
theorem am_by48 : Tryd.prog.bytesOf 48 = 88 := by kernel_rfl
theorem am_el48 : elemOfSlice Tryd.prog 48 = none := by kernel_rfl
theorem am_ze48 : zeroCellsAV Tryd.prog 48 = some [.lit (.string ByteArray.empty), .lit (.int .i64 0), .lit (.int .i64 0), .lit (.int .i64 0), .lit (.int .i64 0), .lit (.int .i64 0), .lit (.int .i64 0), .lit (.slice none 0 0)] := by kernel_rfl
theorem am_fi48_0 : fieldOf Tryd.prog 48 0 = some (0, 9) := by kernel_rfl
theorem am_fi48_1 : fieldOf Tryd.prog 48 1 = some (1, 26) := by kernel_rfl
theorem am_fi48_2 : fieldOf Tryd.prog 48 2 = some (7, 29) := by kernel_rfl
theorem am_pl48 : placesL Tryd.prog 48 = some [(0, 1), (1, 6), (7, 1)] := by kernel_rfl
theorem am_ag49 : isAggT Tryd.prog 49 = some false := by kernel_rfl
theorem am_cl49 : Tryd.prog.cellsOf 49 = 1 := by kernel_rfl
theorem am_ag50 : isAggT Tryd.prog 50 = some false := by kernel_rfl
theorem am_cl50 : Tryd.prog.cellsOf 50 = 1 := by kernel_rfl
theorem am_ag51 : isAggT Tryd.prog 51 = some false := by kernel_rfl
theorem am_cl51 : Tryd.prog.cellsOf 51 = 1 := by kernel_rfl
theorem am_ag52 : isAggT Tryd.prog 52 = some false := by kernel_rfl
theorem am_cl52 : Tryd.prog.cellsOf 52 = 1 := by kernel_rfl
theorem am_ag54 : isAggT Tryd.prog 54 = some false := by kernel_rfl
theorem am_cl54 : Tryd.prog.cellsOf 54 = 1 := by kernel_rfl
theorem am_ag55 : isAggT Tryd.prog 55 = some false := by kernel_rfl
theorem am_cl55 : Tryd.prog.cellsOf 55 = 1 := by kernel_rfl
theorem am_ag57 : isAggT Tryd.prog 57 = some false := by kernel_rfl
theorem am_cl57 : Tryd.prog.cellsOf 57 = 1 := by kernel_rfl
theorem am_ag59 : isAggT Tryd.prog 59 = some false := by kernel_rfl
theorem am_cl59 : Tryd.prog.cellsOf 59 = 1 := by kernel_rfl
theorem am_ag60 : isAggT Tryd.prog 60 = some false := by kernel_rfl
theorem am_cl60 : Tryd.prog.cellsOf 60 = 1 := by kernel_rfl
theorem am_in61 : (Tryd.prog.info? 61).isSome = true := by kernel_rfl
theorem am_ag61 : isAggT Tryd.prog 61 = some false := by kernel_rfl
theorem am_cl61 : Tryd.prog.cellsOf 61 = 1 := by kernel_rfl
theorem am_by61 : Tryd.prog.bytesOf 61 = 24 := by kernel_rfl
theorem am_el61 : elemOfSlice Tryd.prog 61 = some 3 := by kernel_rfl
theorem am_ze61 : zeroCellsAV Tryd.prog 61 = some [.lit (.slice none 0 0)] := by kernel_rfl
theorem am_ag62 : isAggT Tryd.prog 62 = some false := by kernel_rfl
theorem am_cl62 : Tryd.prog.cellsOf 62 = 1 := by kernel_rfl
theorem am_ag63 : isAggT Tryd.prog 63 = some false := by kernel_rfl
theorem am_cl63 : Tryd.prog.cellsOf 63 = 1 := by kernel_rfl
theorem am_in64 : (Tryd.prog.info? 64).isSome = true := by kernel_rfl
theorem am_ag64 : isAggT Tryd.prog 64 = some false := by kernel_rfl
theorem am_cl64 : Tryd.prog.cellsOf 64 = 1 := by kernel_rfl
theorem am_by64 : Tryd.prog.bytesOf 64 = 24 := by kernel_rfl
theorem am_el64 : elemOfSlice Tryd.prog 64 = some 5 := by kernel_rfl
theorem am_ze64 : zeroCellsAV Tryd.prog 64 = some [.lit (.slice none 0 0)] := by kernel_rfl
theorem am_ag65 : isAggT Tryd.prog 65 = some false := by kernel_rfl
theorem am_cl65 : Tryd.prog.cellsOf 65 = 1 := by kernel_rfl
theorem am_ag66 : isAggT Tryd.prog 66 = some false := by kernel_rfl
theorem am_cl66 : Tryd.prog.cellsOf 66 = 1 := by kernel_rfl
theorem am_ag68 : isAggT Tryd.prog 68 = some false := by kernel_rfl
theorem am_cl68 : Tryd.prog.cellsOf 68 = 1 := by kernel_rfl
theorem am_ag69 : isAggT Tryd.prog 69 = some false := by kernel_rfl
theorem am_cl69 : Tryd.prog.cellsOf 69 = 1 := by kernel_rfl
theorem am_ag70 : isAggT Tryd.prog 70 = some false := by kernel_rfl
theorem am_cl70 : Tryd.prog.cellsOf 70 = 1 := by kernel_rfl
theorem am_ag71 : isAggT Tryd.prog 71 = some false := by kernel_rfl
theorem am_cl71 : Tryd.prog.cellsOf 71 = 1 := by kernel_rfl
theorem am_ag72 : isAggT Tryd.prog 72 = some false := by kernel_rfl
theorem am_cl72 : Tryd.prog.cellsOf 72 = 1 := by kernel_rfl
theorem am_ag73 : isAggT Tryd.prog 73 = some false := by kernel_rfl
theorem am_cl73 : Tryd.prog.cellsOf 73 = 1 := by kernel_rfl
theorem am_ag74 : isAggT Tryd.prog 74 = some false := by kernel_rfl
theorem am_cl74 : Tryd.prog.cellsOf 74 = 1 := by kernel_rfl
theorem am_ag75 : isAggT Tryd.prog 75 = some false := by kernel_rfl
theorem am_cl75 : Tryd.prog.cellsOf 75 = 1 := by kernel_rfl
theorem am_ag76 : isAggT Tryd.prog 76 = some false := by kernel_rfl
theorem am_cl76 : Tryd.prog.cellsOf 76 = 1 := by kernel_rfl
theorem am_ag77 : isAggT Tryd.prog 77 = some false := by kernel_rfl
theorem am_cl77 : Tryd.prog.cellsOf 77 = 1 := by kernel_rfl
theorem am_ag78 : isAggT Tryd.prog 78 = some false := by kernel_rfl
theorem am_cl78 : Tryd.prog.cellsOf 78 = 1 := by kernel_rfl
theorem am_ag79 : isAggT Tryd.prog 79 = some false := by kernel_rfl
theorem am_cl79 : Tryd.prog.cellsOf 79 = 1 := by kernel_rfl
theorem am_ag80 : isAggT Tryd.prog 80 = some false := by kernel_rfl
theorem am_cl80 : Tryd.prog.cellsOf 80 = 1 := by kernel_rfl
theorem am_ag81 : isAggT Tryd.prog 81 = some false := by kernel_rfl
theorem am_cl81 : Tryd.prog.cellsOf 81 = 1 := by kernel_rfl
theorem am_ag82 : isAggT Tryd.prog 82 = some false := by kernel_rfl
theorem am_cl82 : Tryd.prog.cellsOf 82 = 1 := by kernel_rfl
theorem am_ag84 : isAggT Tryd.prog 84 = some false := by kernel_rfl
theorem am_cl84 : Tryd.prog.cellsOf 84 = 1 := by kernel_rfl
theorem am_ag85 : isAggT Tryd.prog 85 = some false := by kernel_rfl
theorem am_cl85 : Tryd.prog.cellsOf 85 = 1 := by kernel_rfl
theorem am_ag86 : isAggT Tryd.prog 86 = some false := by kernel_rfl
theorem am_cl86 : Tryd.prog.cellsOf 86 = 1 := by kernel_rfl
theorem am_in87 : (Tryd.prog.info? 87).isSome = true := by kernel_rfl
theorem am_ag87 : isAggT Tryd.prog 87 = some false := by kernel_rfl
theorem am_cl87 : Tryd.prog.cellsOf 87 = 1 := by kernel_rfl
theorem am_by87 : Tryd.prog.bytesOf 87 = 8 := by kernel_rfl
theorem am_el87 : elemOfSlice Tryd.prog 87 = none := by kernel_rfl
theorem am_ze87 : zeroCellsAV Tryd.prog 87 = some [.lit (.int .u64 0)] := by kernel_rfl
theorem am_ag88 : isAggT Tryd.prog 88 = some false := by kernel_rfl
theorem am_cl88 : Tryd.prog.cellsOf 88 = 1 := by kernel_rfl
theorem am_ag89 : isAggT Tryd.prog 89 = some false := by kernel_rfl
theorem am_cl89 : Tryd.prog.cellsOf 89 = 1 := by kernel_rfl
theorem am_ag90 : isAggT Tryd.prog 90 = some false := by kernel_rfl
theorem am_cl90 : Tryd.prog.cellsOf 90 = 1 := by kernel_rfl
theorem am_ag91 : isAggT Tryd.prog 91 = some false := by kernel_rfl
theorem am_cl91 : Tryd.prog.cellsOf 91 = 1 := by kernel_rfl
theorem am_ag92 : isAggT Tryd.prog 92 = some false := by kernel_rfl
theorem am_cl92 : Tryd.prog.cellsOf 92 = 1 := by kernel_rfl
theorem am_in93 : (Tryd.prog.info? 93).isSome = true := by kernel_rfl
theorem am_ag93 : isAggT Tryd.prog 93 = some true := by kernel_rfl
theorem am_cl93 : Tryd.prog.cellsOf 93 = 3 := by kernel_rfl
theorem am_by93 : Tryd.prog.bytesOf 93 = 24 := by kernel_rfl
theorem am_el93 : elemOfSlice Tryd.prog 93 = none := by kernel_rfl
theorem am_ze93 : zeroCellsAV Tryd.prog 93 = some [.lit (.int .i64 0), .lit (.int .i64 0), .lit (.int .i64 0)] := by kernel_rfl
theorem am_ar93 : arrOf Tryd.prog 93 = some (3, 3) := by kernel_rfl
theorem am_pn93 : placesL Tryd.prog 93 = none := by kernel_rfl
theorem am_ag94 : isAggT Tryd.prog 94 = some false := by kernel_rfl
theorem am_cl94 : Tryd.prog.cellsOf 94 = 1 := by kernel_rfl
theorem am_ag95 : isAggT Tryd.prog 95 = some false := by kernel_rfl
theorem am_cl95 : Tryd.prog.cellsOf 95 = 1 := by kernel_rfl
theorem am_in96 : (Tryd.prog.info? 96).isSome = true := by kernel_rfl
theorem am_ag96 : isAggT Tryd.prog 96 = some false := by kernel_rfl
theorem am_cl96 : Tryd.prog.cellsOf 96 = 1 := by kernel_rfl
theorem am_by96 : Tryd.prog.bytesOf 96 = 8 := by kernel_rfl
theorem am_el96 : elemOfSlice Tryd.prog 96 = none := by kernel_rfl
theorem am_ze96 : zeroCellsAV Tryd.prog 96 = some [.lit (.int .i64 0)] := by kernel_rfl
theorem am_ag98 : isAggT Tryd.prog 98 = some false := by kernel_rfl
theorem am_cl98 : Tryd.prog.cellsOf 98 = 1 := by kernel_rfl
theorem am_ag99 : isAggT Tryd.prog 99 = some false := by kernel_rfl
theorem am_cl99 : Tryd.prog.cellsOf 99 = 1 := by kernel_rfl
theorem am_ag100 : isAggT Tryd.prog 100 = some false := by kernel_rfl
theorem am_cl100 : Tryd.prog.cellsOf 100 = 1 := by kernel_rfl
theorem am_ag101 : isAggT Tryd.prog 101 = some false := by kernel_rfl
theorem am_cl101 : Tryd.prog.cellsOf 101 = 1 := by kernel_rfl
theorem am_ag102 : isAggT Tryd.prog 102 = some false := by kernel_rfl
theorem am_cl102 : Tryd.prog.cellsOf 102 = 1 := by kernel_rfl
theorem am_ag103 : isAggT Tryd.prog 103 = some false := by kernel_rfl
theorem am_cl103 : Tryd.prog.cellsOf 103 = 1 := by kernel_rfl
theorem am_in104 : (Tryd.prog.info? 104).isSome = true := by kernel_rfl
theorem am_ag104 : isAggT Tryd.prog 104 = some false := by kernel_rfl
theorem am_cl104 : Tryd.prog.cellsOf 104 = 1 := by kernel_rfl
theorem am_by104 : Tryd.prog.bytesOf 104 = 4 := by kernel_rfl
theorem am_el104 : elemOfSlice Tryd.prog 104 = none := by kernel_rfl
theorem am_ze104 : zeroCellsAV Tryd.prog 104 = some [.lit (.int .u32 0)] := by kernel_rfl
theorem am_ag105 : isAggT Tryd.prog 105 = some false := by kernel_rfl
theorem am_cl105 : Tryd.prog.cellsOf 105 = 1 := by kernel_rfl
theorem am_in106 : (Tryd.prog.info? 106).isSome = true := by kernel_rfl
theorem am_ag106 : isAggT Tryd.prog 106 = some false := by kernel_rfl
theorem am_cl106 : Tryd.prog.cellsOf 106 = 1 := by kernel_rfl
theorem am_by106 : Tryd.prog.bytesOf 106 = 8 := by kernel_rfl
theorem am_el106 : elemOfSlice Tryd.prog 106 = none := by kernel_rfl
theorem am_ze106 : zeroCellsAV Tryd.prog 106 = some [.lit (.int .u64 0)] := by kernel_rfl
theorem am_ag107 : isAggT Tryd.prog 107 = some false := by kernel_rfl
theorem am_cl107 : Tryd.prog.cellsOf 107 = 1 := by kernel_rfl
theorem am_ag108 : isAggT Tryd.prog 108 = some false := by kernel_rfl
theorem am_cl108 : Tryd.prog.cellsOf 108 = 1 := by kernel_rfl
theorem am_in109 : (Tryd.prog.info? 109).isSome = true := by kernel_rfl
theorem am_ag109 : isAggT Tryd.prog 109 = some false := by kernel_rfl
theorem am_cl109 : Tryd.prog.cellsOf 109 = 1 := by kernel_rfl
theorem am_by109 : Tryd.prog.bytesOf 109 = 8 := by kernel_rfl
theorem am_el109 : elemOfSlice Tryd.prog 109 = none := by kernel_rfl
theorem am_ze109 : zeroCellsAV Tryd.prog 109 = some [.lit (.int .u64 0)] := by kernel_rfl
theorem am_ag110 : isAggT Tryd.prog 110 = some false := by kernel_rfl
theorem am_cl110 : Tryd.prog.cellsOf 110 = 1 := by kernel_rfl
theorem am_ag111 : isAggT Tryd.prog 111 = some false := by kernel_rfl
theorem am_cl111 : Tryd.prog.cellsOf 111 = 1 := by kernel_rfl
theorem am_ag112 : isAggT Tryd.prog 112 = some false := by kernel_rfl
theorem am_cl112 : Tryd.prog.cellsOf 112 = 1 := by kernel_rfl
theorem am_in113 : (Tryd.prog.info? 113).isSome = true := by kernel_rfl
theorem am_ag113 : isAggT Tryd.prog 113 = some false := by kernel_rfl
theorem am_cl113 : Tryd.prog.cellsOf 113 = 1 := by kernel_rfl
theorem am_by113 : Tryd.prog.bytesOf 113 = 8 := by kernel_rfl
theorem am_el113 : elemOfSlice Tryd.prog 113 = none := by kernel_rfl
theorem am_ze113 : zeroCellsAV Tryd.prog 113 = some [.lit (.pointer none)] := by kernel_rfl
theorem am_ag114 : isAggT Tryd.prog 114 = some false := by kernel_rfl
theorem am_cl114 : Tryd.prog.cellsOf 114 = 1 := by kernel_rfl
theorem am_in115 : (Tryd.prog.info? 115).isSome = true := by kernel_rfl
theorem am_ag115 : isAggT Tryd.prog 115 = some true := by kernel_rfl
theorem am_cl115 : Tryd.prog.cellsOf 115 = 24 := by kernel_rfl
theorem am_by115 : Tryd.prog.bytesOf 115 = 24 := by kernel_rfl
theorem am_el115 : elemOfSlice Tryd.prog 115 = none := by kernel_rfl
theorem am_ze115 : zeroCellsAV Tryd.prog 115 = some [.lit (.int .u8 0), .lit (.int .u8 0), .lit (.int .u8 0), .lit (.int .u8 0), .lit (.int .u8 0), .lit (.int .u8 0), .lit (.int .u8 0), .lit (.int .u8 0), .lit (.int .u8 0), .lit (.int .u8 0), .lit (.int .u8 0), .lit (.int .u8 0), .lit (.int .u8 0), .lit (.int .u8 0), .lit (.int .u8 0), .lit (.int .u8 0), .lit (.int .u8 0), .lit (.int .u8 0), .lit (.int .u8 0), .lit (.int .u8 0), .lit (.int .u8 0), .lit (.int .u8 0), .lit (.int .u8 0), .lit (.int .u8 0)] := by kernel_rfl
theorem am_ar115 : arrOf Tryd.prog 115 = some (24, 5) := by kernel_rfl
theorem am_pn115 : placesL Tryd.prog 115 = none := by kernel_rfl
theorem am_ag116 : isAggT Tryd.prog 116 = some false := by kernel_rfl
theorem am_cl116 : Tryd.prog.cellsOf 116 = 1 := by kernel_rfl
theorem am_ag118 : isAggT Tryd.prog 118 = some false := by kernel_rfl
theorem am_cl118 : Tryd.prog.cellsOf 118 = 1 := by kernel_rfl
theorem am_in119 : (Tryd.prog.info? 119).isSome = true := by kernel_rfl
theorem am_ag119 : isAggT Tryd.prog 119 = some false := by kernel_rfl
theorem am_cl119 : Tryd.prog.cellsOf 119 = 1 := by kernel_rfl
theorem am_by119 : Tryd.prog.bytesOf 119 = 8 := by kernel_rfl
theorem am_el119 : elemOfSlice Tryd.prog 119 = none := by kernel_rfl
theorem am_ze119 : zeroCellsAV Tryd.prog 119 = some [.lit (.pointer none)] := by kernel_rfl
theorem am_ag120 : isAggT Tryd.prog 120 = some false := by kernel_rfl
theorem am_cl120 : Tryd.prog.cellsOf 120 = 1 := by kernel_rfl
theorem am_ag121 : isAggT Tryd.prog 121 = some false := by kernel_rfl
theorem am_cl121 : Tryd.prog.cellsOf 121 = 1 := by kernel_rfl
theorem am_ag122 : isAggT Tryd.prog 122 = some false := by kernel_rfl
theorem am_cl122 : Tryd.prog.cellsOf 122 = 1 := by kernel_rfl
theorem am_in123 : (Tryd.prog.info? 123).isSome = true := by kernel_rfl
theorem am_ag123 : isAggT Tryd.prog 123 = some true := by kernel_rfl
theorem am_cl123 : Tryd.prog.cellsOf 123 = 20 := by kernel_rfl
theorem am_by123 : Tryd.prog.bytesOf 123 = 160 := by kernel_rfl
theorem am_el123 : elemOfSlice Tryd.prog 123 = none := by kernel_rfl
theorem am_ze123 : zeroCellsAV Tryd.prog 123 = some [.lit (.int .u64 0), .lit (.int .u64 0), .lit (.int .u64 0), .lit (.int .u64 0), .lit (.int .u64 0), .lit (.int .u64 0), .lit (.int .u64 0), .lit (.int .u64 0), .lit (.int .u64 0), .lit (.int .u64 0), .lit (.int .u64 0), .lit (.int .u64 0), .lit (.int .u64 0), .lit (.int .u64 0), .lit (.int .u64 0), .lit (.int .u64 0), .lit (.int .u64 0), .lit (.int .u64 0), .lit (.int .u64 0), .lit (.int .u64 0)] := by kernel_rfl
theorem am_ar123 : arrOf Tryd.prog 123 = some (20, 106) := by kernel_rfl
theorem am_pn123 : placesL Tryd.prog 123 = none := by kernel_rfl
theorem am_in124 : (Tryd.prog.info? 124).isSome = true := by kernel_rfl
theorem am_ag124 : isAggT Tryd.prog 124 = some true := by kernel_rfl
theorem am_cl124 : Tryd.prog.cellsOf 124 = 65 := by kernel_rfl
theorem am_by124 : Tryd.prog.bytesOf 124 = 65 := by kernel_rfl
theorem am_el124 : elemOfSlice Tryd.prog 124 = none := by kernel_rfl
theorem am_ar124 : arrOf Tryd.prog 124 = some (65, 5) := by kernel_rfl
theorem am_pn124 : placesL Tryd.prog 124 = none := by kernel_rfl
theorem am_in125 : (Tryd.prog.info? 125).isSome = true := by kernel_rfl
theorem am_ag125 : isAggT Tryd.prog 125 = some true := by kernel_rfl
theorem am_cl125 : Tryd.prog.cellsOf 125 = 32 := by kernel_rfl
theorem am_by125 : Tryd.prog.bytesOf 125 = 32 := by kernel_rfl
theorem am_el125 : elemOfSlice Tryd.prog 125 = none := by kernel_rfl
theorem am_ze125 : zeroCellsAV Tryd.prog 125 = some [.lit (.int .u8 0), .lit (.int .u8 0), .lit (.int .u8 0), .lit (.int .u8 0), .lit (.int .u8 0), .lit (.int .u8 0), .lit (.int .u8 0), .lit (.int .u8 0), .lit (.int .u8 0), .lit (.int .u8 0), .lit (.int .u8 0), .lit (.int .u8 0), .lit (.int .u8 0), .lit (.int .u8 0), .lit (.int .u8 0), .lit (.int .u8 0), .lit (.int .u8 0), .lit (.int .u8 0), .lit (.int .u8 0), .lit (.int .u8 0), .lit (.int .u8 0), .lit (.int .u8 0), .lit (.int .u8 0), .lit (.int .u8 0), .lit (.int .u8 0), .lit (.int .u8 0), .lit (.int .u8 0), .lit (.int .u8 0), .lit (.int .u8 0), .lit (.int .u8 0), .lit (.int .u8 0), .lit (.int .u8 0)] := by kernel_rfl
theorem am_ar125 : arrOf Tryd.prog 125 = some (32, 5) := by kernel_rfl
theorem am_pn125 : placesL Tryd.prog 125 = none := by kernel_rfl
theorem am_in126 : (Tryd.prog.info? 126).isSome = true := by kernel_rfl
theorem am_ag126 : isAggT Tryd.prog 126 = some true := by kernel_rfl
theorem am_cl126 : Tryd.prog.cellsOf 126 = 64 := by kernel_rfl
theorem am_by126 : Tryd.prog.bytesOf 126 = 64 := by kernel_rfl
theorem am_el126 : elemOfSlice Tryd.prog 126 = none := by kernel_rfl
theorem am_ar126 : arrOf Tryd.prog 126 = some (64, 5) := by kernel_rfl
theorem am_pn126 : placesL Tryd.prog 126 = none := by kernel_rfl
theorem am_ag127 : isAggT Tryd.prog 127 = some false := by kernel_rfl
theorem am_cl127 : Tryd.prog.cellsOf 127 = 1 := by kernel_rfl
theorem am_in128 : (Tryd.prog.info? 128).isSome = true := by kernel_rfl
theorem am_ag128 : isAggT Tryd.prog 128 = some true := by kernel_rfl
theorem am_cl128 : Tryd.prog.cellsOf 128 = 4 := by kernel_rfl
theorem am_by128 : Tryd.prog.bytesOf 128 = 40 := by kernel_rfl
theorem am_el128 : elemOfSlice Tryd.prog 128 = none := by kernel_rfl
theorem am_ze128 : zeroCellsAV Tryd.prog 128 = some [.lit (.pointer none), .lit (.pointer none), .lit (.pointer none), .lit (.string ByteArray.empty)] := by kernel_rfl
theorem am_fi128_0 : fieldOf Tryd.prog 128 0 = some (0, 17) := by kernel_rfl
theorem am_fi128_1 : fieldOf Tryd.prog 128 1 = some (1, 17) := by kernel_rfl
theorem am_fi128_2 : fieldOf Tryd.prog 128 2 = some (2, 17) := by kernel_rfl
theorem am_fi128_3 : fieldOf Tryd.prog 128 3 = some (3, 9) := by kernel_rfl
theorem am_pl128 : placesL Tryd.prog 128 = some [(0, 1), (1, 1), (2, 1), (3, 1)] := by kernel_rfl
theorem am_in129 : (Tryd.prog.info? 129).isSome = true := by kernel_rfl
theorem am_ag129 : isAggT Tryd.prog 129 = some true := by kernel_rfl
theorem am_cl129 : Tryd.prog.cellsOf 129 = 4 := by kernel_rfl
theorem am_by129 : Tryd.prog.bytesOf 129 = 40 := by kernel_rfl
theorem am_el129 : elemOfSlice Tryd.prog 129 = none := by kernel_rfl
theorem am_ze129 : zeroCellsAV Tryd.prog 129 = some [.lit (.pointer none), .lit (.pointer none), .lit (.pointer none), .lit (.string ByteArray.empty)] := by kernel_rfl
theorem am_fi129_0 : fieldOf Tryd.prog 129 0 = some (0, 17) := by kernel_rfl
theorem am_fi129_1 : fieldOf Tryd.prog 129 1 = some (1, 17) := by kernel_rfl
theorem am_fi129_2 : fieldOf Tryd.prog 129 2 = some (2, 17) := by kernel_rfl
theorem am_fi129_3 : fieldOf Tryd.prog 129 3 = some (3, 9) := by kernel_rfl
theorem am_pl129 : placesL Tryd.prog 129 = some [(0, 1), (1, 1), (2, 1), (3, 1)] := by kernel_rfl
theorem am_in130 : (Tryd.prog.info? 130).isSome = true := by kernel_rfl
theorem am_ag130 : isAggT Tryd.prog 130 = some true := by kernel_rfl
theorem am_cl130 : Tryd.prog.cellsOf 130 = 0 := by kernel_rfl
theorem am_by130 : Tryd.prog.bytesOf 130 = 0 := by kernel_rfl
theorem am_el130 : elemOfSlice Tryd.prog 130 = none := by kernel_rfl
theorem am_ze130 : zeroCellsAV Tryd.prog 130 = some [] := by kernel_rfl
theorem am_ar130 : arrOf Tryd.prog 130 = some (0, 16) := by kernel_rfl
theorem am_pn130 : placesL Tryd.prog 130 = none := by kernel_rfl
theorem am_in131 : (Tryd.prog.info? 131).isSome = true := by kernel_rfl
theorem am_ag131 : isAggT Tryd.prog 131 = some true := by kernel_rfl
theorem am_cl131 : Tryd.prog.cellsOf 131 = 0 := by kernel_rfl
theorem am_by131 : Tryd.prog.bytesOf 131 = 0 := by kernel_rfl
theorem am_el131 : elemOfSlice Tryd.prog 131 = none := by kernel_rfl
theorem am_ze131 : zeroCellsAV Tryd.prog 131 = some [] := by kernel_rfl
theorem am_fi131_0 : fieldOf Tryd.prog 131 0 = some (0, 130) := by kernel_rfl
theorem am_pl131 : placesL Tryd.prog 131 = some [(0, 0)] := by kernel_rfl
theorem am_in132 : (Tryd.prog.info? 132).isSome = true := by kernel_rfl
theorem am_ag132 : isAggT Tryd.prog 132 = some true := by kernel_rfl
theorem am_cl132 : Tryd.prog.cellsOf 132 = 0 := by kernel_rfl
theorem am_by132 : Tryd.prog.bytesOf 132 = 0 := by kernel_rfl
theorem am_el132 : elemOfSlice Tryd.prog 132 = none := by kernel_rfl
theorem am_ze132 : zeroCellsAV Tryd.prog 132 = some [] := by kernel_rfl
theorem am_fi132_0 : fieldOf Tryd.prog 132 0 = some (0, 130) := by kernel_rfl
theorem am_pl132 : placesL Tryd.prog 132 = some [(0, 0)] := by kernel_rfl
theorem am_ag133 : isAggT Tryd.prog 133 = some false := by kernel_rfl
theorem am_cl133 : Tryd.prog.cellsOf 133 = 1 := by kernel_rfl
theorem am_in134 : (Tryd.prog.info? 134).isSome = true := by kernel_rfl
theorem am_ag134 : isAggT Tryd.prog 134 = some false := by kernel_rfl
theorem am_cl134 : Tryd.prog.cellsOf 134 = 1 := by kernel_rfl
theorem am_by134 : Tryd.prog.bytesOf 134 = 1 := by kernel_rfl
theorem am_el134 : elemOfSlice Tryd.prog 134 = none := by kernel_rfl
theorem am_ze134 : zeroCellsAV Tryd.prog 134 = some [.lit (.int .u8 0)] := by kernel_rfl
theorem am_in135 : (Tryd.prog.info? 135).isSome = true := by kernel_rfl
theorem am_ag135 : isAggT Tryd.prog 135 = some false := by kernel_rfl
theorem am_cl135 : Tryd.prog.cellsOf 135 = 1 := by kernel_rfl
theorem am_by135 : Tryd.prog.bytesOf 135 = 1 := by kernel_rfl
theorem am_el135 : elemOfSlice Tryd.prog 135 = none := by kernel_rfl
theorem am_ze135 : zeroCellsAV Tryd.prog 135 = some [.lit (.int .u8 0)] := by kernel_rfl
theorem am_ag136 : isAggT Tryd.prog 136 = some false := by kernel_rfl
theorem am_cl136 : Tryd.prog.cellsOf 136 = 1 := by kernel_rfl
theorem am_in137 : (Tryd.prog.info? 137).isSome = true := by kernel_rfl
theorem am_ag137 : isAggT Tryd.prog 137 = some false := by kernel_rfl
theorem am_cl137 : Tryd.prog.cellsOf 137 = 1 := by kernel_rfl
theorem am_by137 : Tryd.prog.bytesOf 137 = 8 := by kernel_rfl
theorem am_el137 : elemOfSlice Tryd.prog 137 = none := by kernel_rfl
theorem am_ze137 : zeroCellsAV Tryd.prog 137 = some [.lit (.pointer none)] := by kernel_rfl
theorem am_in138 : (Tryd.prog.info? 138).isSome = true := by kernel_rfl
theorem am_ag138 : isAggT Tryd.prog 138 = some false := by kernel_rfl
theorem am_cl138 : Tryd.prog.cellsOf 138 = 1 := by kernel_rfl
theorem am_by138 : Tryd.prog.bytesOf 138 = 4 := by kernel_rfl
theorem am_el138 : elemOfSlice Tryd.prog 138 = none := by kernel_rfl
theorem am_ze138 : zeroCellsAV Tryd.prog 138 = some [.lit (.int .i32 0)] := by kernel_rfl
theorem am_in139 : (Tryd.prog.info? 139).isSome = true := by kernel_rfl
theorem am_ag139 : isAggT Tryd.prog 139 = some false := by kernel_rfl
theorem am_cl139 : Tryd.prog.cellsOf 139 = 1 := by kernel_rfl
theorem am_by139 : Tryd.prog.bytesOf 139 = 4 := by kernel_rfl
theorem am_el139 : elemOfSlice Tryd.prog 139 = none := by kernel_rfl
theorem am_ze139 : zeroCellsAV Tryd.prog 139 = some [.lit (.int .i32 0)] := by kernel_rfl
theorem am_in140 : (Tryd.prog.info? 140).isSome = true := by kernel_rfl
theorem am_ag140 : isAggT Tryd.prog 140 = some true := by kernel_rfl
theorem am_cl140 : Tryd.prog.cellsOf 140 = 11 := by kernel_rfl
theorem am_by140 : Tryd.prog.bytesOf 140 = 48 := by kernel_rfl
theorem am_el140 : elemOfSlice Tryd.prog 140 = none := by kernel_rfl
theorem am_ze140 : zeroCellsAV Tryd.prog 140 = some [.lit (.int .u64 0), .lit (.int .u64 0), .lit (.int .u32 0), .lit (.int .u8 0), .lit (.int .u8 0), .lit (.int .u8 0), .lit (.int .u8 0), .lit (.nilFunc), .lit (.pointer none), .lit (.int .i32 0), .lit (.int .i32 0)] := by kernel_rfl
theorem am_fi140_0 : fieldOf Tryd.prog 140 0 = some (0, 12) := by kernel_rfl
theorem am_fi140_1 : fieldOf Tryd.prog 140 1 = some (1, 12) := by kernel_rfl
theorem am_fi140_2 : fieldOf Tryd.prog 140 2 = some (2, 104) := by kernel_rfl
theorem am_fi140_3 : fieldOf Tryd.prog 140 3 = some (3, 134) := by kernel_rfl
theorem am_fi140_4 : fieldOf Tryd.prog 140 4 = some (4, 5) := by kernel_rfl
theorem am_fi140_5 : fieldOf Tryd.prog 140 5 = some (5, 5) := by kernel_rfl
theorem am_fi140_6 : fieldOf Tryd.prog 140 6 = some (6, 135) := by kernel_rfl
theorem am_fi140_7 : fieldOf Tryd.prog 140 7 = some (7, 136) := by kernel_rfl
theorem am_fi140_8 : fieldOf Tryd.prog 140 8 = some (8, 137) := by kernel_rfl
theorem am_fi140_9 : fieldOf Tryd.prog 140 9 = some (9, 138) := by kernel_rfl
theorem am_fi140_10 : fieldOf Tryd.prog 140 10 = some (10, 139) := by kernel_rfl
theorem am_pl140 : placesL Tryd.prog 140 = some [(0, 1), (1, 1), (2, 1), (3, 1), (4, 1), (5, 1), (6, 1), (7, 1), (8, 1), (9, 1), (10, 1)] := by kernel_rfl
theorem am_in141 : (Tryd.prog.info? 141).isSome = true := by kernel_rfl
theorem am_ag141 : isAggT Tryd.prog 141 = some true := by kernel_rfl
theorem am_cl141 : Tryd.prog.cellsOf 141 = 11 := by kernel_rfl
theorem am_by141 : Tryd.prog.bytesOf 141 = 48 := by kernel_rfl
theorem am_el141 : elemOfSlice Tryd.prog 141 = none := by kernel_rfl
theorem am_ze141 : zeroCellsAV Tryd.prog 141 = some [.lit (.int .u64 0), .lit (.int .u64 0), .lit (.int .u32 0), .lit (.int .u8 0), .lit (.int .u8 0), .lit (.int .u8 0), .lit (.int .u8 0), .lit (.nilFunc), .lit (.pointer none), .lit (.int .i32 0), .lit (.int .i32 0)] := by kernel_rfl
theorem am_fi141_0 : fieldOf Tryd.prog 141 0 = some (0, 12) := by kernel_rfl
theorem am_fi141_1 : fieldOf Tryd.prog 141 1 = some (1, 12) := by kernel_rfl
theorem am_fi141_2 : fieldOf Tryd.prog 141 2 = some (2, 104) := by kernel_rfl
theorem am_fi141_3 : fieldOf Tryd.prog 141 3 = some (3, 134) := by kernel_rfl
theorem am_fi141_4 : fieldOf Tryd.prog 141 4 = some (4, 5) := by kernel_rfl
theorem am_fi141_5 : fieldOf Tryd.prog 141 5 = some (5, 5) := by kernel_rfl
theorem am_fi141_6 : fieldOf Tryd.prog 141 6 = some (6, 135) := by kernel_rfl
theorem am_fi141_7 : fieldOf Tryd.prog 141 7 = some (7, 136) := by kernel_rfl
theorem am_fi141_8 : fieldOf Tryd.prog 141 8 = some (8, 137) := by kernel_rfl
theorem am_fi141_9 : fieldOf Tryd.prog 141 9 = some (9, 138) := by kernel_rfl
theorem am_fi141_10 : fieldOf Tryd.prog 141 10 = some (10, 139) := by kernel_rfl
theorem am_pl141 : placesL Tryd.prog 141 = some [(0, 1), (1, 1), (2, 1), (3, 1), (4, 1), (5, 1), (6, 1), (7, 1), (8, 1), (9, 1), (10, 1)] := by kernel_rfl

end Go.Proofs.YtdegjlhcchimbaaDoor

