/-
  Closed facts on the types of the program, as the abstract machine asks them.
  Conditions: none.
-/
import Derived.Test.YthpjfkmhpoeojaaDoorAmStep
import Derived.Test.YthpjfkmhpoeojaaDoorChecked
import Derived.KernelRfl
namespace Go.Proofs.YthpjfkmhpoeojaaDoor
open Go.AM
theorem am_ag1 : isAggT Tryd.prog 1 = some false := by kernel_rfl
theorem am_cl1 : Tryd.prog.cellsOf 1 = 1 := by kernel_rfl
theorem am_in2 : (Tryd.prog.info? 2).isSome = true := by kernel_rfl
theorem am_ag2 : isAggT Tryd.prog 2 = some false := by kernel_rfl
theorem am_cl2 : Tryd.prog.cellsOf 2 = 1 := by kernel_rfl
theorem am_by2 : Tryd.prog.bytesOf 2 = 8 := by kernel_rfl
theorem am_el2 : elemOfSlice Tryd.prog 2 = none := by kernel_rfl
theorem am_ze2 : zeroCellsAV Tryd.prog 2 = some [.lit (.int .i64 0)] := by kernel_rfl
theorem am_in3 : (Tryd.prog.info? 3).isSome = true := by kernel_rfl
theorem am_ag3 : isAggT Tryd.prog 3 = some false := by kernel_rfl
theorem am_cl3 : Tryd.prog.cellsOf 3 = 1 := by kernel_rfl
theorem am_by3 : Tryd.prog.bytesOf 3 = 8 := by kernel_rfl
theorem am_el3 : elemOfSlice Tryd.prog 3 = none := by kernel_rfl
theorem am_ze3 : zeroCellsAV Tryd.prog 3 = some [.lit (.int .i64 0)] := by kernel_rfl
theorem am_in4 : (Tryd.prog.info? 4).isSome = true := by kernel_rfl
theorem am_ag4 : isAggT Tryd.prog 4 = some false := by kernel_rfl
theorem am_cl4 : Tryd.prog.cellsOf 4 = 1 := by kernel_rfl
theorem am_by4 : Tryd.prog.bytesOf 4 = 1 := by kernel_rfl
theorem am_el4 : elemOfSlice Tryd.prog 4 = none := by kernel_rfl
theorem am_ze4 : zeroCellsAV Tryd.prog 4 = some [.lit (.bool false)] := by kernel_rfl
theorem am_in5 : (Tryd.prog.info? 5).isSome = true := by kernel_rfl
theorem am_ag5 : isAggT Tryd.prog 5 = some false := by kernel_rfl
theorem am_cl5 : Tryd.prog.cellsOf 5 = 1 := by kernel_rfl
theorem am_by5 : Tryd.prog.bytesOf 5 = 1 := by kernel_rfl
theorem am_el5 : elemOfSlice Tryd.prog 5 = none := by kernel_rfl
theorem am_ze5 : zeroCellsAV Tryd.prog 5 = some [.lit (.int .u8 0)] := by kernel_rfl
theorem am_in6 : (Tryd.prog.info? 6).isSome = true := by kernel_rfl
theorem am_ag6 : isAggT Tryd.prog 6 = some false := by kernel_rfl
theorem am_cl6 : Tryd.prog.cellsOf 6 = 1 := by kernel_rfl
theorem am_by6 : Tryd.prog.bytesOf 6 = 1 := by kernel_rfl
theorem am_el6 : elemOfSlice Tryd.prog 6 = none := by kernel_rfl
theorem am_ze6 : zeroCellsAV Tryd.prog 6 = some [.lit (.int .u8 0)] := by kernel_rfl
theorem am_in7 : (Tryd.prog.info? 7).isSome = true := by kernel_rfl
theorem am_ag7 : isAggT Tryd.prog 7 = some true := by kernel_rfl
theorem am_cl7 : Tryd.prog.cellsOf 7 = 4 := by kernel_rfl
theorem am_by7 : Tryd.prog.bytesOf 7 = 24 := by kernel_rfl
theorem am_el7 : elemOfSlice Tryd.prog 7 = none := by kernel_rfl
theorem am_ze7 : zeroCellsAV Tryd.prog 7 = some [.lit (.int .i64 0), .lit (.int .i64 0), .lit (.bool false), .lit (.int .u8 0)] := by kernel_rfl
theorem am_fi7_0 : fieldOf Tryd.prog 7 0 = some (0, 2) := by kernel_rfl
theorem am_fi7_1 : fieldOf Tryd.prog 7 1 = some (1, 3) := by kernel_rfl
theorem am_fi7_2 : fieldOf Tryd.prog 7 2 = some (2, 4) := by kernel_rfl
theorem am_fi7_3 : fieldOf Tryd.prog 7 3 = some (3, 6) := by kernel_rfl
theorem am_pl7 : placesL Tryd.prog 7 = some [(0, 1), (1, 1), (2, 1), (3, 1)] := by kernel_rfl
theorem am_in8 : (Tryd.prog.info? 8).isSome = true := by kernel_rfl
theorem am_ag8 : isAggT Tryd.prog 8 = some true := by kernel_rfl
theorem am_cl8 : Tryd.prog.cellsOf 8 = 4 := by kernel_rfl
theorem am_by8 : Tryd.prog.bytesOf 8 = 24 := by kernel_rfl
theorem am_el8 : elemOfSlice Tryd.prog 8 = none := by kernel_rfl
theorem am_ze8 : zeroCellsAV Tryd.prog 8 = some [.lit (.int .i64 0), .lit (.int .i64 0), .lit (.bool false), .lit (.int .u8 0)] := by kernel_rfl
theorem am_fi8_0 : fieldOf Tryd.prog 8 0 = some (0, 2) := by kernel_rfl
theorem am_fi8_1 : fieldOf Tryd.prog 8 1 = some (1, 3) := by kernel_rfl
theorem am_fi8_2 : fieldOf Tryd.prog 8 2 = some (2, 4) := by kernel_rfl
theorem am_fi8_3 : fieldOf Tryd.prog 8 3 = some (3, 6) := by kernel_rfl
theorem am_pl8 : placesL Tryd.prog 8 = some [(0, 1), (1, 1), (2, 1), (3, 1)] := by kernel_rfl
theorem am_in9 : (Tryd.prog.info? 9).isSome = true := by kernel_rfl
theorem am_ag9 : isAggT Tryd.prog 9 = some false := by kernel_rfl
theorem am_cl9 : Tryd.prog.cellsOf 9 = 1 := by kernel_rfl
theorem am_by9 : Tryd.prog.bytesOf 9 = 16 := by kernel_rfl
theorem am_el9 : elemOfSlice Tryd.prog 9 = none := by kernel_rfl
theorem am_ze9 : zeroCellsAV Tryd.prog 9 = some [.lit (.string ByteArray.empty)] := by kernel_rfl
theorem am_in10 : (Tryd.prog.info? 10).isSome = true := by kernel_rfl
theorem am_ag10 : isAggT Tryd.prog 10 = some false := by kernel_rfl
theorem am_cl10 : Tryd.prog.cellsOf 10 = 1 := by kernel_rfl
theorem am_by10 : Tryd.prog.bytesOf 10 = 16 := by kernel_rfl
theorem am_el10 : elemOfSlice Tryd.prog 10 = none := by kernel_rfl
theorem am_ze10 : zeroCellsAV Tryd.prog 10 = some [.lit (.string ByteArray.empty)] := by kernel_rfl
theorem am_in11 : (Tryd.prog.info? 11).isSome = true := by kernel_rfl
theorem am_ag11 : isAggT Tryd.prog 11 = some false := by kernel_rfl
theorem am_cl11 : Tryd.prog.cellsOf 11 = 1 := by kernel_rfl
theorem am_by11 : Tryd.prog.bytesOf 11 = 16 := by kernel_rfl
theorem am_el11 : elemOfSlice Tryd.prog 11 = none := by kernel_rfl
theorem am_ze11 : zeroCellsAV Tryd.prog 11 = some [.lit (.string ByteArray.empty)] := by kernel_rfl
theorem am_in12 : (Tryd.prog.info? 12).isSome = true := by kernel_rfl
theorem am_ag12 : isAggT Tryd.prog 12 = some false := by kernel_rfl
theorem am_cl12 : Tryd.prog.cellsOf 12 = 1 := by kernel_rfl
theorem am_by12 : Tryd.prog.bytesOf 12 = 8 := by kernel_rfl
theorem am_el12 : elemOfSlice Tryd.prog 12 = none := by kernel_rfl
theorem am_ze12 : zeroCellsAV Tryd.prog 12 = some [.lit (.int .u64 0)] := by kernel_rfl
theorem am_in13 : (Tryd.prog.info? 13).isSome = true := by kernel_rfl
theorem am_ag13 : isAggT Tryd.prog 13 = some true := by kernel_rfl
theorem am_cl13 : Tryd.prog.cellsOf 13 = 2 := by kernel_rfl
theorem am_by13 : Tryd.prog.bytesOf 13 = 24 := by kernel_rfl
theorem am_el13 : elemOfSlice Tryd.prog 13 = none := by kernel_rfl
theorem am_ze13 : zeroCellsAV Tryd.prog 13 = some [.lit (.string ByteArray.empty), .lit (.int .u64 0)] := by kernel_rfl
theorem am_fi13_0 : fieldOf Tryd.prog 13 0 = some (0, 9) := by kernel_rfl
theorem am_fi13_1 : fieldOf Tryd.prog 13 1 = some (1, 12) := by kernel_rfl
theorem am_pl13 : placesL Tryd.prog 13 = some [(0, 1), (1, 1)] := by kernel_rfl
theorem am_in14 : (Tryd.prog.info? 14).isSome = true := by kernel_rfl
theorem am_ag14 : isAggT Tryd.prog 14 = some true := by kernel_rfl
theorem am_cl14 : Tryd.prog.cellsOf 14 = 2 := by kernel_rfl
theorem am_by14 : Tryd.prog.bytesOf 14 = 24 := by kernel_rfl
theorem am_el14 : elemOfSlice Tryd.prog 14 = none := by kernel_rfl
theorem am_ze14 : zeroCellsAV Tryd.prog 14 = some [.lit (.string ByteArray.empty), .lit (.int .u64 0)] := by kernel_rfl
theorem am_fi14_0 : fieldOf Tryd.prog 14 0 = some (0, 9) := by kernel_rfl
theorem am_fi14_1 : fieldOf Tryd.prog 14 1 = some (1, 12) := by kernel_rfl
theorem am_pl14 : placesL Tryd.prog 14 = some [(0, 1), (1, 1)] := by kernel_rfl
theorem am_in15 : (Tryd.prog.info? 15).isSome = true := by kernel_rfl
theorem am_ag15 : isAggT Tryd.prog 15 = some false := by kernel_rfl
theorem am_cl15 : Tryd.prog.cellsOf 15 = 1 := by kernel_rfl
theorem am_by15 : Tryd.prog.bytesOf 15 = 8 := by kernel_rfl
theorem am_el15 : elemOfSlice Tryd.prog 15 = none := by kernel_rfl
theorem am_ze15 : zeroCellsAV Tryd.prog 15 = some [.lit (.pointer none)] := by kernel_rfl
theorem am_in16 : (Tryd.prog.info? 16).isSome = true := by kernel_rfl
theorem am_ag16 : isAggT Tryd.prog 16 = some false := by kernel_rfl
theorem am_cl16 : Tryd.prog.cellsOf 16 = 1 := by kernel_rfl
theorem am_by16 : Tryd.prog.bytesOf 16 = 8 := by kernel_rfl
theorem am_el16 : elemOfSlice Tryd.prog 16 = none := by kernel_rfl
theorem am_ze16 : zeroCellsAV Tryd.prog 16 = some [.lit (.pointer none)] := by kernel_rfl
theorem am_in17 : (Tryd.prog.info? 17).isSome = true := by kernel_rfl
theorem am_ag17 : isAggT Tryd.prog 17 = some false := by kernel_rfl
theorem am_cl17 : Tryd.prog.cellsOf 17 = 1 := by kernel_rfl
theorem am_by17 : Tryd.prog.bytesOf 17 = 8 := by kernel_rfl
theorem am_el17 : elemOfSlice Tryd.prog 17 = none := by kernel_rfl
theorem am_ze17 : zeroCellsAV Tryd.prog 17 = some [.lit (.pointer none)] := by kernel_rfl
theorem am_in18 : (Tryd.prog.info? 18).isSome = true := by kernel_rfl
theorem am_ag18 : isAggT Tryd.prog 18 = some true := by kernel_rfl
theorem am_cl18 : Tryd.prog.cellsOf 18 = 1 := by kernel_rfl
theorem am_by18 : Tryd.prog.bytesOf 18 = 8 := by kernel_rfl
theorem am_el18 : elemOfSlice Tryd.prog 18 = none := by kernel_rfl
theorem am_ze18 : zeroCellsAV Tryd.prog 18 = some [.lit (.pointer none)] := by kernel_rfl
theorem am_fi18_0 : fieldOf Tryd.prog 18 0 = some (0, 17) := by kernel_rfl
theorem am_pl18 : placesL Tryd.prog 18 = some [(0, 1)] := by kernel_rfl
theorem am_in19 : (Tryd.prog.info? 19).isSome = true := by kernel_rfl
theorem am_ag19 : isAggT Tryd.prog 19 = some true := by kernel_rfl
theorem am_cl19 : Tryd.prog.cellsOf 19 = 1 := by kernel_rfl
theorem am_by19 : Tryd.prog.bytesOf 19 = 8 := by kernel_rfl
theorem am_el19 : elemOfSlice Tryd.prog 19 = none := by kernel_rfl
theorem am_ze19 : zeroCellsAV Tryd.prog 19 = some [.lit (.pointer none)] := by kernel_rfl
theorem am_fi19_0 : fieldOf Tryd.prog 19 0 = some (0, 17) := by kernel_rfl
theorem am_pl19 : placesL Tryd.prog 19 = some [(0, 1)] := by kernel_rfl
theorem am_ag20 : isAggT Tryd.prog 20 = some false := by kernel_rfl
theorem am_cl20 : Tryd.prog.cellsOf 20 = 1 := by kernel_rfl
theorem am_in21 : (Tryd.prog.info? 21).isSome = true := by kernel_rfl
theorem am_ag21 : isAggT Tryd.prog 21 = some false := by kernel_rfl
theorem am_cl21 : Tryd.prog.cellsOf 21 = 1 := by kernel_rfl
theorem am_by21 : Tryd.prog.bytesOf 21 = 4 := by kernel_rfl
theorem am_el21 : elemOfSlice Tryd.prog 21 = none := by kernel_rfl
theorem am_ze21 : zeroCellsAV Tryd.prog 21 = some [.lit (.int .i32 0)] := by kernel_rfl
theorem am_in22 : (Tryd.prog.info? 22).isSome = true := by kernel_rfl
theorem am_ag22 : isAggT Tryd.prog 22 = some false := by kernel_rfl
theorem am_cl22 : Tryd.prog.cellsOf 22 = 1 := by kernel_rfl
theorem am_by22 : Tryd.prog.bytesOf 22 = 24 := by kernel_rfl
theorem am_el22 : elemOfSlice Tryd.prog 22 = some 71 := by kernel_rfl
theorem am_ze22 : zeroCellsAV Tryd.prog 22 = some [.lit (.slice none 0 0)] := by kernel_rfl
theorem am_in23 : (Tryd.prog.info? 23).isSome = true := by kernel_rfl
theorem am_ag23 : isAggT Tryd.prog 23 = some false := by kernel_rfl
theorem am_cl23 : Tryd.prog.cellsOf 23 = 1 := by kernel_rfl
theorem am_by23 : Tryd.prog.bytesOf 23 = 24 := by kernel_rfl
theorem am_el23 : elemOfSlice Tryd.prog 23 = some 67 := by kernel_rfl
theorem am_ze23 : zeroCellsAV Tryd.prog 23 = some [.lit (.slice none 0 0)] := by kernel_rfl
theorem am_ag24 : isAggT Tryd.prog 24 = some false := by kernel_rfl
theorem am_cl24 : Tryd.prog.cellsOf 24 = 1 := by kernel_rfl
theorem am_ag25 : isAggT Tryd.prog 25 = some false := by kernel_rfl
theorem am_cl25 : Tryd.prog.cellsOf 25 = 1 := by kernel_rfl
theorem am_ag26 : isAggT Tryd.prog 26 = some false := by kernel_rfl
theorem am_cl26 : Tryd.prog.cellsOf 26 = 1 := by kernel_rfl
theorem am_in27 : (Tryd.prog.info? 27).isSome = true := by kernel_rfl
theorem am_ag27 : isAggT Tryd.prog 27 = some false := by kernel_rfl
theorem am_cl27 : Tryd.prog.cellsOf 27 = 1 := by kernel_rfl
theorem am_by27 : Tryd.prog.bytesOf 27 = 8 := by kernel_rfl
theorem am_el27 : elemOfSlice Tryd.prog 27 = none := by kernel_rfl
theorem am_ze27 : zeroCellsAV Tryd.prog 27 = some [.lit (.pointer none)] := by kernel_rfl
theorem am_in28 : (Tryd.prog.info? 28).isSome = true := by kernel_rfl
theorem am_ag28 : isAggT Tryd.prog 28 = some false := by kernel_rfl
theorem am_cl28 : Tryd.prog.cellsOf 28 = 1 := by kernel_rfl
theorem am_by28 : Tryd.prog.bytesOf 28 = 24 := by kernel_rfl
theorem am_el28 : elemOfSlice Tryd.prog 28 = some 9 := by kernel_rfl
theorem am_ze28 : zeroCellsAV Tryd.prog 28 = some [.lit (.slice none 0 0)] := by kernel_rfl
theorem am_ag30 : isAggT Tryd.prog 30 = some false := by kernel_rfl
theorem am_cl30 : Tryd.prog.cellsOf 30 = 1 := by kernel_rfl
theorem am_in31 : (Tryd.prog.info? 31).isSome = true := by kernel_rfl
theorem am_ag31 : isAggT Tryd.prog 31 = some false := by kernel_rfl
theorem am_cl31 : Tryd.prog.cellsOf 31 = 1 := by kernel_rfl
theorem am_by31 : Tryd.prog.bytesOf 31 = 24 := by kernel_rfl
theorem am_el31 : elemOfSlice Tryd.prog 31 = some 38 := by kernel_rfl
theorem am_ze31 : zeroCellsAV Tryd.prog 31 = some [.lit (.slice none 0 0)] := by kernel_rfl
theorem am_ag32 : isAggT Tryd.prog 32 = some false := by kernel_rfl
theorem am_cl32 : Tryd.prog.cellsOf 32 = 1 := by kernel_rfl
theorem am_in33 : (Tryd.prog.info? 33).isSome = true := by kernel_rfl
theorem am_ag33 : isAggT Tryd.prog 33 = some false := by kernel_rfl
theorem am_cl33 : Tryd.prog.cellsOf 33 = 1 := by kernel_rfl
theorem am_by33 : Tryd.prog.bytesOf 33 = 8 := by kernel_rfl
theorem am_el33 : elemOfSlice Tryd.prog 33 = none := by kernel_rfl
theorem am_ze33 : zeroCellsAV Tryd.prog 33 = some [.lit (.int .i64 0)] := by kernel_rfl
theorem am_ag35 : isAggT Tryd.prog 35 = some false := by kernel_rfl
theorem am_cl35 : Tryd.prog.cellsOf 35 = 1 := by kernel_rfl
theorem am_ag36 : isAggT Tryd.prog 36 = some false := by kernel_rfl
theorem am_cl36 : Tryd.prog.cellsOf 36 = 1 := by kernel_rfl
theorem am_in37 : (Tryd.prog.info? 37).isSome = true := by kernel_rfl
theorem am_ag37 : isAggT Tryd.prog 37 = some true := by kernel_rfl
theorem am_cl37 : Tryd.prog.cellsOf 37 = 4 := by kernel_rfl
theorem am_by37 : Tryd.prog.bytesOf 37 = 48 := by kernel_rfl
theorem am_el37 : elemOfSlice Tryd.prog 37 = none := by kernel_rfl
theorem am_ze37 : zeroCellsAV Tryd.prog 37 = some [.lit (.string ByteArray.empty), .lit (.string ByteArray.empty), .lit (.int .i64 0), .lit (.int .i64 0)] := by kernel_rfl
theorem am_fi37_0 : fieldOf Tryd.prog 37 0 = some (0, 9) := by kernel_rfl
theorem am_fi37_1 : fieldOf Tryd.prog 37 1 = some (1, 9) := by kernel_rfl
theorem am_fi37_2 : fieldOf Tryd.prog 37 2 = some (2, 3) := by kernel_rfl
theorem am_fi37_3 : fieldOf Tryd.prog 37 3 = some (3, 3) := by kernel_rfl
theorem am_pl37 : placesL Tryd.prog 37 = some [(0, 1), (1, 1), (2, 1), (3, 1)] := by kernel_rfl
theorem am_in38 : (Tryd.prog.info? 38).isSome = true := by kernel_rfl
theorem am_ag38 : isAggT Tryd.prog 38 = some true := by kernel_rfl
theorem am_cl38 : Tryd.prog.cellsOf 38 = 4 := by kernel_rfl
theorem am_by38 : Tryd.prog.bytesOf 38 = 48 := by kernel_rfl
theorem am_el38 : elemOfSlice Tryd.prog 38 = none := by kernel_rfl
theorem am_ze38 : zeroCellsAV Tryd.prog 38 = some [.lit (.string ByteArray.empty), .lit (.string ByteArray.empty), .lit (.int .i64 0), .lit (.int .i64 0)] := by kernel_rfl
theorem am_fi38_0 : fieldOf Tryd.prog 38 0 = some (0, 9) := by kernel_rfl
theorem am_fi38_1 : fieldOf Tryd.prog 38 1 = some (1, 9) := by kernel_rfl
theorem am_fi38_2 : fieldOf Tryd.prog 38 2 = some (2, 3) := by kernel_rfl
theorem am_fi38_3 : fieldOf Tryd.prog 38 3 = some (3, 3) := by kernel_rfl
theorem am_pl38 : placesL Tryd.prog 38 = some [(0, 1), (1, 1), (2, 1), (3, 1)] := by kernel_rfl
theorem am_ag39 : isAggT Tryd.prog 39 = some false := by kernel_rfl
theorem am_cl39 : Tryd.prog.cellsOf 39 = 1 := by kernel_rfl
theorem am_ag40 : isAggT Tryd.prog 40 = some false := by kernel_rfl
theorem am_cl40 : Tryd.prog.cellsOf 40 = 1 := by kernel_rfl
theorem am_ag41 : isAggT Tryd.prog 41 = some false := by kernel_rfl
theorem am_cl41 : Tryd.prog.cellsOf 41 = 1 := by kernel_rfl
theorem am_ag42 : isAggT Tryd.prog 42 = some false := by kernel_rfl
theorem am_cl42 : Tryd.prog.cellsOf 42 = 1 := by kernel_rfl
theorem am_ag43 : isAggT Tryd.prog 43 = some false := by kernel_rfl
theorem am_cl43 : Tryd.prog.cellsOf 43 = 1 := by kernel_rfl
theorem am_ag45 : isAggT Tryd.prog 45 = some false := by kernel_rfl
theorem am_cl45 : Tryd.prog.cellsOf 45 = 1 := by kernel_rfl
theorem am_ag46 : isAggT Tryd.prog 46 = some false := by kernel_rfl
theorem am_cl46 : Tryd.prog.cellsOf 46 = 1 := by kernel_rfl
theorem am_ag47 : isAggT Tryd.prog 47 = some false := by kernel_rfl
theorem am_cl47 : Tryd.prog.cellsOf 47 = 1 := by kernel_rfl
theorem am_in48 : (Tryd.prog.info? 48).isSome = true := by kernel_rfl
theorem am_ag48 : isAggT Tryd.prog 48 = some true := by kernel_rfl
theorem am_cl48 : Tryd.prog.cellsOf 48 = 2 := by kernel_rfl
theorem am_by48 : Tryd.prog.bytesOf 48 = 48 := by kernel_rfl
theorem am_el48 : elemOfSlice Tryd.prog 48 = none := by kernel_rfl
theorem am_ze48 : zeroCellsAV Tryd.prog 48 = some [.lit (.slice none 0 0), .lit (.slice none 0 0)] := by kernel_rfl
theorem am_ar48 : arrOf Tryd.prog 48 = some (2, 23) := by kernel_rfl
theorem am_pn48 : placesL Tryd.prog 48 = none := by kernel_rfl
theorem am_in49 : (Tryd.prog.info? 49).isSome = true := by kernel_rfl
theorem am_ag49 : isAggT Tryd.prog 49 = some false := by kernel_rfl
theorem am_cl49 : Tryd.prog.cellsOf 49 = 1 := by kernel_rfl
theorem am_by49 : Tryd.prog.bytesOf 49 = 24 := by kernel_rfl
theorem am_el49 : elemOfSlice Tryd.prog 49 = some 48 := by kernel_rfl
theorem am_ze49 : zeroCellsAV Tryd.prog 49 = some [.lit (.slice none 0 0)] := by kernel_rfl
theorem am_in50 : (Tryd.prog.info? 50).isSome = true := by kernel_rfl
theorem am_ag50 : isAggT Tryd.prog 50 = some false := by kernel_rfl
theorem am_cl50 : Tryd.prog.cellsOf 50 = 1 := by kernel_rfl
theorem am_by50 : Tryd.prog.bytesOf 50 = 24 := by kernel_rfl
theorem am_el50 : elemOfSlice Tryd.prog 50 = some 96 := by kernel_rfl
theorem am_ze50 : zeroCellsAV Tryd.prog 50 = some [.lit (.slice none 0 0)] := by kernel_rfl
theorem am_ag52 : isAggT Tryd.prog 52 = some false := by kernel_rfl
theorem am_cl52 : Tryd.prog.cellsOf 52 = 1 := by kernel_rfl
theorem am_ag53 : isAggT Tryd.prog 53 = some false := by kernel_rfl
theorem am_cl53 : Tryd.prog.cellsOf 53 = 1 := by kernel_rfl
theorem am_ag55 : isAggT Tryd.prog 55 = some false := by kernel_rfl
theorem am_cl55 : Tryd.prog.cellsOf 55 = 1 := by kernel_rfl
theorem am_ag56 : isAggT Tryd.prog 56 = some false := by kernel_rfl
theorem am_cl56 : Tryd.prog.cellsOf 56 = 1 := by kernel_rfl
theorem am_ag57 : isAggT Tryd.prog 57 = some false := by kernel_rfl
theorem am_cl57 : Tryd.prog.cellsOf 57 = 1 := by kernel_rfl
theorem am_ag58 : isAggT Tryd.prog 58 = some false := by kernel_rfl
theorem am_cl58 : Tryd.prog.cellsOf 58 = 1 := by kernel_rfl
theorem am_ag60 : isAggT Tryd.prog 60 = some false := by kernel_rfl
theorem am_cl60 : Tryd.prog.cellsOf 60 = 1 := by kernel_rfl
theorem am_ag61 : isAggT Tryd.prog 61 = some false := by kernel_rfl
theorem am_cl61 : Tryd.prog.cellsOf 61 = 1 := by kernel_rfl
theorem am_ag62 : isAggT Tryd.prog 62 = some false := by kernel_rfl
theorem am_cl62 : Tryd.prog.cellsOf 62 = 1 := by kernel_rfl
theorem am_ag63 : isAggT Tryd.prog 63 = some false := by kernel_rfl
theorem am_cl63 : Tryd.prog.cellsOf 63 = 1 := by kernel_rfl
theorem am_ag64 : isAggT Tryd.prog 64 = some false := by kernel_rfl
theorem am_cl64 : Tryd.prog.cellsOf 64 = 1 := by kernel_rfl
theorem am_in65 : (Tryd.prog.info? 65).isSome = true := by kernel_rfl
theorem am_ag65 : isAggT Tryd.prog 65 = some false := by kernel_rfl
theorem am_cl65 : Tryd.prog.cellsOf 65 = 1 := by kernel_rfl
theorem am_by65 : Tryd.prog.bytesOf 65 = 24 := by kernel_rfl
theorem am_el65 : elemOfSlice Tryd.prog 65 = some 3 := by kernel_rfl
theorem am_ze65 : zeroCellsAV Tryd.prog 65 = some [.lit (.slice none 0 0)] := by kernel_rfl
theorem am_in66 : (Tryd.prog.info? 66).isSome = true := by kernel_rfl
theorem am_ag66 : isAggT Tryd.prog 66 = some true := by kernel_rfl
theorem am_cl66 : Tryd.prog.cellsOf 66 = 5 := by kernel_rfl
theorem am_by66 : Tryd.prog.bytesOf 66 = 64 := by kernel_rfl
theorem am_el66 : elemOfSlice Tryd.prog 66 = none := by kernel_rfl
theorem am_ze66 : zeroCellsAV Tryd.prog 66 = some [.lit (.string ByteArray.empty), .lit (.int .i64 0), .lit (.int .i64 0), .lit (.int .i64 0), .lit (.slice none 0 0)] := by kernel_rfl
theorem am_fi66_0 : fieldOf Tryd.prog 66 0 = some (0, 9) := by kernel_rfl
theorem am_fi66_1 : fieldOf Tryd.prog 66 1 = some (1, 3) := by kernel_rfl
theorem am_fi66_2 : fieldOf Tryd.prog 66 2 = some (2, 3) := by kernel_rfl
theorem am_fi66_3 : fieldOf Tryd.prog 66 3 = some (3, 3) := by kernel_rfl
theorem am_fi66_4 : fieldOf Tryd.prog 66 4 = some (4, 65) := by kernel_rfl
theorem am_pl66 : placesL Tryd.prog 66 = some [(0, 1), (1, 1), (2, 1), (3, 1), (4, 1)] := by kernel_rfl
theorem am_in67 : (Tryd.prog.info? 67).isSome = true := by kernel_rfl
theorem am_ag67 : isAggT Tryd.prog 67 = some true := by kernel_rfl
theorem am_cl67 : Tryd.prog.cellsOf 67 = 5 := by kernel_rfl
theorem am_by67 : Tryd.prog.bytesOf 67 = 64 := by kernel_rfl
theorem am_el67 : elemOfSlice Tryd.prog 67 = none := by kernel_rfl
theorem am_ze67 : zeroCellsAV Tryd.prog 67 = some [.lit (.string ByteArray.empty), .lit (.int .i64 0), .lit (.int .i64 0), .lit (.int .i64 0), .lit (.slice none 0 0)] := by kernel_rfl
theorem am_fi67_0 : fieldOf Tryd.prog 67 0 = some (0, 9) := by kernel_rfl
theorem am_fi67_1 : fieldOf Tryd.prog 67 1 = some (1, 3) := by kernel_rfl
theorem am_fi67_2 : fieldOf Tryd.prog 67 2 = some (2, 3) := by kernel_rfl
theorem am_fi67_3 : fieldOf Tryd.prog 67 3 = some (3, 3) := by kernel_rfl
theorem am_fi67_4 : fieldOf Tryd.prog 67 4 = some (4, 65) := by kernel_rfl
theorem am_pl67 : placesL Tryd.prog 67 = some [(0, 1), (1, 1), (2, 1), (3, 1), (4, 1)] := by kernel_rfl
theorem am_ag68 : isAggT Tryd.prog 68 = some false := by kernel_rfl
theorem am_cl68 : Tryd.prog.cellsOf 68 = 1 := by kernel_rfl
theorem am_ag69 : isAggT Tryd.prog 69 = some false := by kernel_rfl
theorem am_cl69 : Tryd.prog.cellsOf 69 = 1 := by kernel_rfl
theorem am_in70 : (Tryd.prog.info? 70).isSome = true := by kernel_rfl
theorem am_ag70 : isAggT Tryd.prog 70 = some true := by kernel_rfl
theorem am_cl70 : Tryd.prog.cellsOf 70 = 6 := by kernel_rfl
theorem am_by70 : Tryd.prog.bytesOf 70 = 104 := by kernel_rfl
theorem am_el70 : elemOfSlice Tryd.prog 70 = none := by kernel_rfl
theorem am_ze70 : zeroCellsAV Tryd.prog 70 = some [.lit (.int .i64 0), .lit (.int .i64 0), .lit (.string ByteArray.empty), .lit (.slice none 0 0), .lit (.slice none 0 0), .lit (.slice none 0 0)] := by kernel_rfl
theorem am_fi70_0 : fieldOf Tryd.prog 70 0 = some (0, 3) := by kernel_rfl
theorem am_fi70_1 : fieldOf Tryd.prog 70 1 = some (1, 3) := by kernel_rfl
theorem am_fi70_2 : fieldOf Tryd.prog 70 2 = some (2, 9) := by kernel_rfl
theorem am_fi70_3 : fieldOf Tryd.prog 70 3 = some (3, 31) := by kernel_rfl
theorem am_fi70_4 : fieldOf Tryd.prog 70 4 = some (4, 23) := by kernel_rfl
theorem am_fi70_5 : fieldOf Tryd.prog 70 5 = some (5, 23) := by kernel_rfl
theorem am_pl70 : placesL Tryd.prog 70 = some [(0, 1), (1, 1), (2, 1), (3, 1), (4, 1), (5, 1)] := by kernel_rfl
theorem am_in71 : (Tryd.prog.info? 71).isSome = true := by kernel_rfl
theorem am_ag71 : isAggT Tryd.prog 71 = some true := by kernel_rfl
theorem am_cl71 : Tryd.prog.cellsOf 71 = 6 := by kernel_rfl
theorem am_by71 : Tryd.prog.bytesOf 71 = 104 := by kernel_rfl
theorem am_el71 : elemOfSlice Tryd.prog 71 = none := by kernel_rfl
theorem am_ze71 : zeroCellsAV Tryd.prog 71 = some [.lit (.int .i64 0), .lit (.int .i64 0), .lit (.string ByteArray.empty), .lit (.slice none 0 0), .lit (.slice none 0 0), .lit (.slice none 0 0)] := by kernel_rfl
theorem am_fi71_0 : fieldOf Tryd.prog 71 0 = some (0, 3) := by kernel_rfl
theorem am_fi71_1 : fieldOf Tryd.prog 71 1 = some (1, 3) := by kernel_rfl
theorem am_fi71_2 : fieldOf Tryd.prog 71 2 = some (2, 9) := by kernel_rfl
theorem am_fi71_3 : fieldOf Tryd.prog 71 3 = some (3, 31) := by kernel_rfl
theorem am_fi71_4 : fieldOf Tryd.prog 71 4 = some (4, 23) := by kernel_rfl
theorem am_fi71_5 : fieldOf Tryd.prog 71 5 = some (5, 23) := by kernel_rfl
theorem am_pl71 : placesL Tryd.prog 71 = some [(0, 1), (1, 1), (2, 1), (3, 1), (4, 1), (5, 1)] := by kernel_rfl
theorem am_ag72 : isAggT Tryd.prog 72 = some false := by kernel_rfl
theorem am_cl72 : Tryd.prog.cellsOf 72 = 1 := by kernel_rfl
theorem am_ag73 : isAggT Tryd.prog 73 = some false := by kernel_rfl
theorem am_cl73 : Tryd.prog.cellsOf 73 = 1 := by kernel_rfl
theorem am_in74 : (Tryd.prog.info? 74).isSome = true := by kernel_rfl
theorem am_ag74 : isAggT Tryd.prog 74 = some false := by kernel_rfl
theorem am_cl74 : Tryd.prog.cellsOf 74 = 1 := by kernel_rfl
theorem am_by74 : Tryd.prog.bytesOf 74 = 24 := by kernel_rfl
theorem am_el74 : elemOfSlice Tryd.prog 74 = some 78 := by kernel_rfl
theorem am_ze74 : zeroCellsAV Tryd.prog 74 = some [.lit (.slice none 0 0)] := by kernel_rfl
theorem am_in75 : (Tryd.prog.info? 75).isSome = true := by kernel_rfl
theorem am_ag75 : isAggT Tryd.prog 75 = some true := by kernel_rfl
theorem am_cl75 : Tryd.prog.cellsOf 75 = 1 := by kernel_rfl
theorem am_by75 : Tryd.prog.bytesOf 75 = 24 := by kernel_rfl
theorem am_el75 : elemOfSlice Tryd.prog 75 = none := by kernel_rfl
theorem am_ze75 : zeroCellsAV Tryd.prog 75 = some [.lit (.slice none 0 0)] := by kernel_rfl
theorem am_fi75_0 : fieldOf Tryd.prog 75 0 = some (0, 74) := by kernel_rfl
theorem am_pl75 : placesL Tryd.prog 75 = some [(0, 1)] := by kernel_rfl
theorem am_in76 : (Tryd.prog.info? 76).isSome = true := by kernel_rfl
theorem am_ag76 : isAggT Tryd.prog 76 = some true := by kernel_rfl
theorem am_cl76 : Tryd.prog.cellsOf 76 = 1 := by kernel_rfl
theorem am_by76 : Tryd.prog.bytesOf 76 = 24 := by kernel_rfl
theorem am_el76 : elemOfSlice Tryd.prog 76 = none := by kernel_rfl
theorem am_ze76 : zeroCellsAV Tryd.prog 76 = some [.lit (.slice none 0 0)] := by kernel_rfl
theorem am_fi76_0 : fieldOf Tryd.prog 76 0 = some (0, 74) := by kernel_rfl
theorem am_pl76 : placesL Tryd.prog 76 = some [(0, 1)] := by kernel_rfl
theorem am_in77 : (Tryd.prog.info? 77).isSome = true := by kernel_rfl
theorem am_ag77 : isAggT Tryd.prog 77 = some true := by kernel_rfl
theorem am_cl77 : Tryd.prog.cellsOf 77 = 5 := by kernel_rfl
theorem am_by77 : Tryd.prog.bytesOf 77 = 56 := by kernel_rfl
theorem am_el77 : elemOfSlice Tryd.prog 77 = none := by kernel_rfl
theorem am_ze77 : zeroCellsAV Tryd.prog 77 = some [.lit (.string ByteArray.empty), .lit (.string ByteArray.empty), .lit (.int .i64 0), .lit (.int .i64 0), .lit (.bool false)] := by kernel_rfl
theorem am_fi77_0 : fieldOf Tryd.prog 77 0 = some (0, 38) := by kernel_rfl
theorem am_fi77_1 : fieldOf Tryd.prog 77 1 = some (4, 4) := by kernel_rfl
theorem am_pl77 : placesL Tryd.prog 77 = some [(0, 4), (4, 1)] := by kernel_rfl
theorem am_in78 : (Tryd.prog.info? 78).isSome = true := by kernel_rfl
theorem am_ag78 : isAggT Tryd.prog 78 = some true := by kernel_rfl
theorem am_cl78 : Tryd.prog.cellsOf 78 = 5 := by kernel_rfl
theorem am_by78 : Tryd.prog.bytesOf 78 = 56 := by kernel_rfl
theorem am_el78 : elemOfSlice Tryd.prog 78 = none := by kernel_rfl
theorem am_ze78 : zeroCellsAV Tryd.prog 78 = some [.lit (.string ByteArray.empty), .lit (.string ByteArray.empty), .lit (.int .i64 0), .lit (.int .i64 0), .lit (.bool false)] := by kernel_rfl
theorem am_fi78_0 : fieldOf Tryd.prog 78 0 = some (0, 38) := by kernel_rfl
theorem am_fi78_1 : fieldOf Tryd.prog 78 1 = some (4, 4) := by kernel_rfl
theorem am_pl78 : placesL Tryd.prog 78 = some [(0, 4), (4, 1)] := by kernel_rfl
theorem am_ag79 : isAggT Tryd.prog 79 = some false := by kernel_rfl
theorem am_cl79 : Tryd.prog.cellsOf 79 = 1 := by kernel_rfl
theorem am_ag80 : isAggT Tryd.prog 80 = some false := by kernel_rfl
theorem am_cl80 : Tryd.prog.cellsOf 80 = 1 := by kernel_rfl
theorem am_ag81 : isAggT Tryd.prog 81 = some false := by kernel_rfl
theorem am_cl81 : Tryd.prog.cellsOf 81 = 1 := by kernel_rfl
theorem am_in82 : (Tryd.prog.info? 82).isSome = true := by kernel_rfl
theorem am_ag82 : isAggT Tryd.prog 82 = some true := by kernel_rfl
theorem am_cl82 : Tryd.prog.cellsOf 82 = 0 := by kernel_rfl
theorem am_by82 : Tryd.prog.bytesOf 82 = 0 := by kernel_rfl
theorem am_el82 : elemOfSlice Tryd.prog 82 = none := by kernel_rfl
theorem am_ze82 : zeroCellsAV Tryd.prog 82 = some [] := by kernel_rfl
theorem am_pl82 : placesL Tryd.prog 82 = some [] := by kernel_rfl
theorem am_ag83 : isAggT Tryd.prog 83 = some false := by kernel_rfl
theorem am_cl83 : Tryd.prog.cellsOf 83 = 1 := by kernel_rfl
theorem am_ag84 : isAggT Tryd.prog 84 = some false := by kernel_rfl
theorem am_cl84 : Tryd.prog.cellsOf 84 = 1 := by kernel_rfl
theorem am_ag85 : isAggT Tryd.prog 85 = some false := by kernel_rfl
theorem am_cl85 : Tryd.prog.cellsOf 85 = 1 := by kernel_rfl
theorem am_in86 : (Tryd.prog.info? 86).isSome = true := by kernel_rfl
theorem am_ag86 : isAggT Tryd.prog 86 = some false := by kernel_rfl
theorem am_cl86 : Tryd.prog.cellsOf 86 = 1 := by kernel_rfl
theorem am_by86 : Tryd.prog.bytesOf 86 = 8 := by kernel_rfl
theorem am_el86 : elemOfSlice Tryd.prog 86 = none := by kernel_rfl
theorem am_ze86 : zeroCellsAV Tryd.prog 86 = some [.lit (.pointer none)] := by kernel_rfl
theorem am_ag88 : isAggT Tryd.prog 88 = some false := by kernel_rfl
theorem am_cl88 : Tryd.prog.cellsOf 88 = 1 := by kernel_rfl
theorem am_ag89 : isAggT Tryd.prog 89 = some false := by kernel_rfl
theorem am_cl89 : Tryd.prog.cellsOf 89 = 1 := by kernel_rfl
theorem am_ag90 : isAggT Tryd.prog 90 = some false := by kernel_rfl
theorem am_cl90 : Tryd.prog.cellsOf 90 = 1 := by kernel_rfl
theorem am_ag91 : isAggT Tryd.prog 91 = some false := by kernel_rfl
theorem am_cl91 : Tryd.prog.cellsOf 91 = 1 := by kernel_rfl
theorem am_ag92 : isAggT Tryd.prog 92 = some false := by kernel_rfl
theorem am_cl92 : Tryd.prog.cellsOf 92 = 1 := by kernel_rfl
theorem am_ag93 : isAggT Tryd.prog 93 = some false := by kernel_rfl
theorem am_cl93 : Tryd.prog.cellsOf 93 = 1 := by kernel_rfl
theorem am_mt94 : mapTy Tryd.prog 94 = some (.string, some (.int .i64 0)) := by kernel_rfl
theorem am_em94 : elemOfSlice Tryd.prog 94 = none := by kernel_rfl
theorem am_ag94 : isAggT Tryd.prog 94 = some false := by kernel_rfl
theorem am_cl94 : Tryd.prog.cellsOf 94 = 1 := by kernel_rfl
theorem am_in95 : (Tryd.prog.info? 95).isSome = true := by kernel_rfl
theorem am_ag95 : isAggT Tryd.prog 95 = some true := by kernel_rfl
theorem am_cl95 : Tryd.prog.cellsOf 95 = 2 := by kernel_rfl
theorem am_by95 : Tryd.prog.bytesOf 95 = 24 := by kernel_rfl
theorem am_el95 : elemOfSlice Tryd.prog 95 = none := by kernel_rfl
theorem am_ze95 : zeroCellsAV Tryd.prog 95 = some [.lit (.int .i64 0), .lit (.string ByteArray.empty)] := by kernel_rfl
theorem am_fi95_0 : fieldOf Tryd.prog 95 0 = some (0, 3) := by kernel_rfl
theorem am_fi95_1 : fieldOf Tryd.prog 95 1 = some (1, 9) := by kernel_rfl
theorem am_pl95 : placesL Tryd.prog 95 = some [(0, 1), (1, 1)] := by kernel_rfl
theorem am_in96 : (Tryd.prog.info? 96).isSome = true := by kernel_rfl
theorem am_ag96 : isAggT Tryd.prog 96 = some true := by kernel_rfl
theorem am_cl96 : Tryd.prog.cellsOf 96 = 2 := by kernel_rfl
theorem am_by96 : Tryd.prog.bytesOf 96 = 24 := by kernel_rfl
theorem am_el96 : elemOfSlice Tryd.prog 96 = none := by kernel_rfl
theorem am_ze96 : zeroCellsAV Tryd.prog 96 = some [.lit (.int .i64 0), .lit (.string ByteArray.empty)] := by kernel_rfl
theorem am_fi96_0 : fieldOf Tryd.prog 96 0 = some (0, 3) := by kernel_rfl
theorem am_fi96_1 : fieldOf Tryd.prog 96 1 = some (1, 9) := by kernel_rfl
theorem am_pl96 : placesL Tryd.prog 96 = some [(0, 1), (1, 1)] := by kernel_rfl
theorem am_mt98 : mapTy Tryd.prog 98 = some (.string, some (.bool false)) := by kernel_rfl
theorem am_em98 : elemOfSlice Tryd.prog 98 = none := by kernel_rfl
theorem am_ag98 : isAggT Tryd.prog 98 = some false := by kernel_rfl
theorem am_cl98 : Tryd.prog.cellsOf 98 = 1 := by kernel_rfl
theorem am_ag99 : isAggT Tryd.prog 99 = some false := by kernel_rfl
theorem am_cl99 : Tryd.prog.cellsOf 99 = 1 := by kernel_rfl
theorem am_ag100 : isAggT Tryd.prog 100 = some false := by kernel_rfl
theorem am_cl100 : Tryd.prog.cellsOf 100 = 1 := by kernel_rfl
theorem am_ag101 : isAggT Tryd.prog 101 = some false := by kernel_rfl
theorem am_cl101 : Tryd.prog.cellsOf 101 = 1 := by kernel_rfl
theorem am_in102 : (Tryd.prog.info? 102).isSome = true := by kernel_rfl
theorem am_ag102 : isAggT Tryd.prog 102 = some false := by kernel_rfl
theorem am_cl102 : Tryd.prog.cellsOf 102 = 1 := by kernel_rfl
theorem am_by102 : Tryd.prog.bytesOf 102 = 8 := by kernel_rfl
theorem am_el102 : elemOfSlice Tryd.prog 102 = none := by kernel_rfl
theorem am_ze102 : zeroCellsAV Tryd.prog 102 = some [.lit (.int .u64 0)] := by kernel_rfl
theorem am_ag103 : isAggT Tryd.prog 103 = some false := by kernel_rfl
theorem am_cl103 : Tryd.prog.cellsOf 103 = 1 := by kernel_rfl
theorem am_ag104 : isAggT Tryd.prog 104 = some false := by kernel_rfl
theorem am_cl104 : Tryd.prog.cellsOf 104 = 1 := by kernel_rfl
theorem am_ag106 : isAggT Tryd.prog 106 = some false := by kernel_rfl
theorem am_cl106 : Tryd.prog.cellsOf 106 = 1 := by kernel_rfl
theorem am_ag107 : isAggT Tryd.prog 107 = some false := by kernel_rfl
theorem am_cl107 : Tryd.prog.cellsOf 107 = 1 := by kernel_rfl
theorem am_ag108 : isAggT Tryd.prog 108 = some false := by kernel_rfl
theorem am_cl108 : Tryd.prog.cellsOf 108 = 1 := by kernel_rfl
theorem am_ag109 : isAggT Tryd.prog 109 = some false := by kernel_rfl
theorem am_cl109 : Tryd.prog.cellsOf 109 = 1 := by kernel_rfl
theorem am_ag110 : isAggT Tryd.prog 110 = some false := by kernel_rfl
theorem am_cl110 : Tryd.prog.cellsOf 110 = 1 := by kernel_rfl
theorem am_ag111 : isAggT Tryd.prog 111 = some false := by kernel_rfl
theorem am_cl111 : Tryd.prog.cellsOf 111 = 1 := by kernel_rfl
theorem am_ag112 : isAggT Tryd.prog 112 = some false := by kernel_rfl
theorem am_cl112 : Tryd.prog.cellsOf 112 = 1 := by kernel_rfl
theorem am_ag113 : isAggT Tryd.prog 113 = some false := by kernel_rfl
theorem am_cl113 : Tryd.prog.cellsOf 113 = 1 := by kernel_rfl
theorem am_in114 : (Tryd.prog.info? 114).isSome = true := by kernel_rfl
theorem am_ag114 : isAggT Tryd.prog 114 = some false := by kernel_rfl
theorem am_cl114 : Tryd.prog.cellsOf 114 = 1 := by kernel_rfl
theorem am_by114 : Tryd.prog.bytesOf 114 = 8 := by kernel_rfl
theorem am_el114 : elemOfSlice Tryd.prog 114 = none := by kernel_rfl
theorem am_ze114 : zeroCellsAV Tryd.prog 114 = some [.lit (.int .i64 0)] := by kernel_rfl
theorem am_ag116 : isAggT Tryd.prog 116 = some false := by kernel_rfl
theorem am_cl116 : Tryd.prog.cellsOf 116 = 1 := by kernel_rfl
theorem am_ag117 : isAggT Tryd.prog 117 = some false := by kernel_rfl
theorem am_cl117 : Tryd.prog.cellsOf 117 = 1 := by kernel_rfl
theorem am_ag118 : isAggT Tryd.prog 118 = some false := by kernel_rfl
theorem am_cl118 : Tryd.prog.cellsOf 118 = 1 := by kernel_rfl
theorem am_ag119 : isAggT Tryd.prog 119 = some false := by kernel_rfl
theorem am_cl119 : Tryd.prog.cellsOf 119 = 1 := by kernel_rfl
theorem am_ag120 : isAggT Tryd.prog 120 = some false := by kernel_rfl
theorem am_cl120 : Tryd.prog.cellsOf 120 = 1 := by kernel_rfl
theorem am_ag121 : isAggT Tryd.prog 121 = some false := by kernel_rfl
theorem am_cl121 : Tryd.prog.cellsOf 121 = 1 := by kernel_rfl
theorem am_in122 : (Tryd.prog.info? 122).isSome = true := by kernel_rfl
theorem am_ag122 : isAggT Tryd.prog 122 = some false := by kernel_rfl
theorem am_cl122 : Tryd.prog.cellsOf 122 = 1 := by kernel_rfl
theorem am_by122 : Tryd.prog.bytesOf 122 = 4 := by kernel_rfl
theorem am_el122 : elemOfSlice Tryd.prog 122 = none := by kernel_rfl
theorem am_ze122 : zeroCellsAV Tryd.prog 122 = some [.lit (.int .u32 0)] := by kernel_rfl
theorem am_ag123 : isAggT Tryd.prog 123 = some false := by kernel_rfl
theorem am_cl123 : Tryd.prog.cellsOf 123 = 1 := by kernel_rfl
theorem am_in124 : (Tryd.prog.info? 124).isSome = true := by kernel_rfl
theorem am_ag124 : isAggT Tryd.prog 124 = some false := by kernel_rfl
theorem am_cl124 : Tryd.prog.cellsOf 124 = 1 := by kernel_rfl
theorem am_by124 : Tryd.prog.bytesOf 124 = 8 := by kernel_rfl
theorem am_el124 : elemOfSlice Tryd.prog 124 = none := by kernel_rfl
theorem am_ze124 : zeroCellsAV Tryd.prog 124 = some [.lit (.int .u64 0)] := by kernel_rfl
theorem am_ag125 : isAggT Tryd.prog 125 = some false := by kernel_rfl
theorem am_cl125 : Tryd.prog.cellsOf 125 = 1 := by kernel_rfl
theorem am_ag126 : isAggT Tryd.prog 126 = some false := by kernel_rfl
theorem am_cl126 : Tryd.prog.cellsOf 126 = 1 := by kernel_rfl
theorem am_ag127 : isAggT Tryd.prog 127 = some false := by kernel_rfl
theorem am_cl127 : Tryd.prog.cellsOf 127 = 1 := by kernel_rfl
theorem am_ag128 : isAggT Tryd.prog 128 = some false := by kernel_rfl
theorem am_cl128 : Tryd.prog.cellsOf 128 = 1 := by kernel_rfl
theorem am_in129 : (Tryd.prog.info? 129).isSome = true := by kernel_rfl
theorem am_ag129 : isAggT Tryd.prog 129 = some true := by kernel_rfl
theorem am_cl129 : Tryd.prog.cellsOf 129 = 2 := by kernel_rfl
theorem am_by129 : Tryd.prog.bytesOf 129 = 16 := by kernel_rfl
theorem am_el129 : elemOfSlice Tryd.prog 129 = none := by kernel_rfl
theorem am_ze129 : zeroCellsAV Tryd.prog 129 = some [.lit (.int .i64 0), .lit (.int .i64 0)] := by kernel_rfl
theorem am_fi129_0 : fieldOf Tryd.prog 129 0 = some (0, 3) := by kernel_rfl
theorem am_fi129_1 : fieldOf Tryd.prog 129 1 = some (1, 3) := by kernel_rfl
theorem am_pl129 : placesL Tryd.prog 129 = some [(0, 1), (1, 1)] := by kernel_rfl
theorem am_in130 : (Tryd.prog.info? 130).isSome = true := by kernel_rfl
theorem am_ag130 : isAggT Tryd.prog 130 = some true := by kernel_rfl
theorem am_cl130 : Tryd.prog.cellsOf 130 = 2 := by kernel_rfl
theorem am_by130 : Tryd.prog.bytesOf 130 = 16 := by kernel_rfl
theorem am_el130 : elemOfSlice Tryd.prog 130 = none := by kernel_rfl
theorem am_ze130 : zeroCellsAV Tryd.prog 130 = some [.lit (.int .i64 0), .lit (.int .i64 0)] := by kernel_rfl
theorem am_fi130_0 : fieldOf Tryd.prog 130 0 = some (0, 3) := by kernel_rfl
theorem am_fi130_1 : fieldOf Tryd.prog 130 1 = some (1, 3) := by kernel_rfl
theorem am_pl130 : placesL Tryd.prog 130 = some [(0, 1), (1, 1)] := by kernel_rfl
theorem am_ag132 : isAggT Tryd.prog 132 = some false := by kernel_rfl
theorem am_cl132 : Tryd.prog.cellsOf 132 = 1 := by kernel_rfl
theorem am_ag133 : isAggT Tryd.prog 133 = some false := by kernel_rfl
theorem am_cl133 : Tryd.prog.cellsOf 133 = 1 := by kernel_rfl
theorem am_ag134 : isAggT Tryd.prog 134 = some false := by kernel_rfl
theorem am_cl134 : Tryd.prog.cellsOf 134 = 1 := by kernel_rfl
theorem am_ag135 : isAggT Tryd.prog 135 = some false := by kernel_rfl
theorem am_cl135 : Tryd.prog.cellsOf 135 = 1 := by kernel_rfl
theorem am_in136 : (Tryd.prog.info? 136).isSome = true := by kernel_rfl
theorem am_ag136 : isAggT Tryd.prog 136 = some false := by kernel_rfl
theorem am_cl136 : Tryd.prog.cellsOf 136 = 1 := by kernel_rfl
theorem am_by136 : Tryd.prog.bytesOf 136 = 8 := by kernel_rfl
theorem am_el136 : elemOfSlice Tryd.prog 136 = none := by kernel_rfl
theorem am_ze136 : zeroCellsAV Tryd.prog 136 = some [.lit (.int .u64 0)] := by kernel_rfl
theorem am_ag137 : isAggT Tryd.prog 137 = some false := by kernel_rfl
theorem am_cl137 : Tryd.prog.cellsOf 137 = 1 := by kernel_rfl
theorem am_ag138 : isAggT Tryd.prog 138 = some false := by kernel_rfl
theorem am_cl138 : Tryd.prog.cellsOf 138 = 1 := by kernel_rfl
theorem am_ag139 : isAggT Tryd.prog 139 = some false := by kernel_rfl
theorem am_cl139 : Tryd.prog.cellsOf 139 = 1 := by kernel_rfl
theorem am_in140 : (Tryd.prog.info? 140).isSome = true := by kernel_rfl
theorem am_ag140 : isAggT Tryd.prog 140 = some false := by kernel_rfl
theorem am_cl140 : Tryd.prog.cellsOf 140 = 1 := by kernel_rfl
theorem am_by140 : Tryd.prog.bytesOf 140 = 8 := by kernel_rfl
theorem am_el140 : elemOfSlice Tryd.prog 140 = none := by kernel_rfl
theorem am_ze140 : zeroCellsAV Tryd.prog 140 = some [.lit (.pointer none)] := by kernel_rfl
theorem am_ag141 : isAggT Tryd.prog 141 = some false := by kernel_rfl
theorem am_cl141 : Tryd.prog.cellsOf 141 = 1 := by kernel_rfl
theorem am_in142 : (Tryd.prog.info? 142).isSome = true := by kernel_rfl
theorem am_ag142 : isAggT Tryd.prog 142 = some false := by kernel_rfl
theorem am_cl142 : Tryd.prog.cellsOf 142 = 1 := by kernel_rfl
theorem am_by142 : Tryd.prog.bytesOf 142 = 24 := by kernel_rfl
theorem am_el142 : elemOfSlice Tryd.prog 142 = some 145 := by kernel_rfl
theorem am_ze142 : zeroCellsAV Tryd.prog 142 = some [.lit (.slice none 0 0)] := by kernel_rfl
theorem am_ag143 : isAggT Tryd.prog 143 = some false := by kernel_rfl
theorem am_cl143 : Tryd.prog.cellsOf 143 = 1 := by kernel_rfl
theorem am_in144 : (Tryd.prog.info? 144).isSome = true := by kernel_rfl
theorem am_ag144 : isAggT Tryd.prog 144 = some true := by kernel_rfl
theorem am_cl144 : Tryd.prog.cellsOf 144 = 2 := by kernel_rfl
theorem am_by144 : Tryd.prog.bytesOf 144 = 16 := by kernel_rfl
theorem am_el144 : elemOfSlice Tryd.prog 144 = none := by kernel_rfl
theorem am_ze144 : zeroCellsAV Tryd.prog 144 = some [.lit (.int .i64 0), .lit (.int .u8 0)] := by kernel_rfl
theorem am_fi144_0 : fieldOf Tryd.prog 144 0 = some (0, 3) := by kernel_rfl
theorem am_fi144_1 : fieldOf Tryd.prog 144 1 = some (1, 5) := by kernel_rfl
theorem am_pl144 : placesL Tryd.prog 144 = some [(0, 1), (1, 1)] := by kernel_rfl
theorem am_in145 : (Tryd.prog.info? 145).isSome = true := by kernel_rfl
theorem am_ag145 : isAggT Tryd.prog 145 = some true := by kernel_rfl
theorem am_cl145 : Tryd.prog.cellsOf 145 = 2 := by kernel_rfl
theorem am_by145 : Tryd.prog.bytesOf 145 = 16 := by kernel_rfl
theorem am_el145 : elemOfSlice Tryd.prog 145 = none := by kernel_rfl
theorem am_ze145 : zeroCellsAV Tryd.prog 145 = some [.lit (.int .i64 0), .lit (.int .u8 0)] := by kernel_rfl
theorem am_fi145_0 : fieldOf Tryd.prog 145 0 = some (0, 3) := by kernel_rfl
theorem am_fi145_1 : fieldOf Tryd.prog 145 1 = some (1, 5) := by kernel_rfl
theorem am_pl145 : placesL Tryd.prog 145 = some [(0, 1), (1, 1)] := by kernel_rfl
theorem am_ag146 : isAggT Tryd.prog 146 = some false := by kernel_rfl
theorem am_cl146 : Tryd.prog.cellsOf 146 = 1 := by kernel_rfl
theorem am_ag147 : isAggT Tryd.prog 147 = some false := by kernel_rfl
theorem am_cl147 : Tryd.prog.cellsOf 147 = 1 := by kernel_rfl
theorem am_in148 : (Tryd.prog.info? 148).isSome = true := by kernel_rfl
theorem am_ag148 : isAggT Tryd.prog 148 = some true := by kernel_rfl
theorem am_cl148 : Tryd.prog.cellsOf 148 = 24 := by kernel_rfl
theorem am_by148 : Tryd.prog.bytesOf 148 = 24 := by kernel_rfl
theorem am_el148 : elemOfSlice Tryd.prog 148 = none := by kernel_rfl
theorem am_ze148 : zeroCellsAV Tryd.prog 148 = some [.lit (.int .u8 0), .lit (.int .u8 0), .lit (.int .u8 0), .lit (.int .u8 0), .lit (.int .u8 0), .lit (.int .u8 0), .lit (.int .u8 0), .lit (.int .u8 0), .lit (.int .u8 0), .lit (.int .u8 0), .lit (.int .u8 0), .lit (.int .u8 0), .lit (.int .u8 0), .lit (.int .u8 0), .lit (.int .u8 0), .lit (.int .u8 0), .lit (.int .u8 0), .lit (.int .u8 0), .lit (.int .u8 0), .lit (.int .u8 0), .lit (.int .u8 0), .lit (.int .u8 0), .lit (.int .u8 0), .lit (.int .u8 0)] := by kernel_rfl
theorem am_ar148 : arrOf Tryd.prog 148 = some (24, 5) := by kernel_rfl
theorem am_pn148 : placesL Tryd.prog 148 = none := by kernel_rfl
theorem am_ag149 : isAggT Tryd.prog 149 = some false := by kernel_rfl
theorem am_cl149 : Tryd.prog.cellsOf 149 = 1 := by kernel_rfl
theorem am_in150 : (Tryd.prog.info? 150).isSome = true := by kernel_rfl
theorem am_ag150 : isAggT Tryd.prog 150 = some false := by kernel_rfl
theorem am_cl150 : Tryd.prog.cellsOf 150 = 1 := by kernel_rfl
theorem am_by150 : Tryd.prog.bytesOf 150 = 24 := by kernel_rfl
theorem am_el150 : elemOfSlice Tryd.prog 150 = some 5 := by kernel_rfl
theorem am_ze150 : zeroCellsAV Tryd.prog 150 = some [.lit (.slice none 0 0)] := by kernel_rfl
theorem am_ag152 : isAggT Tryd.prog 152 = some false := by kernel_rfl
theorem am_cl152 : Tryd.prog.cellsOf 152 = 1 := by kernel_rfl
theorem am_ag154 : isAggT Tryd.prog 154 = some false := by kernel_rfl
theorem am_cl154 : Tryd.prog.cellsOf 154 = 1 := by kernel_rfl
theorem am_ag155 : isAggT Tryd.prog 155 = some false := by kernel_rfl
theorem am_cl155 : Tryd.prog.cellsOf 155 = 1 := by kernel_rfl
theorem am_in156 : (Tryd.prog.info? 156).isSome = true := by kernel_rfl
theorem am_ag156 : isAggT Tryd.prog 156 = some false := by kernel_rfl
theorem am_cl156 : Tryd.prog.cellsOf 156 = 1 := by kernel_rfl
theorem am_by156 : Tryd.prog.bytesOf 156 = 8 := by kernel_rfl
theorem am_el156 : elemOfSlice Tryd.prog 156 = none := by kernel_rfl
theorem am_ze156 : zeroCellsAV Tryd.prog 156 = some [.lit (.pointer none)] := by kernel_rfl
theorem am_ag158 : isAggT Tryd.prog 158 = some false := by kernel_rfl
theorem am_cl158 : Tryd.prog.cellsOf 158 = 1 := by kernel_rfl
theorem am_ag159 : isAggT Tryd.prog 159 = some false := by kernel_rfl
theorem am_cl159 : Tryd.prog.cellsOf 159 = 1 := by kernel_rfl
theorem am_ag160 : isAggT Tryd.prog 160 = some false := by kernel_rfl
theorem am_cl160 : Tryd.prog.cellsOf 160 = 1 := by kernel_rfl
theorem am_ag161 : isAggT Tryd.prog 161 = some false := by kernel_rfl
theorem am_cl161 : Tryd.prog.cellsOf 161 = 1 := by kernel_rfl
theorem am_in162 : (Tryd.prog.info? 162).isSome = true := by kernel_rfl
theorem am_ag162 : isAggT Tryd.prog 162 = some true := by kernel_rfl
theorem am_cl162 : Tryd.prog.cellsOf 162 = 20 := by kernel_rfl
theorem am_by162 : Tryd.prog.bytesOf 162 = 160 := by kernel_rfl
theorem am_el162 : elemOfSlice Tryd.prog 162 = none := by kernel_rfl
theorem am_ze162 : zeroCellsAV Tryd.prog 162 = some [.lit (.int .u64 0), .lit (.int .u64 0), .lit (.int .u64 0), .lit (.int .u64 0), .lit (.int .u64 0), .lit (.int .u64 0), .lit (.int .u64 0), .lit (.int .u64 0), .lit (.int .u64 0), .lit (.int .u64 0), .lit (.int .u64 0), .lit (.int .u64 0), .lit (.int .u64 0), .lit (.int .u64 0), .lit (.int .u64 0), .lit (.int .u64 0), .lit (.int .u64 0), .lit (.int .u64 0), .lit (.int .u64 0), .lit (.int .u64 0)] := by kernel_rfl
theorem am_ar162 : arrOf Tryd.prog 162 = some (20, 124) := by kernel_rfl
theorem am_pn162 : placesL Tryd.prog 162 = none := by kernel_rfl
theorem am_in163 : (Tryd.prog.info? 163).isSome = true := by kernel_rfl
theorem am_ag163 : isAggT Tryd.prog 163 = some true := by kernel_rfl
theorem am_cl163 : Tryd.prog.cellsOf 163 = 65 := by kernel_rfl
theorem am_by163 : Tryd.prog.bytesOf 163 = 65 := by kernel_rfl
theorem am_el163 : elemOfSlice Tryd.prog 163 = none := by kernel_rfl
theorem am_ar163 : arrOf Tryd.prog 163 = some (65, 5) := by kernel_rfl
theorem am_pn163 : placesL Tryd.prog 163 = none := by kernel_rfl
theorem am_in164 : (Tryd.prog.info? 164).isSome = true := by kernel_rfl
theorem am_ag164 : isAggT Tryd.prog 164 = some true := by kernel_rfl
theorem am_cl164 : Tryd.prog.cellsOf 164 = 32 := by kernel_rfl
theorem am_by164 : Tryd.prog.bytesOf 164 = 32 := by kernel_rfl
theorem am_el164 : elemOfSlice Tryd.prog 164 = none := by kernel_rfl
theorem am_ze164 : zeroCellsAV Tryd.prog 164 = some [.lit (.int .u8 0), .lit (.int .u8 0), .lit (.int .u8 0), .lit (.int .u8 0), .lit (.int .u8 0), .lit (.int .u8 0), .lit (.int .u8 0), .lit (.int .u8 0), .lit (.int .u8 0), .lit (.int .u8 0), .lit (.int .u8 0), .lit (.int .u8 0), .lit (.int .u8 0), .lit (.int .u8 0), .lit (.int .u8 0), .lit (.int .u8 0), .lit (.int .u8 0), .lit (.int .u8 0), .lit (.int .u8 0), .lit (.int .u8 0), .lit (.int .u8 0), .lit (.int .u8 0), .lit (.int .u8 0), .lit (.int .u8 0), .lit (.int .u8 0), .lit (.int .u8 0), .lit (.int .u8 0), .lit (.int .u8 0), .lit (.int .u8 0), .lit (.int .u8 0), .lit (.int .u8 0), .lit (.int .u8 0)] := by kernel_rfl
theorem am_ar164 : arrOf Tryd.prog 164 = some (32, 5) := by kernel_rfl
theorem am_pn164 : placesL Tryd.prog 164 = none := by kernel_rfl
theorem am_in165 : (Tryd.prog.info? 165).isSome = true := by kernel_rfl
theorem am_ag165 : isAggT Tryd.prog 165 = some true := by kernel_rfl
theorem am_cl165 : Tryd.prog.cellsOf 165 = 64 := by kernel_rfl
theorem am_by165 : Tryd.prog.bytesOf 165 = 64 := by kernel_rfl
theorem am_el165 : elemOfSlice Tryd.prog 165 = none := by kernel_rfl
theorem am_ar165 : arrOf Tryd.prog 165 = some (64, 5) := by kernel_rfl
theorem am_pn165 : placesL Tryd.prog 165 = none := by kernel_rfl
theorem am_ag166 : isAggT Tryd.prog 166 = some false := by kernel_rfl
theorem am_cl166 : Tryd.prog.cellsOf 166 = 1 := by kernel_rfl
theorem am_in167 : (Tryd.prog.info? 167).isSome = true := by kernel_rfl
theorem am_ag167 : isAggT Tryd.prog 167 = some true := by kernel_rfl
theorem am_cl167 : Tryd.prog.cellsOf 167 = 4 := by kernel_rfl
theorem am_by167 : Tryd.prog.bytesOf 167 = 40 := by kernel_rfl
theorem am_el167 : elemOfSlice Tryd.prog 167 = none := by kernel_rfl
theorem am_ze167 : zeroCellsAV Tryd.prog 167 = some [.lit (.pointer none), .lit (.pointer none), .lit (.pointer none), .lit (.string ByteArray.empty)] := by kernel_rfl
theorem am_fi167_0 : fieldOf Tryd.prog 167 0 = some (0, 17) := by kernel_rfl
theorem am_fi167_1 : fieldOf Tryd.prog 167 1 = some (1, 17) := by kernel_rfl
theorem am_fi167_2 : fieldOf Tryd.prog 167 2 = some (2, 17) := by kernel_rfl
theorem am_fi167_3 : fieldOf Tryd.prog 167 3 = some (3, 9) := by kernel_rfl
theorem am_pl167 : placesL Tryd.prog 167 = some [(0, 1), (1, 1), (2, 1), (3, 1)] := by kernel_rfl
theorem am_in168 : (Tryd.prog.info? 168).isSome = true := by kernel_rfl
theorem am_ag168 : isAggT Tryd.prog 168 = some true := by kernel_rfl
theorem am_cl168 : Tryd.prog.cellsOf 168 = 4 := by kernel_rfl
theorem am_by168 : Tryd.prog.bytesOf 168 = 40 := by kernel_rfl
theorem am_el168 : elemOfSlice Tryd.prog 168 = none := by kernel_rfl
theorem am_ze168 : zeroCellsAV Tryd.prog 168 = some [.lit (.pointer none), .lit (.pointer none), .lit (.pointer none), .lit (.string ByteArray.empty)] := by kernel_rfl
theorem am_fi168_0 : fieldOf Tryd.prog 168 0 = some (0, 17) := by kernel_rfl
theorem am_fi168_1 : fieldOf Tryd.prog 168 1 = some (1, 17) := by kernel_rfl
theorem am_fi168_2 : fieldOf Tryd.prog 168 2 = some (2, 17) := by kernel_rfl
theorem am_fi168_3 : fieldOf Tryd.prog 168 3 = some (3, 9) := by kernel_rfl
theorem am_pl168 : placesL Tryd.prog 168 = some [(0, 1), (1, 1), (2, 1), (3, 1)] := by kernel_rfl
theorem am_in169 : (Tryd.prog.info? 169).isSome = true := by kernel_rfl
theorem am_ag169 : isAggT Tryd.prog 169 = some true := by kernel_rfl
theorem am_cl169 : Tryd.prog.cellsOf 169 = 0 := by kernel_rfl
theorem am_by169 : Tryd.prog.bytesOf 169 = 0 := by kernel_rfl
theorem am_el169 : elemOfSlice Tryd.prog 169 = none := by kernel_rfl
theorem am_ze169 : zeroCellsAV Tryd.prog 169 = some [] := by kernel_rfl
theorem am_ar169 : arrOf Tryd.prog 169 = some (0, 16) := by kernel_rfl
theorem am_pn169 : placesL Tryd.prog 169 = none := by kernel_rfl
theorem am_in170 : (Tryd.prog.info? 170).isSome = true := by kernel_rfl
theorem am_ag170 : isAggT Tryd.prog 170 = some true := by kernel_rfl
theorem am_cl170 : Tryd.prog.cellsOf 170 = 0 := by kernel_rfl
theorem am_by170 : Tryd.prog.bytesOf 170 = 0 := by kernel_rfl
theorem am_el170 : elemOfSlice Tryd.prog 170 = none := by kernel_rfl
theorem am_ze170 : zeroCellsAV Tryd.prog 170 = some [] := by kernel_rfl
theorem am_fi170_0 : fieldOf Tryd.prog 170 0 = some (0, 169) := by kernel_rfl
theorem am_pl170 : placesL Tryd.prog 170 = some [(0, 0)] := by kernel_rfl
theorem am_in171 : (Tryd.prog.info? 171).isSome = true := by kernel_rfl
theorem am_ag171 : isAggT Tryd.prog 171 = some true := by kernel_rfl
theorem am_cl171 : Tryd.prog.cellsOf 171 = 0 := by kernel_rfl
theorem am_by171 : Tryd.prog.bytesOf 171 = 0 := by kernel_rfl
theorem am_el171 : elemOfSlice Tryd.prog 171 = none := by kernel_rfl
theorem am_ze171 : zeroCellsAV Tryd.prog 171 = some [] := by kernel_rfl
theorem am_fi171_0 : fieldOf Tryd.prog 171 0 = some (0, 169) := by kernel_rfl
theorem am_pl171 : placesL Tryd.prog 171 = some [(0, 0)] := by kernel_rfl
theorem am_in172 : (Tryd.prog.info? 172).isSome = true := by kernel_rfl
theorem am_ag172 : isAggT Tryd.prog 172 = some false := by kernel_rfl
theorem am_cl172 : Tryd.prog.cellsOf 172 = 1 := by kernel_rfl
theorem am_by172 : Tryd.prog.bytesOf 172 = 1 := by kernel_rfl
theorem am_el172 : elemOfSlice Tryd.prog 172 = none := by kernel_rfl
theorem am_ze172 : zeroCellsAV Tryd.prog 172 = some [.lit (.int .u8 0)] := by kernel_rfl
theorem am_in173 : (Tryd.prog.info? 173).isSome = true := by kernel_rfl
theorem am_ag173 : isAggT Tryd.prog 173 = some false := by kernel_rfl
theorem am_cl173 : Tryd.prog.cellsOf 173 = 1 := by kernel_rfl
theorem am_by173 : Tryd.prog.bytesOf 173 = 1 := by kernel_rfl
theorem am_el173 : elemOfSlice Tryd.prog 173 = none := by kernel_rfl
theorem am_ze173 : zeroCellsAV Tryd.prog 173 = some [.lit (.int .u8 0)] := by kernel_rfl
theorem am_ag174 : isAggT Tryd.prog 174 = some false := by kernel_rfl
theorem am_cl174 : Tryd.prog.cellsOf 174 = 1 := by kernel_rfl
theorem am_in175 : (Tryd.prog.info? 175).isSome = true := by kernel_rfl
theorem am_ag175 : isAggT Tryd.prog 175 = some false := by kernel_rfl
theorem am_cl175 : Tryd.prog.cellsOf 175 = 1 := by kernel_rfl
theorem am_by175 : Tryd.prog.bytesOf 175 = 8 := by kernel_rfl
theorem am_el175 : elemOfSlice Tryd.prog 175 = none := by kernel_rfl
theorem am_ze175 : zeroCellsAV Tryd.prog 175 = some [.lit (.pointer none)] := by kernel_rfl
theorem am_in176 : (Tryd.prog.info? 176).isSome = true := by kernel_rfl
theorem am_ag176 : isAggT Tryd.prog 176 = some false := by kernel_rfl
theorem am_cl176 : Tryd.prog.cellsOf 176 = 1 := by kernel_rfl
theorem am_by176 : Tryd.prog.bytesOf 176 = 4 := by kernel_rfl
theorem am_el176 : elemOfSlice Tryd.prog 176 = none := by kernel_rfl
theorem am_ze176 : zeroCellsAV Tryd.prog 176 = some [.lit (.int .i32 0)] := by kernel_rfl
theorem am_in177 : (Tryd.prog.info? 177).isSome = true := by kernel_rfl
theorem am_ag177 : isAggT Tryd.prog 177 = some false := by kernel_rfl
theorem am_cl177 : Tryd.prog.cellsOf 177 = 1 := by kernel_rfl
theorem am_by177 : Tryd.prog.bytesOf 177 = 4 := by kernel_rfl
theorem am_el177 : elemOfSlice Tryd.prog 177 = none := by kernel_rfl
theorem am_ze177 : zeroCellsAV Tryd.prog 177 = some [.lit (.int .i32 0)] := by kernel_rfl
theorem am_in178 : (Tryd.prog.info? 178).isSome = true := by kernel_rfl
theorem am_ag178 : isAggT Tryd.prog 178 = some true := by kernel_rfl
theorem am_cl178 : Tryd.prog.cellsOf 178 = 11 := by kernel_rfl
theorem am_by178 : Tryd.prog.bytesOf 178 = 48 := by kernel_rfl
theorem am_el178 : elemOfSlice Tryd.prog 178 = none := by kernel_rfl
theorem am_ze178 : zeroCellsAV Tryd.prog 178 = some [.lit (.int .u64 0), .lit (.int .u64 0), .lit (.int .u32 0), .lit (.int .u8 0), .lit (.int .u8 0), .lit (.int .u8 0), .lit (.int .u8 0), .lit (.nilFunc), .lit (.pointer none), .lit (.int .i32 0), .lit (.int .i32 0)] := by kernel_rfl
theorem am_fi178_0 : fieldOf Tryd.prog 178 0 = some (0, 12) := by kernel_rfl
theorem am_fi178_1 : fieldOf Tryd.prog 178 1 = some (1, 12) := by kernel_rfl
theorem am_fi178_2 : fieldOf Tryd.prog 178 2 = some (2, 122) := by kernel_rfl
theorem am_fi178_3 : fieldOf Tryd.prog 178 3 = some (3, 172) := by kernel_rfl
theorem am_fi178_4 : fieldOf Tryd.prog 178 4 = some (4, 5) := by kernel_rfl
theorem am_fi178_5 : fieldOf Tryd.prog 178 5 = some (5, 5) := by kernel_rfl
theorem am_fi178_6 : fieldOf Tryd.prog 178 6 = some (6, 173) := by kernel_rfl
theorem am_fi178_7 : fieldOf Tryd.prog 178 7 = some (7, 174) := by kernel_rfl
theorem am_fi178_8 : fieldOf Tryd.prog 178 8 = some (8, 175) := by kernel_rfl
theorem am_fi178_9 : fieldOf Tryd.prog 178 9 = some (9, 176) := by kernel_rfl
theorem am_fi178_10 : fieldOf Tryd.prog 178 10 = some (10, 177) := by kernel_rfl
theorem am_pl178 : placesL Tryd.prog 178 = some [(0, 1), (1, 1), (2, 1), (3, 1), (4, 1), (5, 1), (6, 1), (7, 1), (8, 1), (9, 1), (10, 1)] := by kernel_rfl
theorem am_in179 : (Tryd.prog.info? 179).isSome = true := by kernel_rfl
theorem am_ag179 : isAggT Tryd.prog 179 = some true := by kernel_rfl
theorem am_cl179 : Tryd.prog.cellsOf 179 = 11 := by kernel_rfl
theorem am_by179 : Tryd.prog.bytesOf 179 = 48 := by kernel_rfl
theorem am_el179 : elemOfSlice Tryd.prog 179 = none := by kernel_rfl
theorem am_ze179 : zeroCellsAV Tryd.prog 179 = some [.lit (.int .u64 0), .lit (.int .u64 0), .lit (.int .u32 0), .lit (.int .u8 0), .lit (.int .u8 0), .lit (.int .u8 0), .lit (.int .u8 0), .lit (.nilFunc), .lit (.pointer none), .lit (.int .i32 0), .lit (.int .i32 0)] := by kernel_rfl
theorem am_fi179_0 : fieldOf Tryd.prog 179 0 = some (0, 12) := by kernel_rfl
theorem am_fi179_1 : fieldOf Tryd.prog 179 1 = some (1, 12) := by kernel_rfl
theorem am_fi179_2 : fieldOf Tryd.prog 179 2 = some (2, 122) := by kernel_rfl
theorem am_fi179_3 : fieldOf Tryd.prog 179 3 = some (3, 172) := by kernel_rfl
theorem am_fi179_4 : fieldOf Tryd.prog 179 4 = some (4, 5) := by kernel_rfl
theorem am_fi179_5 : fieldOf Tryd.prog 179 5 = some (5, 5) := by kernel_rfl
theorem am_fi179_6 : fieldOf Tryd.prog 179 6 = some (6, 173) := by kernel_rfl
theorem am_fi179_7 : fieldOf Tryd.prog 179 7 = some (7, 174) := by kernel_rfl
theorem am_fi179_8 : fieldOf Tryd.prog 179 8 = some (8, 175) := by kernel_rfl
theorem am_fi179_9 : fieldOf Tryd.prog 179 9 = some (9, 176) := by kernel_rfl
theorem am_fi179_10 : fieldOf Tryd.prog 179 10 = some (10, 177) := by kernel_rfl
theorem am_pl179 : placesL Tryd.prog 179 = some [(0, 1), (1, 1), (2, 1), (3, 1), (4, 1), (5, 1), (6, 1), (7, 1), (8, 1), (9, 1), (10, 1)] := by kernel_rfl

end Go.Proofs.YthpjfkmhpoeojaaDoor

