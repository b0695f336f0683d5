/-
  Closed facts on the types of the program, as the abstract machine asks them.
  Conditions: none.
-/
import Derived.Test.YtddogeicmhbidaaDoorAmStep
import Derived.Test.YtddogeicmhbidaaDoorChecked
import Derived.KernelRfl
namespace Go.Proofs.YtddogeicmhbidaaDoor
open Go.AM
theorem am_ag1 : isAggT Tryd.prog 1 = some false := by kernel_rfl
theorem am_cl1 : Tryd.prog.cellsOf 1 = 1 := by kernel_rfl
theorem am_in2 : (Tryd.prog.info? 2).isSome = true := by kernel_rfl
theorem am_ag2 : isAggT Tryd.prog 2 = some false := by kernel_rfl
theorem am_cl2 : Tryd.prog.cellsOf 2 = 1 := by kernel_rfl
theorem am_by2 : Tryd.prog.bytesOf 2 = 8 := by kernel_rfl
theorem am_el2 : elemOfSlice Tryd.prog 2 = none := by kernel_rfl
theorem am_ze2 : zeroCellsAV Tryd.prog 2 = some [.lit (.int .i64 0)] := by kernel_rfl
theorem am_in3 : (Tryd.prog.info? 3).isSome = true := by kernel_rfl
theorem am_ag3 : isAggT Tryd.prog 3 = some false := by kernel_rfl
theorem am_cl3 : Tryd.prog.cellsOf 3 = 1 := by kernel_rfl
theorem am_by3 : Tryd.prog.bytesOf 3 = 8 := by kernel_rfl
theorem am_el3 : elemOfSlice Tryd.prog 3 = none := by kernel_rfl
theorem am_ze3 : zeroCellsAV Tryd.prog 3 = some [.lit (.int .i64 0)] := by kernel_rfl
theorem am_in4 : (Tryd.prog.info? 4).isSome = true := by kernel_rfl
theorem am_ag4 : isAggT Tryd.prog 4 = some false := by kernel_rfl
theorem am_cl4 : Tryd.prog.cellsOf 4 = 1 := by kernel_rfl
theorem am_by4 : Tryd.prog.bytesOf 4 = 1 := by kernel_rfl
theorem am_el4 : elemOfSlice Tryd.prog 4 = none := by kernel_rfl
theorem am_ze4 : zeroCellsAV Tryd.prog 4 = some [.lit (.bool false)] := by kernel_rfl
theorem am_in5 : (Tryd.prog.info? 5).isSome = true := by kernel_rfl
theorem am_ag5 : isAggT Tryd.prog 5 = some false := by kernel_rfl
theorem am_cl5 : Tryd.prog.cellsOf 5 = 1 := by kernel_rfl
theorem am_by5 : Tryd.prog.bytesOf 5 = 1 := by kernel_rfl
theorem am_el5 : elemOfSlice Tryd.prog 5 = none := by kernel_rfl
theorem am_ze5 : zeroCellsAV Tryd.prog 5 = some [.lit (.int .u8 0)] := by kernel_rfl
theorem am_in6 : (Tryd.prog.info? 6).isSome = true := by kernel_rfl
theorem am_ag6 : isAggT Tryd.prog 6 = some false := by kernel_rfl
theorem am_cl6 : Tryd.prog.cellsOf 6 = 1 := by kernel_rfl
theorem am_by6 : Tryd.prog.bytesOf 6 = 1 := by kernel_rfl
theorem am_el6 : elemOfSlice Tryd.prog 6 = none := by kernel_rfl
theorem am_ze6 : zeroCellsAV Tryd.prog 6 = some [.lit (.int .u8 0)] := by kernel_rfl
theorem am_in7 : (Tryd.prog.info? 7).isSome = true := by kernel_rfl
theorem am_ag7 : isAggT Tryd.prog 7 = some true := by kernel_rfl
theorem am_cl7 : Tryd.prog.cellsOf 7 = 4 := by kernel_rfl
theorem am_by7 : Tryd.prog.bytesOf 7 = 24 := by kernel_rfl
theorem am_el7 : elemOfSlice Tryd.prog 7 = none := by kernel_rfl
theorem am_ze7 : zeroCellsAV Tryd.prog 7 = some [.lit (.int .i64 0), .lit (.int .i64 0), .lit (.bool false), .lit (.int .u8 0)] := by kernel_rfl
theorem am_fi7_0 : fieldOf Tryd.prog 7 0 = some (0, 2) := by kernel_rfl
theorem am_fi7_1 : fieldOf Tryd.prog 7 1 = some (1, 3) := by kernel_rfl
theorem am_fi7_2 : fieldOf Tryd.prog 7 2 = some (2, 4) := by kernel_rfl
theorem am_fi7_3 : fieldOf Tryd.prog 7 3 = some (3, 6) := by kernel_rfl
theorem am_pl7 : placesL Tryd.prog 7 = some [(0, 1), (1, 1), (2, 1), (3, 1)] := by kernel_rfl
theorem am_in8 : (Tryd.prog.info? 8).isSome = true := by kernel_rfl
theorem am_ag8 : isAggT Tryd.prog 8 = some true := by kernel_rfl
theorem am_cl8 : Tryd.prog.cellsOf 8 = 4 := by kernel_rfl
theorem am_by8 : Tryd.prog.bytesOf 8 = 24 := by kernel_rfl
theorem am_el8 : elemOfSlice Tryd.prog 8 = none := by kernel_rfl
theorem am_ze8 : zeroCellsAV Tryd.prog 8 = some [.lit (.int .i64 0), .lit (.int .i64 0), .lit (.bool false), .lit (.int .u8 0)] := by kernel_rfl
theorem am_fi8_0 : fieldOf Tryd.prog 8 0 = some (0, 2) := by kernel_rfl
theorem am_fi8_1 : fieldOf Tryd.prog 8 1 = some (1, 3) := by kernel_rfl
theorem am_fi8_2 : fieldOf Tryd.prog 8 2 = some (2, 4) := by kernel_rfl
theorem am_fi8_3 : fieldOf Tryd.prog 8 3 = some (3, 6) := by kernel_rfl
theorem am_pl8 : placesL Tryd.prog 8 = some [(0, 1), (1, 1), (2, 1), (3, 1)] := by kernel_rfl
theorem am_in9 : (Tryd.prog.info? 9).isSome = true := by kernel_rfl
theorem am_ag9 : isAggT Tryd.prog 9 = some false := by kernel_rfl
theorem am_cl9 : Tryd.prog.cellsOf 9 = 1 := by kernel_rfl
theorem am_by9 : Tryd.prog.bytesOf 9 = 16 := by kernel_rfl
theorem am_el9 : elemOfSlice Tryd.prog 9 = none := by kernel_rfl
theorem am_ze9 : zeroCellsAV Tryd.prog 9 = some [.lit (.string ByteArray.empty)] := by kernel_rfl
theorem am_in10 : (Tryd.prog.info? 10).isSome = true := by kernel_rfl
theorem am_ag10 : isAggT Tryd.prog 10 = some false := by kernel_rfl
theorem am_cl10 : Tryd.prog.cellsOf 10 = 1 := by kernel_rfl
theorem am_by10 : Tryd.prog.bytesOf 10 = 16 := by kernel_rfl
theorem am_el10 : elemOfSlice Tryd.prog 10 = none := by kernel_rfl
theorem am_ze10 : zeroCellsAV Tryd.prog 10 = some [.lit (.string ByteArray.empty)] := by kernel_rfl
theorem am_in11 : (Tryd.prog.info? 11).isSome = true := by kernel_rfl
theorem am_ag11 : isAggT Tryd.prog 11 = some false := by kernel_rfl
theorem am_cl11 : Tryd.prog.cellsOf 11 = 1 := by kernel_rfl
theorem am_by11 : Tryd.prog.bytesOf 11 = 16 := by kernel_rfl
theorem am_el11 : elemOfSlice Tryd.prog 11 = none := by kernel_rfl
theorem am_ze11 : zeroCellsAV Tryd.prog 11 = some [.lit (.string ByteArray.empty)] := by kernel_rfl
theorem am_in12 : (Tryd.prog.info? 12).isSome = true := by kernel_rfl
theorem am_ag12 : isAggT Tryd.prog 12 = some false := by kernel_rfl
theorem am_cl12 : Tryd.prog.cellsOf 12 = 1 := by kernel_rfl
theorem am_by12 : Tryd.prog.bytesOf 12 = 8 := by kernel_rfl
theorem am_el12 : elemOfSlice Tryd.prog 12 = none := by kernel_rfl
theorem am_ze12 : zeroCellsAV Tryd.prog 12 = some [.lit (.int .u64 0)] := by kernel_rfl
theorem am_in13 : (Tryd.prog.info? 13).isSome = true := by kernel_rfl
theorem am_ag13 : isAggT Tryd.prog 13 = some true := by kernel_rfl
theorem am_cl13 : Tryd.prog.cellsOf 13 = 2 := by kernel_rfl
theorem am_by13 : Tryd.prog.bytesOf 13 = 24 := by kernel_rfl
theorem am_el13 : elemOfSlice Tryd.prog 13 = none := by kernel_rfl
theorem am_ze13 : zeroCellsAV Tryd.prog 13 = some [.lit (.string ByteArray.empty), .lit (.int .u64 0)] := by kernel_rfl
theorem am_fi13_0 : fieldOf Tryd.prog 13 0 = some (0, 9) := by kernel_rfl
theorem am_fi13_1 : fieldOf Tryd.prog 13 1 = some (1, 12) := by kernel_rfl
theorem am_pl13 : placesL Tryd.prog 13 = some [(0, 1), (1, 1)] := by kernel_rfl
theorem am_in14 : (Tryd.prog.info? 14).isSome = true := by kernel_rfl
theorem am_ag14 : isAggT Tryd.prog 14 = some true := by kernel_rfl
theorem am_cl14 : Tryd.prog.cellsOf 14 = 2 := by kernel_rfl
theorem am_by14 : Tryd.prog.bytesOf 14 = 24 := by kernel_rfl
theorem am_el14 : elemOfSlice Tryd.prog 14 = none := by kernel_rfl
theorem am_ze14 : zeroCellsAV Tryd.prog 14 = some [.lit (.string ByteArray.empty), .lit (.int .u64 0)] := by kernel_rfl
theorem am_fi14_0 : fieldOf Tryd.prog 14 0 = some (0, 9) := by kernel_rfl
theorem am_fi14_1 : fieldOf Tryd.prog 14 1 = some (1, 12) := by kernel_rfl
theorem am_pl14 : placesL Tryd.prog 14 = some [(0, 1), (1, 1)] := by kernel_rfl
theorem am_in15 : (Tryd.prog.info? 15).isSome = true := by kernel_rfl
theorem am_ag15 : isAggT Tryd.prog 15 = some false := by kernel_rfl
theorem am_cl15 : Tryd.prog.cellsOf 15 = 1 := by kernel_rfl
theorem am_by15 : Tryd.prog.bytesOf 15 = 8 := by kernel_rfl
theorem am_el15 : elemOfSlice Tryd.prog 15 = none := by kernel_rfl
theorem am_ze15 : zeroCellsAV Tryd.prog 15 = some [.lit (.pointer none)] := by kernel_rfl
theorem am_in16 : (Tryd.prog.info? 16).isSome = true := by kernel_rfl
theorem am_ag16 : isAggT Tryd.prog 16 = some false := by kernel_rfl
theorem am_cl16 : Tryd.prog.cellsOf 16 = 1 := by kernel_rfl
theorem am_by16 : Tryd.prog.bytesOf 16 = 8 := by kernel_rfl
theorem am_el16 : elemOfSlice Tryd.prog 16 = none := by kernel_rfl
theorem am_ze16 : zeroCellsAV Tryd.prog 16 = some [.lit (.pointer none)] := by kernel_rfl
theorem am_in17 : (Tryd.prog.info? 17).isSome = true := by kernel_rfl
theorem am_ag17 : isAggT Tryd.prog 17 = some false := by kernel_rfl
theorem am_cl17 : Tryd.prog.cellsOf 17 = 1 := by kernel_rfl
theorem am_by17 : Tryd.prog.bytesOf 17 = 8 := by kernel_rfl
theorem am_el17 : elemOfSlice Tryd.prog 17 = none := by kernel_rfl
theorem am_ze17 : zeroCellsAV Tryd.prog 17 = some [.lit (.pointer none)] := by kernel_rfl
theorem am_in18 : (Tryd.prog.info? 18).isSome = true := by kernel_rfl
theorem am_ag18 : isAggT Tryd.prog 18 = some true := by kernel_rfl
theorem am_cl18 : Tryd.prog.cellsOf 18 = 1 := by kernel_rfl
theorem am_by18 : Tryd.prog.bytesOf 18 = 8 := by kernel_rfl
theorem am_el18 : elemOfSlice Tryd.prog 18 = none := by kernel_rfl
theorem am_ze18 : zeroCellsAV Tryd.prog 18 = some [.lit (.pointer none)] := by kernel_rfl
theorem am_fi18_0 : fieldOf Tryd.prog 18 0 = some (0, 17) := by kernel_rfl
theorem am_pl18 : placesL Tryd.prog 18 = some [(0, 1)] := by kernel_rfl
theorem am_in19 : (Tryd.prog.info? 19).isSome = true := by kernel_rfl
theorem am_ag19 : isAggT Tryd.prog 19 = some true := by kernel_rfl
theorem am_cl19 : Tryd.prog.cellsOf 19 = 1 := by kernel_rfl
theorem am_by19 : Tryd.prog.bytesOf 19 = 8 := by kernel_rfl
theorem am_el19 : elemOfSlice Tryd.prog 19 = none := by kernel_rfl
theorem am_ze19 : zeroCellsAV Tryd.prog 19 = some [.lit (.pointer none)] := by kernel_rfl
theorem am_fi19_0 : fieldOf Tryd.prog 19 0 = some (0, 17) := by kernel_rfl
theorem am_pl19 : placesL Tryd.prog 19 = some [(0, 1)] := by kernel_rfl
theorem am_ag20 : isAggT Tryd.prog 20 = some false := by kernel_rfl
theorem am_cl20 : Tryd.prog.cellsOf 20 = 1 := by kernel_rfl
theorem am_in21 : (Tryd.prog.info? 21).isSome = true := by kernel_rfl
theorem am_ag21 : isAggT Tryd.prog 21 = some false := by kernel_rfl
theorem am_cl21 : Tryd.prog.cellsOf 21 = 1 := by kernel_rfl
theorem am_by21 : Tryd.prog.bytesOf 21 = 4 := by kernel_rfl
theorem am_el21 : elemOfSlice Tryd.prog 21 = none := by kernel_rfl
theorem am_ze21 : zeroCellsAV Tryd.prog 21 = some [.lit (.int .i32 0)] := by kernel_rfl
theorem am_in22 : (Tryd.prog.info? 22).isSome = true := by kernel_rfl
theorem am_ag22 : isAggT Tryd.prog 22 = some false := by kernel_rfl
theorem am_cl22 : Tryd.prog.cellsOf 22 = 1 := by kernel_rfl
theorem am_by22 : Tryd.prog.bytesOf 22 = 24 := by kernel_rfl
theorem am_el22 : elemOfSlice Tryd.prog 22 = some 38 := by kernel_rfl
theorem am_ze22 : zeroCellsAV Tryd.prog 22 = some [.lit (.slice none 0 0)] := by kernel_rfl
theorem am_ag23 : isAggT Tryd.prog 23 = some false := by kernel_rfl
theorem am_cl23 : Tryd.prog.cellsOf 23 = 1 := by kernel_rfl
theorem am_ag24 : isAggT Tryd.prog 24 = some false := by kernel_rfl
theorem am_cl24 : Tryd.prog.cellsOf 24 = 1 := by kernel_rfl
theorem am_in25 : (Tryd.prog.info? 25).isSome = true := by kernel_rfl
theorem am_ag25 : isAggT Tryd.prog 25 = some false := by kernel_rfl
theorem am_cl25 : Tryd.prog.cellsOf 25 = 1 := by kernel_rfl
theorem am_by25 : Tryd.prog.bytesOf 25 = 8 := by kernel_rfl
theorem am_el25 : elemOfSlice Tryd.prog 25 = none := by kernel_rfl
theorem am_ze25 : zeroCellsAV Tryd.prog 25 = some [.lit (.int .i64 0)] := by kernel_rfl
theorem am_ag27 : isAggT Tryd.prog 27 = some false := by kernel_rfl
theorem am_cl27 : Tryd.prog.cellsOf 27 = 1 := by kernel_rfl
theorem am_ag28 : isAggT Tryd.prog 28 = some false := by kernel_rfl
theorem am_cl28 : Tryd.prog.cellsOf 28 = 1 := by kernel_rfl
theorem am_ag30 : isAggT Tryd.prog 30 = some false := by kernel_rfl
theorem am_cl30 : Tryd.prog.cellsOf 30 = 1 := by kernel_rfl
theorem am_ag31 : isAggT Tryd.prog 31 = some false := by kernel_rfl
theorem am_cl31 : Tryd.prog.cellsOf 31 = 1 := by kernel_rfl
theorem am_ag33 : isAggT Tryd.prog 33 = some false := by kernel_rfl
theorem am_cl33 : Tryd.prog.cellsOf 33 = 1 := by kernel_rfl
theorem am_ag34 : isAggT Tryd.prog 34 = some false := by kernel_rfl
theorem am_cl34 : Tryd.prog.cellsOf 34 = 1 := by kernel_rfl
theorem am_ag35 : isAggT Tryd.prog 35 = some false := by kernel_rfl
theorem am_cl35 : Tryd.prog.cellsOf 35 = 1 := by kernel_rfl
theorem am_in36 : (Tryd.prog.info? 36).isSome = true := by kernel_rfl
theorem am_ag36 : isAggT Tryd.prog 36 = some false := by kernel_rfl
theorem am_cl36 : Tryd.prog.cellsOf 36 = 1 := by kernel_rfl
theorem am_by36 : Tryd.prog.bytesOf 36 = 24 := by kernel_rfl
theorem am_el36 : elemOfSlice Tryd.prog 36 = some 3 := by kernel_rfl
theorem am_ze36 : zeroCellsAV Tryd.prog 36 = some [.lit (.slice none 0 0)] := by kernel_rfl
theorem am_in37 : (Tryd.prog.info? 37).isSome = true := by kernel_rfl
theorem am_ag37 : isAggT Tryd.prog 37 = some true := by kernel_rfl
theorem am_cl37 : Tryd.prog.cellsOf 37 = 5 := by kernel_rfl
theorem am_by37 : Tryd.prog.bytesOf 37 = 64 := by kernel_rfl
theorem am_el37 : elemOfSlice Tryd.prog 37 = none := by kernel_rfl
theorem am_ze37 : zeroCellsAV Tryd.prog 37 = some [.lit (.string ByteArray.empty), .lit (.int .i64 0), .lit (.int .i64 0), .lit (.int .i64 0), .lit (.slice none 0 0)] := by kernel_rfl
theorem am_fi37_0 : fieldOf Tryd.prog 37 0 = some (0, 9) := by kernel_rfl
theorem am_fi37_1 : fieldOf Tryd.prog 37 1 = some (1, 3) := by kernel_rfl
theorem am_fi37_2 : fieldOf Tryd.prog 37 2 = some (2, 3) := by kernel_rfl
theorem am_fi37_3 : fieldOf Tryd.prog 37 3 = some (3, 3) := by kernel_rfl
theorem am_fi37_4 : fieldOf Tryd.prog 37 4 = some (4, 36) := by kernel_rfl
theorem am_pl37 : placesL Tryd.prog 37 = some [(0, 1), (1, 1), (2, 1), (3, 1), (4, 1)] := by kernel_rfl
theorem am_in38 : (Tryd.prog.info? 38).isSome = true := by kernel_rfl
theorem am_ag38 : isAggT Tryd.prog 38 = some true := by kernel_rfl
theorem am_cl38 : Tryd.prog.cellsOf 38 = 5 := by kernel_rfl
theorem am_by38 : Tryd.prog.bytesOf 38 = 64 := by kernel_rfl
theorem am_el38 : elemOfSlice Tryd.prog 38 = none := by kernel_rfl
theorem am_ze38 : zeroCellsAV Tryd.prog 38 = some [.lit (.string ByteArray.empty), .lit (.int .i64 0), .lit (.int .i64 0), .lit (.int .i64 0), .lit (.slice none 0 0)] := by kernel_rfl
theorem am_fi38_0 : fieldOf Tryd.prog 38 0 = some (0, 9) := by kernel_rfl
theorem am_fi38_1 : fieldOf Tryd.prog 38 1 = some (1, 3) := by kernel_rfl
theorem am_fi38_2 : fieldOf Tryd.prog 38 2 = some (2, 3) := by kernel_rfl
theorem am_fi38_3 : fieldOf Tryd.prog 38 3 = some (3, 3) := by kernel_rfl
theorem am_fi38_4 : fieldOf Tryd.prog 38 4 = some (4, 36) := by kernel_rfl
theorem am_pl38 : placesL Tryd.prog 38 = some [(0, 1), (1, 1), (2, 1), (3, 1), (4, 1)] := by kernel_rfl
theorem am_ag39 : isAggT Tryd.prog 39 = some false := by kernel_rfl
theorem am_cl39 : Tryd.prog.cellsOf 39 = 1 := by kernel_rfl
theorem am_in40 : (Tryd.prog.info? 40).isSome = true := by kernel_rfl
theorem am_ag40 : isAggT Tryd.prog 40 = some false := by kernel_rfl
theorem am_cl40 : Tryd.prog.cellsOf 40 = 1 := by kernel_rfl
theorem am_by40 : Tryd.prog.bytesOf 40 = 24 := by kernel_rfl
theorem am_el40 : elemOfSlice Tryd.prog 40 = some 45 := by kernel_rfl
theorem am_ze40 : zeroCellsAV Tryd.prog 40 = some [.lit (.slice none 0 0)] := by kernel_rfl
theorem am_ag42 : isAggT Tryd.prog 42 = some false := by kernel_rfl
theorem am_cl42 : Tryd.prog.cellsOf 42 = 1 := by kernel_rfl
theorem am_ag43 : isAggT Tryd.prog 43 = some false := by kernel_rfl
theorem am_cl43 : Tryd.prog.cellsOf 43 = 1 := by kernel_rfl
theorem am_in44 : (Tryd.prog.info? 44).isSome = true := by kernel_rfl
theorem am_ag44 : isAggT Tryd.prog 44 = some true := by kernel_rfl
theorem am_cl44 : Tryd.prog.cellsOf 44 = 2 := by kernel_rfl
theorem am_by44 : Tryd.prog.bytesOf 44 = 16 := by kernel_rfl
theorem am_el44 : elemOfSlice Tryd.prog 44 = none := by kernel_rfl
theorem am_ze44 : zeroCellsAV Tryd.prog 44 = some [.lit (.int .i64 0), .lit (.int .i64 0)] := by kernel_rfl
theorem am_fi44_0 : fieldOf Tryd.prog 44 0 = some (0, 3) := by kernel_rfl
theorem am_fi44_1 : fieldOf Tryd.prog 44 1 = some (1, 3) := by kernel_rfl
theorem am_pl44 : placesL Tryd.prog 44 = some [(0, 1), (1, 1)] := by kernel_rfl
theorem am_in45 : (Tryd.prog.info? 45).isSome = true := by kernel_rfl
theorem am_ag45 : isAggT Tryd.prog 45 = some true := by kernel_rfl
theorem am_cl45 : Tryd.prog.cellsOf 45 = 2 := by kernel_rfl
theorem am_by45 : Tryd.prog.bytesOf 45 = 16 := by kernel_rfl
theorem am_el45 : elemOfSlice Tryd.prog 45 = none := by kernel_rfl
theorem am_ze45 : zeroCellsAV Tryd.prog 45 = some [.lit (.int .i64 0), .lit (.int .i64 0)] := by kernel_rfl
theorem am_fi45_0 : fieldOf Tryd.prog 45 0 = some (0, 3) := by kernel_rfl
theorem am_fi45_1 : fieldOf Tryd.prog 45 1 = some (1, 3) := by kernel_rfl
theorem am_pl45 : placesL Tryd.prog 45 = some [(0, 1), (1, 1)] := by kernel_rfl
theorem am_ag46 : isAggT Tryd.prog 46 = some false := by kernel_rfl
theorem am_cl46 : Tryd.prog.cellsOf 46 = 1 := by kernel_rfl
theorem am_ag47 : isAggT Tryd.prog 47 = some false := by kernel_rfl
theorem am_cl47 : Tryd.prog.cellsOf 47 = 1 := by kernel_rfl
theorem am_ag48 : isAggT Tryd.prog 48 = some false := by kernel_rfl
theorem am_cl48 : Tryd.prog.cellsOf 48 = 1 := by kernel_rfl
theorem am_ag49 : isAggT Tryd.prog 49 = some false := by kernel_rfl
theorem am_cl49 : Tryd.prog.cellsOf 49 = 1 := by kernel_rfl
theorem am_ag50 : isAggT Tryd.prog 50 = some false := by kernel_rfl
theorem am_cl50 : Tryd.prog.cellsOf 50 = 1 := by kernel_rfl
theorem am_ag51 : isAggT Tryd.prog 51 = some false := by kernel_rfl
theorem am_cl51 : Tryd.prog.cellsOf 51 = 1 := by kernel_rfl
theorem am_ag53 : isAggT Tryd.prog 53 = some false := by kernel_rfl
theorem am_cl53 : Tryd.prog.cellsOf 53 = 1 := by kernel_rfl
theorem am_ag54 : isAggT Tryd.prog 54 = some false := by kernel_rfl
theorem am_cl54 : Tryd.prog.cellsOf 54 = 1 := by kernel_rfl
theorem am_in55 : (Tryd.prog.info? 55).isSome = true := by kernel_rfl
theorem am_ag55 : isAggT Tryd.prog 55 = some false := by kernel_rfl
theorem am_cl55 : Tryd.prog.cellsOf 55 = 1 := by kernel_rfl
theorem am_by55 : Tryd.prog.bytesOf 55 = 24 := by kernel_rfl
theorem am_el55 : elemOfSlice Tryd.prog 55 = some 22 := by kernel_rfl
theorem am_ze55 : zeroCellsAV Tryd.prog 55 = some [.lit (.slice none 0 0)] := by kernel_rfl
theorem am_ag56 : isAggT Tryd.prog 56 = some false := by kernel_rfl
theorem am_cl56 : Tryd.prog.cellsOf 56 = 1 := by kernel_rfl
theorem am_ag57 : isAggT Tryd.prog 57 = some false := by kernel_rfl
theorem am_cl57 : Tryd.prog.cellsOf 57 = 1 := by kernel_rfl
theorem am_ag58 : isAggT Tryd.prog 58 = some false := by kernel_rfl
theorem am_cl58 : Tryd.prog.cellsOf 58 = 1 := by kernel_rfl
theorem am_ag60 : isAggT Tryd.prog 60 = some false := by kernel_rfl
theorem am_cl60 : Tryd.prog.cellsOf 60 = 1 := by kernel_rfl
theorem am_ag61 : isAggT Tryd.prog 61 = some false := by kernel_rfl
theorem am_cl61 : Tryd.prog.cellsOf 61 = 1 := by kernel_rfl
theorem am_ag62 : isAggT Tryd.prog 62 = some false := by kernel_rfl
theorem am_cl62 : Tryd.prog.cellsOf 62 = 1 := by kernel_rfl
theorem am_ag63 : isAggT Tryd.prog 63 = some false := by kernel_rfl
theorem am_cl63 : Tryd.prog.cellsOf 63 = 1 := by kernel_rfl
theorem am_mt64 : mapTy Tryd.prog 64 = some (.int .i64, some (.int .i64 0)) := by kernel_rfl
theorem am_em64 : elemOfSlice Tryd.prog 64 = none := by kernel_rfl
theorem am_ag64 : isAggT Tryd.prog 64 = some false := by kernel_rfl
theorem am_cl64 : Tryd.prog.cellsOf 64 = 1 := by kernel_rfl
theorem am_ag65 : isAggT Tryd.prog 65 = some false := by kernel_rfl
theorem am_cl65 : Tryd.prog.cellsOf 65 = 1 := by kernel_rfl
theorem am_ag66 : isAggT Tryd.prog 66 = some false := by kernel_rfl
theorem am_cl66 : Tryd.prog.cellsOf 66 = 1 := by kernel_rfl
theorem am_ag67 : isAggT Tryd.prog 67 = some false := by kernel_rfl
theorem am_cl67 : Tryd.prog.cellsOf 67 = 1 := by kernel_rfl
theorem am_ag68 : isAggT Tryd.prog 68 = some false := by kernel_rfl
theorem am_cl68 : Tryd.prog.cellsOf 68 = 1 := by kernel_rfl
theorem am_in69 : (Tryd.prog.info? 69).isSome = true := by kernel_rfl
theorem am_ag69 : isAggT Tryd.prog 69 = some false := by kernel_rfl
theorem am_cl69 : Tryd.prog.cellsOf 69 = 1 := by kernel_rfl
theorem am_by69 : Tryd.prog.bytesOf 69 = 24 := by kernel_rfl
theorem am_el69 : elemOfSlice Tryd.prog 69 = some 40 := by kernel_rfl
theorem am_ze69 : zeroCellsAV Tryd.prog 69 = some [.lit (.slice none 0 0)] := by kernel_rfl
theorem am_ag70 : isAggT Tryd.prog 70 = some false := by kernel_rfl
theorem am_cl70 : Tryd.prog.cellsOf 70 = 1 := by kernel_rfl
theorem am_in71 : (Tryd.prog.info? 71).isSome = true := by kernel_rfl
theorem am_ag71 : isAggT Tryd.prog 71 = some false := by kernel_rfl
theorem am_cl71 : Tryd.prog.cellsOf 71 = 1 := by kernel_rfl
theorem am_by71 : Tryd.prog.bytesOf 71 = 8 := by kernel_rfl
theorem am_el71 : elemOfSlice Tryd.prog 71 = none := by kernel_rfl
theorem am_ze71 : zeroCellsAV Tryd.prog 71 = some [.lit (.pointer none)] := by kernel_rfl
theorem am_in72 : (Tryd.prog.info? 72).isSome = true := by kernel_rfl
theorem am_ag72 : isAggT Tryd.prog 72 = some false := by kernel_rfl
theorem am_cl72 : Tryd.prog.cellsOf 72 = 1 := by kernel_rfl
theorem am_by72 : Tryd.prog.bytesOf 72 = 24 := by kernel_rfl
theorem am_el72 : elemOfSlice Tryd.prog 72 = some 5 := by kernel_rfl
theorem am_ze72 : zeroCellsAV Tryd.prog 72 = some [.lit (.slice none 0 0)] := by kernel_rfl
theorem am_in73 : (Tryd.prog.info? 73).isSome = true := by kernel_rfl
theorem am_ag73 : isAggT Tryd.prog 73 = some true := by kernel_rfl
theorem am_cl73 : Tryd.prog.cellsOf 73 = 2 := by kernel_rfl
theorem am_by73 : Tryd.prog.bytesOf 73 = 32 := by kernel_rfl
theorem am_el73 : elemOfSlice Tryd.prog 73 = none := by kernel_rfl
theorem am_ze73 : zeroCellsAV Tryd.prog 73 = some [.lit (.pointer none), .lit (.slice none 0 0)] := by kernel_rfl
theorem am_fi73_0 : fieldOf Tryd.prog 73 0 = some (0, 71) := by kernel_rfl
theorem am_fi73_1 : fieldOf Tryd.prog 73 1 = some (1, 72) := by kernel_rfl
theorem am_pl73 : placesL Tryd.prog 73 = some [(0, 1), (1, 1)] := by kernel_rfl
theorem am_in74 : (Tryd.prog.info? 74).isSome = true := by kernel_rfl
theorem am_ag74 : isAggT Tryd.prog 74 = some true := by kernel_rfl
theorem am_cl74 : Tryd.prog.cellsOf 74 = 2 := by kernel_rfl
theorem am_by74 : Tryd.prog.bytesOf 74 = 32 := by kernel_rfl
theorem am_el74 : elemOfSlice Tryd.prog 74 = none := by kernel_rfl
theorem am_ze74 : zeroCellsAV Tryd.prog 74 = some [.lit (.pointer none), .lit (.slice none 0 0)] := by kernel_rfl
theorem am_fi74_0 : fieldOf Tryd.prog 74 0 = some (0, 71) := by kernel_rfl
theorem am_fi74_1 : fieldOf Tryd.prog 74 1 = some (1, 72) := by kernel_rfl
theorem am_pl74 : placesL Tryd.prog 74 = some [(0, 1), (1, 1)] := by kernel_rfl
theorem am_ag75 : isAggT Tryd.prog 75 = some false := by kernel_rfl
theorem am_cl75 : Tryd.prog.cellsOf 75 = 1 := by kernel_rfl
theorem am_in76 : (Tryd.prog.info? 76).isSome = true := by kernel_rfl
theorem am_ag76 : isAggT Tryd.prog 76 = some false := by kernel_rfl
theorem am_cl76 : Tryd.prog.cellsOf 76 = 1 := by kernel_rfl
theorem am_by76 : Tryd.prog.bytesOf 76 = 24 := by kernel_rfl
theorem am_el76 : elemOfSlice Tryd.prog 76 = some 9 := by kernel_rfl
theorem am_ze76 : zeroCellsAV Tryd.prog 76 = some [.lit (.slice none 0 0)] := by kernel_rfl
theorem am_ag77 : isAggT Tryd.prog 77 = some false := by kernel_rfl
theorem am_cl77 : Tryd.prog.cellsOf 77 = 1 := by kernel_rfl
theorem am_ag78 : isAggT Tryd.prog 78 = some false := by kernel_rfl
theorem am_cl78 : Tryd.prog.cellsOf 78 = 1 := by kernel_rfl
theorem am_ag80 : isAggT Tryd.prog 80 = some false := by kernel_rfl
theorem am_cl80 : Tryd.prog.cellsOf 80 = 1 := by kernel_rfl
theorem am_ag81 : isAggT Tryd.prog 81 = some false := by kernel_rfl
theorem am_cl81 : Tryd.prog.cellsOf 81 = 1 := by kernel_rfl
theorem am_ag82 : isAggT Tryd.prog 82 = some false := by kernel_rfl
theorem am_cl82 : Tryd.prog.cellsOf 82 = 1 := by kernel_rfl
theorem am_ag83 : isAggT Tryd.prog 83 = some false := by kernel_rfl
theorem am_cl83 : Tryd.prog.cellsOf 83 = 1 := by kernel_rfl
theorem am_ag84 : isAggT Tryd.prog 84 = some false := by kernel_rfl
theorem am_cl84 : Tryd.prog.cellsOf 84 = 1 := by kernel_rfl
theorem am_ag85 : isAggT Tryd.prog 85 = some false := by kernel_rfl
theorem am_cl85 : Tryd.prog.cellsOf 85 = 1 := by kernel_rfl
theorem am_ag86 : isAggT Tryd.prog 86 = some false := by kernel_rfl
theorem am_cl86 : Tryd.prog.cellsOf 86 = 1 := by kernel_rfl
theorem am_ag87 : isAggT Tryd.prog 87 = some false := by kernel_rfl
theorem am_cl87 : Tryd.prog.cellsOf 87 = 1 := by kernel_rfl
theorem am_ag88 : isAggT Tryd.prog 88 = some false := by kernel_rfl
theorem am_cl88 : Tryd.prog.cellsOf 88 = 1 := by kernel_rfl
theorem am_ag89 : isAggT Tryd.prog 89 = some false := by kernel_rfl
theorem am_cl89 : Tryd.prog.cellsOf 89 = 1 := by kernel_rfl
theorem am_in90 : (Tryd.prog.info? 90).isSome = true := by kernel_rfl
theorem am_ag90 : isAggT Tryd.prog 90 = some true := by kernel_rfl
theorem am_cl90 : Tryd.prog.cellsOf 90 = 2 := by kernel_rfl
theorem am_by90 : Tryd.prog.bytesOf 90 = 16 := by kernel_rfl
theorem am_el90 : elemOfSlice Tryd.prog 90 = none := by kernel_rfl
theorem am_ze90 : zeroCellsAV Tryd.prog 90 = some [.lit (.int .i64 0), .lit (.int .i64 0)] := by kernel_rfl
theorem am_fi90_0 : fieldOf Tryd.prog 90 0 = some (0, 3) := by kernel_rfl
theorem am_fi90_1 : fieldOf Tryd.prog 90 1 = some (1, 3) := by kernel_rfl
theorem am_pl90 : placesL Tryd.prog 90 = some [(0, 1), (1, 1)] := by kernel_rfl
theorem am_in91 : (Tryd.prog.info? 91).isSome = true := by kernel_rfl
theorem am_ag91 : isAggT Tryd.prog 91 = some true := by kernel_rfl
theorem am_cl91 : Tryd.prog.cellsOf 91 = 2 := by kernel_rfl
theorem am_by91 : Tryd.prog.bytesOf 91 = 16 := by kernel_rfl
theorem am_el91 : elemOfSlice Tryd.prog 91 = none := by kernel_rfl
theorem am_ze91 : zeroCellsAV Tryd.prog 91 = some [.lit (.int .i64 0), .lit (.int .i64 0)] := by kernel_rfl
theorem am_fi91_0 : fieldOf Tryd.prog 91 0 = some (0, 3) := by kernel_rfl
theorem am_fi91_1 : fieldOf Tryd.prog 91 1 = some (1, 3) := by kernel_rfl
theorem am_pl91 : placesL Tryd.prog 91 = some [(0, 1), (1, 1)] := by kernel_rfl
theorem am_ag93 : isAggT Tryd.prog 93 = some false := by kernel_rfl
theorem am_cl93 : Tryd.prog.cellsOf 93 = 1 := by kernel_rfl
theorem am_ag94 : isAggT Tryd.prog 94 = some false := by kernel_rfl
theorem am_cl94 : Tryd.prog.cellsOf 94 = 1 := by kernel_rfl
theorem am_ag95 : isAggT Tryd.prog 95 = some false := by kernel_rfl
theorem am_cl95 : Tryd.prog.cellsOf 95 = 1 := by kernel_rfl
theorem am_in96 : (Tryd.prog.info? 96).isSome = true := by kernel_rfl
theorem am_ag96 : isAggT Tryd.prog 96 = some false := by kernel_rfl
theorem am_cl96 : Tryd.prog.cellsOf 96 = 1 := by kernel_rfl
theorem am_by96 : Tryd.prog.bytesOf 96 = 8 := by kernel_rfl
theorem am_el96 : elemOfSlice Tryd.prog 96 = none := by kernel_rfl
theorem am_ze96 : zeroCellsAV Tryd.prog 96 = some [.lit (.int .u64 0)] := by kernel_rfl
theorem am_ag97 : isAggT Tryd.prog 97 = some false := by kernel_rfl
theorem am_cl97 : Tryd.prog.cellsOf 97 = 1 := by kernel_rfl
theorem am_ag98 : isAggT Tryd.prog 98 = some false := by kernel_rfl
theorem am_cl98 : Tryd.prog.cellsOf 98 = 1 := by kernel_rfl
theorem am_in99 : (Tryd.prog.info? 99).isSome = true := by kernel_rfl
theorem am_ag99 : isAggT Tryd.prog 99 = some false := by kernel_rfl
theorem am_cl99 : Tryd.prog.cellsOf 99 = 1 := by kernel_rfl
theorem am_by99 : Tryd.prog.bytesOf 99 = 8 := by kernel_rfl
theorem am_el99 : elemOfSlice Tryd.prog 99 = none := by kernel_rfl
theorem am_ze99 : zeroCellsAV Tryd.prog 99 = some [.lit (.pointer none)] := by kernel_rfl
theorem am_ag100 : isAggT Tryd.prog 100 = some false := by kernel_rfl
theorem am_cl100 : Tryd.prog.cellsOf 100 = 1 := by kernel_rfl
theorem am_ag101 : isAggT Tryd.prog 101 = some false := by kernel_rfl
theorem am_cl101 : Tryd.prog.cellsOf 101 = 1 := by kernel_rfl
theorem am_ag102 : isAggT Tryd.prog 102 = some false := by kernel_rfl
theorem am_cl102 : Tryd.prog.cellsOf 102 = 1 := by kernel_rfl
theorem am_ag104 : isAggT Tryd.prog 104 = some false := by kernel_rfl
theorem am_cl104 : Tryd.prog.cellsOf 104 = 1 := by kernel_rfl
theorem am_ag105 : isAggT Tryd.prog 105 = some false := by kernel_rfl
theorem am_cl105 : Tryd.prog.cellsOf 105 = 1 := by kernel_rfl
theorem am_ag106 : isAggT Tryd.prog 106 = some false := by kernel_rfl
theorem am_cl106 : Tryd.prog.cellsOf 106 = 1 := by kernel_rfl
theorem am_in107 : (Tryd.prog.info? 107).isSome = true := by kernel_rfl
theorem am_ag107 : isAggT Tryd.prog 107 = some false := by kernel_rfl
theorem am_cl107 : Tryd.prog.cellsOf 107 = 1 := by kernel_rfl
theorem am_by107 : Tryd.prog.bytesOf 107 = 8 := by kernel_rfl
theorem am_el107 : elemOfSlice Tryd.prog 107 = none := by kernel_rfl
theorem am_ze107 : zeroCellsAV Tryd.prog 107 = some [.lit (.int .i64 0)] := by kernel_rfl
theorem am_ag109 : isAggT Tryd.prog 109 = some false := by kernel_rfl
theorem am_cl109 : Tryd.prog.cellsOf 109 = 1 := by kernel_rfl
theorem am_ag110 : isAggT Tryd.prog 110 = some false := by kernel_rfl
theorem am_cl110 : Tryd.prog.cellsOf 110 = 1 := by kernel_rfl
theorem am_ag111 : isAggT Tryd.prog 111 = some false := by kernel_rfl
theorem am_cl111 : Tryd.prog.cellsOf 111 = 1 := by kernel_rfl
theorem am_ag113 : isAggT Tryd.prog 113 = some false := by kernel_rfl
theorem am_cl113 : Tryd.prog.cellsOf 113 = 1 := by kernel_rfl
theorem am_ag114 : isAggT Tryd.prog 114 = some false := by kernel_rfl
theorem am_cl114 : Tryd.prog.cellsOf 114 = 1 := by kernel_rfl
theorem am_in115 : (Tryd.prog.info? 115).isSome = true := by kernel_rfl
theorem am_ag115 : isAggT Tryd.prog 115 = some false := by kernel_rfl
theorem am_cl115 : Tryd.prog.cellsOf 115 = 1 := by kernel_rfl
theorem am_by115 : Tryd.prog.bytesOf 115 = 4 := by kernel_rfl
theorem am_el115 : elemOfSlice Tryd.prog 115 = none := by kernel_rfl
theorem am_ze115 : zeroCellsAV Tryd.prog 115 = some [.lit (.int .u32 0)] := by kernel_rfl
theorem am_ag116 : isAggT Tryd.prog 116 = some false := by kernel_rfl
theorem am_cl116 : Tryd.prog.cellsOf 116 = 1 := by kernel_rfl
theorem am_in117 : (Tryd.prog.info? 117).isSome = true := by kernel_rfl
theorem am_ag117 : isAggT Tryd.prog 117 = some false := by kernel_rfl
theorem am_cl117 : Tryd.prog.cellsOf 117 = 1 := by kernel_rfl
theorem am_by117 : Tryd.prog.bytesOf 117 = 8 := by kernel_rfl
theorem am_el117 : elemOfSlice Tryd.prog 117 = none := by kernel_rfl
theorem am_ze117 : zeroCellsAV Tryd.prog 117 = some [.lit (.int .u64 0)] := by kernel_rfl
theorem am_in118 : (Tryd.prog.info? 118).isSome = true := by kernel_rfl
theorem am_ag118 : isAggT Tryd.prog 118 = some false := by kernel_rfl
theorem am_cl118 : Tryd.prog.cellsOf 118 = 1 := by kernel_rfl
theorem am_by118 : Tryd.prog.bytesOf 118 = 24 := by kernel_rfl
theorem am_el118 : elemOfSlice Tryd.prog 118 = some 121 := by kernel_rfl
theorem am_ze118 : zeroCellsAV Tryd.prog 118 = some [.lit (.slice none 0 0)] := by kernel_rfl
theorem am_ag119 : isAggT Tryd.prog 119 = some false := by kernel_rfl
theorem am_cl119 : Tryd.prog.cellsOf 119 = 1 := by kernel_rfl
theorem am_in120 : (Tryd.prog.info? 120).isSome = true := by kernel_rfl
theorem am_ag120 : isAggT Tryd.prog 120 = some true := by kernel_rfl
theorem am_cl120 : Tryd.prog.cellsOf 120 = 2 := by kernel_rfl
theorem am_by120 : Tryd.prog.bytesOf 120 = 16 := by kernel_rfl
theorem am_el120 : elemOfSlice Tryd.prog 120 = none := by kernel_rfl
theorem am_ze120 : zeroCellsAV Tryd.prog 120 = some [.lit (.int .i64 0), .lit (.int .u8 0)] := by kernel_rfl
theorem am_fi120_0 : fieldOf Tryd.prog 120 0 = some (0, 3) := by kernel_rfl
theorem am_fi120_1 : fieldOf Tryd.prog 120 1 = some (1, 5) := by kernel_rfl
theorem am_pl120 : placesL Tryd.prog 120 = some [(0, 1), (1, 1)] := by kernel_rfl
theorem am_in121 : (Tryd.prog.info? 121).isSome = true := by kernel_rfl
theorem am_ag121 : isAggT Tryd.prog 121 = some true := by kernel_rfl
theorem am_cl121 : Tryd.prog.cellsOf 121 = 2 := by kernel_rfl
theorem am_by121 : Tryd.prog.bytesOf 121 = 16 := by kernel_rfl
theorem am_el121 : elemOfSlice Tryd.prog 121 = none := by kernel_rfl
theorem am_ze121 : zeroCellsAV Tryd.prog 121 = some [.lit (.int .i64 0), .lit (.int .u8 0)] := by kernel_rfl
theorem am_fi121_0 : fieldOf Tryd.prog 121 0 = some (0, 3) := by kernel_rfl
theorem am_fi121_1 : fieldOf Tryd.prog 121 1 = some (1, 5) := by kernel_rfl
theorem am_pl121 : placesL Tryd.prog 121 = some [(0, 1), (1, 1)] := by kernel_rfl
theorem am_ag122 : isAggT Tryd.prog 122 = some false := by kernel_rfl
theorem am_cl122 : Tryd.prog.cellsOf 122 = 1 := by kernel_rfl
theorem am_ag123 : isAggT Tryd.prog 123 = some false := by kernel_rfl
theorem am_cl123 : Tryd.prog.cellsOf 123 = 1 := by kernel_rfl
theorem am_ag125 : isAggT Tryd.prog 125 = some false := by kernel_rfl
theorem am_cl125 : Tryd.prog.cellsOf 125 = 1 := by kernel_rfl
theorem am_in126 : (Tryd.prog.info? 126).isSome = true := by kernel_rfl
theorem am_ag126 : isAggT Tryd.prog 126 = some false := by kernel_rfl
theorem am_cl126 : Tryd.prog.cellsOf 126 = 1 := by kernel_rfl
theorem am_by126 : Tryd.prog.bytesOf 126 = 8 := by kernel_rfl
theorem am_el126 : elemOfSlice Tryd.prog 126 = none := by kernel_rfl
theorem am_ze126 : zeroCellsAV Tryd.prog 126 = some [.lit (.int .u64 0)] := by kernel_rfl
theorem am_ag127 : isAggT Tryd.prog 127 = some false := by kernel_rfl
theorem am_cl127 : Tryd.prog.cellsOf 127 = 1 := by kernel_rfl
theorem am_ag128 : isAggT Tryd.prog 128 = some false := by kernel_rfl
theorem am_cl128 : Tryd.prog.cellsOf 128 = 1 := by kernel_rfl
theorem am_ag129 : isAggT Tryd.prog 129 = some false := by kernel_rfl
theorem am_cl129 : Tryd.prog.cellsOf 129 = 1 := by kernel_rfl
theorem am_in130 : (Tryd.prog.info? 130).isSome = true := by kernel_rfl
theorem am_ag130 : isAggT Tryd.prog 130 = some false := by kernel_rfl
theorem am_cl130 : Tryd.prog.cellsOf 130 = 1 := by kernel_rfl
theorem am_by130 : Tryd.prog.bytesOf 130 = 8 := by kernel_rfl
theorem am_el130 : elemOfSlice Tryd.prog 130 = none := by kernel_rfl
theorem am_ze130 : zeroCellsAV Tryd.prog 130 = some [.lit (.pointer none)] := by kernel_rfl
theorem am_ag131 : isAggT Tryd.prog 131 = some false := by kernel_rfl
theorem am_cl131 : Tryd.prog.cellsOf 131 = 1 := by kernel_rfl
theorem am_in132 : (Tryd.prog.info? 132).isSome = true := by kernel_rfl
theorem am_ag132 : isAggT Tryd.prog 132 = some true := by kernel_rfl
theorem am_cl132 : Tryd.prog.cellsOf 132 = 24 := by kernel_rfl
theorem am_by132 : Tryd.prog.bytesOf 132 = 24 := by kernel_rfl
theorem am_el132 : elemOfSlice Tryd.prog 132 = none := by kernel_rfl
theorem am_ze132 : zeroCellsAV Tryd.prog 132 = some [.lit (.int .u8 0), .lit (.int .u8 0), .lit (.int .u8 0), .lit (.int .u8 0), .lit (.int .u8 0), .lit (.int .u8 0), .lit (.int .u8 0), .lit (.int .u8 0), .lit (.int .u8 0), .lit (.int .u8 0), .lit (.int .u8 0), .lit (.int .u8 0), .lit (.int .u8 0), .lit (.int .u8 0), .lit (.int .u8 0), .lit (.int .u8 0), .lit (.int .u8 0), .lit (.int .u8 0), .lit (.int .u8 0), .lit (.int .u8 0), .lit (.int .u8 0), .lit (.int .u8 0), .lit (.int .u8 0), .lit (.int .u8 0)] := by kernel_rfl
theorem am_ar132 : arrOf Tryd.prog 132 = some (24, 5) := by kernel_rfl
theorem am_pn132 : placesL Tryd.prog 132 = none := by kernel_rfl
theorem am_ag133 : isAggT Tryd.prog 133 = some false := by kernel_rfl
theorem am_cl133 : Tryd.prog.cellsOf 133 = 1 := by kernel_rfl
theorem am_ag135 : isAggT Tryd.prog 135 = some false := by kernel_rfl
theorem am_cl135 : Tryd.prog.cellsOf 135 = 1 := by kernel_rfl
theorem am_ag136 : isAggT Tryd.prog 136 = some false := by kernel_rfl
theorem am_cl136 : Tryd.prog.cellsOf 136 = 1 := by kernel_rfl
theorem am_ag137 : isAggT Tryd.prog 137 = some false := by kernel_rfl
theorem am_cl137 : Tryd.prog.cellsOf 137 = 1 := by kernel_rfl
theorem am_ag138 : isAggT Tryd.prog 138 = some false := by kernel_rfl
theorem am_cl138 : Tryd.prog.cellsOf 138 = 1 := by kernel_rfl
theorem am_in139 : (Tryd.prog.info? 139).isSome = true := by kernel_rfl
theorem am_ag139 : isAggT Tryd.prog 139 = some false := by kernel_rfl
theorem am_cl139 : Tryd.prog.cellsOf 139 = 1 := by kernel_rfl
theorem am_by139 : Tryd.prog.bytesOf 139 = 8 := by kernel_rfl
theorem am_el139 : elemOfSlice Tryd.prog 139 = none := by kernel_rfl
theorem am_ze139 : zeroCellsAV Tryd.prog 139 = some [.lit (.pointer none)] := by kernel_rfl
theorem am_ag141 : isAggT Tryd.prog 141 = some false := by kernel_rfl
theorem am_cl141 : Tryd.prog.cellsOf 141 = 1 := by kernel_rfl
theorem am_ag142 : isAggT Tryd.prog 142 = some false := by kernel_rfl
theorem am_cl142 : Tryd.prog.cellsOf 142 = 1 := by kernel_rfl
theorem am_in143 : (Tryd.prog.info? 143).isSome = true := by kernel_rfl
theorem am_ag143 : isAggT Tryd.prog 143 = some true := by kernel_rfl
theorem am_cl143 : Tryd.prog.cellsOf 143 = 20 := by kernel_rfl
theorem am_by143 : Tryd.prog.bytesOf 143 = 160 := by kernel_rfl
theorem am_el143 : elemOfSlice Tryd.prog 143 = none := by kernel_rfl
theorem am_ze143 : zeroCellsAV Tryd.prog 143 = some [.lit (.int .u64 0), .lit (.int .u64 0), .lit (.int .u64 0), .lit (.int .u64 0), .lit (.int .u64 0), .lit (.int .u64 0), .lit (.int .u64 0), .lit (.int .u64 0), .lit (.int .u64 0), .lit (.int .u64 0), .lit (.int .u64 0), .lit (.int .u64 0), .lit (.int .u64 0), .lit (.int .u64 0), .lit (.int .u64 0), .lit (.int .u64 0), .lit (.int .u64 0), .lit (.int .u64 0), .lit (.int .u64 0), .lit (.int .u64 0)] := by kernel_rfl
theorem am_ar143 : arrOf Tryd.prog 143 = some (20, 117) := by kernel_rfl
theorem am_pn143 : placesL Tryd.prog 143 = none := by kernel_rfl
theorem am_in144 : (Tryd.prog.info? 144).isSome = true := by kernel_rfl
theorem am_ag144 : isAggT Tryd.prog 144 = some true := by kernel_rfl
theorem am_cl144 : Tryd.prog.cellsOf 144 = 65 := by kernel_rfl
theorem am_by144 : Tryd.prog.bytesOf 144 = 65 := by kernel_rfl
theorem am_el144 : elemOfSlice Tryd.prog 144 = none := by kernel_rfl
theorem am_ar144 : arrOf Tryd.prog 144 = some (65, 5) := by kernel_rfl
theorem am_pn144 : placesL Tryd.prog 144 = none := by kernel_rfl
theorem am_in145 : (Tryd.prog.info? 145).isSome = true := by kernel_rfl
theorem am_ag145 : isAggT Tryd.prog 145 = some true := by kernel_rfl
theorem am_cl145 : Tryd.prog.cellsOf 145 = 32 := by kernel_rfl
theorem am_by145 : Tryd.prog.bytesOf 145 = 32 := by kernel_rfl
theorem am_el145 : elemOfSlice Tryd.prog 145 = none := by kernel_rfl
theorem am_ze145 : zeroCellsAV Tryd.prog 145 = some [.lit (.int .u8 0), .lit (.int .u8 0), .lit (.int .u8 0), .lit (.int .u8 0), .lit (.int .u8 0), .lit (.int .u8 0), .lit (.int .u8 0), .lit (.int .u8 0), .lit (.int .u8 0), .lit (.int .u8 0), .lit (.int .u8 0), .lit (.int .u8 0), .lit (.int .u8 0), .lit (.int .u8 0), .lit (.int .u8 0), .lit (.int .u8 0), .lit (.int .u8 0), .lit (.int .u8 0), .lit (.int .u8 0), .lit (.int .u8 0), .lit (.int .u8 0), .lit (.int .u8 0), .lit (.int .u8 0), .lit (.int .u8 0), .lit (.int .u8 0), .lit (.int .u8 0), .lit (.int .u8 0), .lit (.int .u8 0), .lit (.int .u8 0), .lit (.int .u8 0), .lit (.int .u8 0), .lit (.int .u8 0)] := by kernel_rfl
theorem am_ar145 : arrOf Tryd.prog 145 = some (32, 5) := by kernel_rfl
theorem am_pn145 : placesL Tryd.prog 145 = none := by kernel_rfl
theorem am_in146 : (Tryd.prog.info? 146).isSome = true := by kernel_rfl
theorem am_ag146 : isAggT Tryd.prog 146 = some true := by kernel_rfl
theorem am_cl146 : Tryd.prog.cellsOf 146 = 64 := by kernel_rfl
theorem am_by146 : Tryd.prog.bytesOf 146 = 64 := by kernel_rfl
theorem am_el146 : elemOfSlice Tryd.prog 146 = none := by kernel_rfl
theorem am_ar146 : arrOf Tryd.prog 146 = some (64, 5) := by kernel_rfl
theorem am_pn146 : placesL Tryd.prog 146 = none := by kernel_rfl
theorem am_in147 : (Tryd.prog.info? 147).isSome = true := by kernel_rfl
theorem am_ag147 : isAggT Tryd.prog 147 = some true := by kernel_rfl
theorem am_cl147 : Tryd.prog.cellsOf 147 = 4 := by kernel_rfl
theorem am_by147 : Tryd.prog.bytesOf 147 = 40 := by kernel_rfl
theorem am_el147 : elemOfSlice Tryd.prog 147 = none := by kernel_rfl
theorem am_ze147 : zeroCellsAV Tryd.prog 147 = some [.lit (.pointer none), .lit (.pointer none), .lit (.pointer none), .lit (.string ByteArray.empty)] := by kernel_rfl
theorem am_fi147_0 : fieldOf Tryd.prog 147 0 = some (0, 17) := by kernel_rfl
theorem am_fi147_1 : fieldOf Tryd.prog 147 1 = some (1, 17) := by kernel_rfl
theorem am_fi147_2 : fieldOf Tryd.prog 147 2 = some (2, 17) := by kernel_rfl
theorem am_fi147_3 : fieldOf Tryd.prog 147 3 = some (3, 9) := by kernel_rfl
theorem am_pl147 : placesL Tryd.prog 147 = some [(0, 1), (1, 1), (2, 1), (3, 1)] := by kernel_rfl
theorem am_in148 : (Tryd.prog.info? 148).isSome = true := by kernel_rfl
theorem am_ag148 : isAggT Tryd.prog 148 = some true := by kernel_rfl
theorem am_cl148 : Tryd.prog.cellsOf 148 = 4 := by kernel_rfl
theorem am_by148 : Tryd.prog.bytesOf 148 = 40 := by kernel_rfl
theorem am_el148 : elemOfSlice Tryd.prog 148 = none := by kernel_rfl
theorem am_ze148 : zeroCellsAV Tryd.prog 148 = some [.lit (.pointer none), .lit (.pointer none), .lit (.pointer none), .lit (.string ByteArray.empty)] := by kernel_rfl
theorem am_fi148_0 : fieldOf Tryd.prog 148 0 = some (0, 17) := by kernel_rfl
theorem am_fi148_1 : fieldOf Tryd.prog 148 1 = some (1, 17) := by kernel_rfl
theorem am_fi148_2 : fieldOf Tryd.prog 148 2 = some (2, 17) := by kernel_rfl
theorem am_fi148_3 : fieldOf Tryd.prog 148 3 = some (3, 9) := by kernel_rfl
theorem am_pl148 : placesL Tryd.prog 148 = some [(0, 1), (1, 1), (2, 1), (3, 1)] := by kernel_rfl
theorem am_in149 : (Tryd.prog.info? 149).isSome = true := by kernel_rfl
theorem am_ag149 : isAggT Tryd.prog 149 = some true := by kernel_rfl
theorem am_cl149 : Tryd.prog.cellsOf 149 = 0 := by kernel_rfl
theorem am_by149 : Tryd.prog.bytesOf 149 = 0 := by kernel_rfl
theorem am_el149 : elemOfSlice Tryd.prog 149 = none := by kernel_rfl
theorem am_ze149 : zeroCellsAV Tryd.prog 149 = some [] := by kernel_rfl
theorem am_ar149 : arrOf Tryd.prog 149 = some (0, 16) := by kernel_rfl
theorem am_pn149 : placesL Tryd.prog 149 = none := by kernel_rfl
theorem am_in150 : (Tryd.prog.info? 150).isSome = true := by kernel_rfl
theorem am_ag150 : isAggT Tryd.prog 150 = some true := by kernel_rfl
theorem am_cl150 : Tryd.prog.cellsOf 150 = 0 := by kernel_rfl
theorem am_by150 : Tryd.prog.bytesOf 150 = 0 := by kernel_rfl
theorem am_el150 : elemOfSlice Tryd.prog 150 = none := by kernel_rfl
theorem am_ze150 : zeroCellsAV Tryd.prog 150 = some [] := by kernel_rfl
theorem am_fi150_0 : fieldOf Tryd.prog 150 0 = some (0, 149) := by kernel_rfl
theorem am_pl150 : placesL Tryd.prog 150 = some [(0, 0)] := by kernel_rfl
theorem am_in151 : (Tryd.prog.info? 151).isSome = true := by kernel_rfl
theorem am_ag151 : isAggT Tryd.prog 151 = some true := by kernel_rfl
theorem am_cl151 : Tryd.prog.cellsOf 151 = 0 := by kernel_rfl
theorem am_by151 : Tryd.prog.bytesOf 151 = 0 := by kernel_rfl
theorem am_el151 : elemOfSlice Tryd.prog 151 = none := by kernel_rfl
theorem am_ze151 : zeroCellsAV Tryd.prog 151 = some [] := by kernel_rfl
theorem am_fi151_0 : fieldOf Tryd.prog 151 0 = some (0, 149) := by kernel_rfl
theorem am_pl151 : placesL Tryd.prog 151 = some [(0, 0)] := by kernel_rfl
theorem am_in152 : (Tryd.prog.info? 152).isSome = true := by kernel_rfl
theorem am_ag152 : isAggT Tryd.prog 152 = some false := by kernel_rfl
theorem am_cl152 : Tryd.prog.cellsOf 152 = 1 := by kernel_rfl
theorem am_by152 : Tryd.prog.bytesOf 152 = 1 := by kernel_rfl
theorem am_el152 : elemOfSlice Tryd.prog 152 = none := by kernel_rfl
theorem am_ze152 : zeroCellsAV Tryd.prog 152 = some [.lit (.int .u8 0)] := by kernel_rfl
theorem am_in153 : (Tryd.prog.info? 153).isSome = true := by kernel_rfl
theorem am_ag153 : isAggT Tryd.prog 153 = some false := by kernel_rfl
theorem am_cl153 : Tryd.prog.cellsOf 153 = 1 := by kernel_rfl
theorem am_by153 : Tryd.prog.bytesOf 153 = 1 := by kernel_rfl
theorem am_el153 : elemOfSlice Tryd.prog 153 = none := by kernel_rfl
theorem am_ze153 : zeroCellsAV Tryd.prog 153 = some [.lit (.int .u8 0)] := by kernel_rfl
theorem am_ag154 : isAggT Tryd.prog 154 = some false := by kernel_rfl
theorem am_cl154 : Tryd.prog.cellsOf 154 = 1 := by kernel_rfl
theorem am_in155 : (Tryd.prog.info? 155).isSome = true := by kernel_rfl
theorem am_ag155 : isAggT Tryd.prog 155 = some false := by kernel_rfl
theorem am_cl155 : Tryd.prog.cellsOf 155 = 1 := by kernel_rfl
theorem am_by155 : Tryd.prog.bytesOf 155 = 4 := by kernel_rfl
theorem am_el155 : elemOfSlice Tryd.prog 155 = none := by kernel_rfl
theorem am_ze155 : zeroCellsAV Tryd.prog 155 = some [.lit (.int .i32 0)] := by kernel_rfl
theorem am_in156 : (Tryd.prog.info? 156).isSome = true := by kernel_rfl
theorem am_ag156 : isAggT Tryd.prog 156 = some false := by kernel_rfl
theorem am_cl156 : Tryd.prog.cellsOf 156 = 1 := by kernel_rfl
theorem am_by156 : Tryd.prog.bytesOf 156 = 4 := by kernel_rfl
theorem am_el156 : elemOfSlice Tryd.prog 156 = none := by kernel_rfl
theorem am_ze156 : zeroCellsAV Tryd.prog 156 = some [.lit (.int .i32 0)] := by kernel_rfl
theorem am_in157 : (Tryd.prog.info? 157).isSome = true := by kernel_rfl
theorem am_ag157 : isAggT Tryd.prog 157 = some true := by kernel_rfl
theorem am_cl157 : Tryd.prog.cellsOf 157 = 11 := by kernel_rfl
theorem am_by157 : Tryd.prog.bytesOf 157 = 48 := by kernel_rfl
theorem am_el157 : elemOfSlice Tryd.prog 157 = none := by kernel_rfl
theorem am_ze157 : zeroCellsAV Tryd.prog 157 = some [.lit (.int .u64 0), .lit (.int .u64 0), .lit (.int .u32 0), .lit (.int .u8 0), .lit (.int .u8 0), .lit (.int .u8 0), .lit (.int .u8 0), .lit (.nilFunc), .lit (.pointer none), .lit (.int .i32 0), .lit (.int .i32 0)] := by kernel_rfl
theorem am_fi157_0 : fieldOf Tryd.prog 157 0 = some (0, 12) := by kernel_rfl
theorem am_fi157_1 : fieldOf Tryd.prog 157 1 = some (1, 12) := by kernel_rfl
theorem am_fi157_2 : fieldOf Tryd.prog 157 2 = some (2, 115) := by kernel_rfl
theorem am_fi157_3 : fieldOf Tryd.prog 157 3 = some (3, 152) := by kernel_rfl
theorem am_fi157_4 : fieldOf Tryd.prog 157 4 = some (4, 5) := by kernel_rfl
theorem am_fi157_5 : fieldOf Tryd.prog 157 5 = some (5, 5) := by kernel_rfl
theorem am_fi157_6 : fieldOf Tryd.prog 157 6 = some (6, 153) := by kernel_rfl
theorem am_fi157_7 : fieldOf Tryd.prog 157 7 = some (7, 154) := by kernel_rfl
theorem am_fi157_8 : fieldOf Tryd.prog 157 8 = some (8, 99) := by kernel_rfl
theorem am_fi157_9 : fieldOf Tryd.prog 157 9 = some (9, 155) := by kernel_rfl
theorem am_fi157_10 : fieldOf Tryd.prog 157 10 = some (10, 156) := by kernel_rfl
theorem am_pl157 : placesL Tryd.prog 157 = some [(0, 1), (1, 1), (2, 1), (3, 1), (4, 1), (5, 1), (6, 1), (7, 1), (8, 1), (9, 1), (10, 1)] := by kernel_rfl
theorem am_in158 : (Tryd.prog.info? 158).isSome = true := by kernel_rfl
theorem am_ag158 : isAggT Tryd.prog 158 = some true := by kernel_rfl
theorem am_cl158 : Tryd.prog.cellsOf 158 = 11 := by kernel_rfl
theorem am_by158 : Tryd.prog.bytesOf 158 = 48 := by kernel_rfl
theorem am_el158 : elemOfSlice Tryd.prog 158 = none := by kernel_rfl
theorem am_ze158 : zeroCellsAV Tryd.prog 158 = some [.lit (.int .u64 0), .lit (.int .u64 0), .lit (.int .u32 0), .lit (.int .u8 0), .lit (.int .u8 0), .lit (.int .u8 0), .lit (.int .u8 0), .lit (.nilFunc), .lit (.pointer none), .lit (.int .i32 0), .lit (.int .i32 0)] := by kernel_rfl
theorem am_fi158_0 : fieldOf Tryd.prog 158 0 = some (0, 12) := by kernel_rfl
theorem am_fi158_1 : fieldOf Tryd.prog 158 1 = some (1, 12) := by kernel_rfl
theorem am_fi158_2 : fieldOf Tryd.prog 158 2 = some (2, 115) := by kernel_rfl
theorem am_fi158_3 : fieldOf Tryd.prog 158 3 = some (3, 152) := by kernel_rfl
theorem am_fi158_4 : fieldOf Tryd.prog 158 4 = some (4, 5) := by kernel_rfl
theorem am_fi158_5 : fieldOf Tryd.prog 158 5 = some (5, 5) := by kernel_rfl
theorem am_fi158_6 : fieldOf Tryd.prog 158 6 = some (6, 153) := by kernel_rfl
theorem am_fi158_7 : fieldOf Tryd.prog 158 7 = some (7, 154) := by kernel_rfl
theorem am_fi158_8 : fieldOf Tryd.prog 158 8 = some (8, 99) := by kernel_rfl
theorem am_fi158_9 : fieldOf Tryd.prog 158 9 = some (9, 155) := by kernel_rfl
theorem am_fi158_10 : fieldOf Tryd.prog 158 10 = some (10, 156) := by kernel_rfl
theorem am_pl158 : placesL Tryd.prog 158 = some [(0, 1), (1, 1), (2, 1), (3, 1), (4, 1), (5, 1), (6, 1), (7, 1), (8, 1), (9, 1), (10, 1)] := by kernel_rfl

end Go.Proofs.YtddogeicmhbidaaDoor

