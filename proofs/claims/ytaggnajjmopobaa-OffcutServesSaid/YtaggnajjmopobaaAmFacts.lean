/-
  Closed facts on the types of the program, as the abstract machine asks them.
  Conditions: none.
-/
import Derived.Test.YtaggnajjmopobaaAmStep
import Derived.Test.YtaggnajjmopobaaChecked
import Derived.KernelRfl
namespace Go.Proofs.Ytaggnajjmopobaa
open Go.AM
theorem am_ag1 : isAggT Try.prog 1 = some false := by kernel_rfl
theorem am_cl1 : Try.prog.cellsOf 1 = 1 := by kernel_rfl
theorem am_in2 : (Try.prog.info? 2).isSome = true := by kernel_rfl
theorem am_ag2 : isAggT Try.prog 2 = some false := by kernel_rfl
theorem am_cl2 : Try.prog.cellsOf 2 = 1 := by kernel_rfl
theorem am_by2 : Try.prog.bytesOf 2 = 8 := by kernel_rfl
theorem am_el2 : elemOfSlice Try.prog 2 = none := by kernel_rfl
theorem am_ze2 : zeroCellsAV Try.prog 2 = some [.lit (.int .i64 0)] := by kernel_rfl
theorem am_in3 : (Try.prog.info? 3).isSome = true := by kernel_rfl
theorem am_ag3 : isAggT Try.prog 3 = some false := by kernel_rfl
theorem am_cl3 : Try.prog.cellsOf 3 = 1 := by kernel_rfl
theorem am_by3 : Try.prog.bytesOf 3 = 8 := by kernel_rfl
theorem am_el3 : elemOfSlice Try.prog 3 = none := by kernel_rfl
theorem am_ze3 : zeroCellsAV Try.prog 3 = some [.lit (.int .i64 0)] := by kernel_rfl
theorem am_in4 : (Try.prog.info? 4).isSome = true := by kernel_rfl
theorem am_ag4 : isAggT Try.prog 4 = some false := by kernel_rfl
theorem am_cl4 : Try.prog.cellsOf 4 = 1 := by kernel_rfl
theorem am_by4 : Try.prog.bytesOf 4 = 1 := by kernel_rfl
theorem am_el4 : elemOfSlice Try.prog 4 = none := by kernel_rfl
theorem am_ze4 : zeroCellsAV Try.prog 4 = some [.lit (.bool false)] := by kernel_rfl
theorem am_in5 : (Try.prog.info? 5).isSome = true := by kernel_rfl
theorem am_ag5 : isAggT Try.prog 5 = some false := by kernel_rfl
theorem am_cl5 : Try.prog.cellsOf 5 = 1 := by kernel_rfl
theorem am_by5 : Try.prog.bytesOf 5 = 1 := by kernel_rfl
theorem am_el5 : elemOfSlice Try.prog 5 = none := by kernel_rfl
theorem am_ze5 : zeroCellsAV Try.prog 5 = some [.lit (.int .u8 0)] := by kernel_rfl
theorem am_in6 : (Try.prog.info? 6).isSome = true := by kernel_rfl
theorem am_ag6 : isAggT Try.prog 6 = some false := by kernel_rfl
theorem am_cl6 : Try.prog.cellsOf 6 = 1 := by kernel_rfl
theorem am_by6 : Try.prog.bytesOf 6 = 1 := by kernel_rfl
theorem am_el6 : elemOfSlice Try.prog 6 = none := by kernel_rfl
theorem am_ze6 : zeroCellsAV Try.prog 6 = some [.lit (.int .u8 0)] := by kernel_rfl
theorem am_in7 : (Try.prog.info? 7).isSome = true := by kernel_rfl
theorem am_ag7 : isAggT Try.prog 7 = some true := by kernel_rfl
theorem am_cl7 : Try.prog.cellsOf 7 = 4 := by kernel_rfl
theorem am_by7 : Try.prog.bytesOf 7 = 24 := by kernel_rfl
theorem am_el7 : elemOfSlice Try.prog 7 = none := by kernel_rfl
theorem am_ze7 : zeroCellsAV Try.prog 7 = some [.lit (.int .i64 0), .lit (.int .i64 0), .lit (.bool false), .lit (.int .u8 0)] := by kernel_rfl
theorem am_fi7_0 : fieldOf Try.prog 7 0 = some (0, 2) := by kernel_rfl
theorem am_fi7_1 : fieldOf Try.prog 7 1 = some (1, 3) := by kernel_rfl
theorem am_fi7_2 : fieldOf Try.prog 7 2 = some (2, 4) := by kernel_rfl
theorem am_fi7_3 : fieldOf Try.prog 7 3 = some (3, 6) := by kernel_rfl
theorem am_pl7 : placesL Try.prog 7 = some [(0, 1), (1, 1), (2, 1), (3, 1)] := by kernel_rfl
theorem am_in8 : (Try.prog.info? 8).isSome = true := by kernel_rfl
theorem am_ag8 : isAggT Try.prog 8 = some true := by kernel_rfl
theorem am_cl8 : Try.prog.cellsOf 8 = 4 := by kernel_rfl
theorem am_by8 : Try.prog.bytesOf 8 = 24 := by kernel_rfl
theorem am_el8 : elemOfSlice Try.prog 8 = none := by kernel_rfl
theorem am_ze8 : zeroCellsAV Try.prog 8 = some [.lit (.int .i64 0), .lit (.int .i64 0), .lit (.bool false), .lit (.int .u8 0)] := by kernel_rfl
theorem am_fi8_0 : fieldOf Try.prog 8 0 = some (0, 2) := by kernel_rfl
theorem am_fi8_1 : fieldOf Try.prog 8 1 = some (1, 3) := by kernel_rfl
theorem am_fi8_2 : fieldOf Try.prog 8 2 = some (2, 4) := by kernel_rfl
theorem am_fi8_3 : fieldOf Try.prog 8 3 = some (3, 6) := by kernel_rfl
theorem am_pl8 : placesL Try.prog 8 = some [(0, 1), (1, 1), (2, 1), (3, 1)] := by kernel_rfl
theorem am_in9 : (Try.prog.info? 9).isSome = true := by kernel_rfl
theorem am_ag9 : isAggT Try.prog 9 = some false := by kernel_rfl
theorem am_cl9 : Try.prog.cellsOf 9 = 1 := by kernel_rfl
theorem am_by9 : Try.prog.bytesOf 9 = 16 := by kernel_rfl
theorem am_el9 : elemOfSlice Try.prog 9 = none := by kernel_rfl
theorem am_ze9 : zeroCellsAV Try.prog 9 = some [.lit (.string ByteArray.empty)] := by kernel_rfl
theorem am_in10 : (Try.prog.info? 10).isSome = true := by kernel_rfl
theorem am_ag10 : isAggT Try.prog 10 = some false := by kernel_rfl
theorem am_cl10 : Try.prog.cellsOf 10 = 1 := by kernel_rfl
theorem am_by10 : Try.prog.bytesOf 10 = 16 := by kernel_rfl
theorem am_el10 : elemOfSlice Try.prog 10 = none := by kernel_rfl
theorem am_ze10 : zeroCellsAV Try.prog 10 = some [.lit (.string ByteArray.empty)] := by kernel_rfl
theorem am_in11 : (Try.prog.info? 11).isSome = true := by kernel_rfl
theorem am_ag11 : isAggT Try.prog 11 = some false := by kernel_rfl
theorem am_cl11 : Try.prog.cellsOf 11 = 1 := by kernel_rfl
theorem am_by11 : Try.prog.bytesOf 11 = 16 := by kernel_rfl
theorem am_el11 : elemOfSlice Try.prog 11 = none := by kernel_rfl
theorem am_ze11 : zeroCellsAV Try.prog 11 = some [.lit (.string ByteArray.empty)] := by kernel_rfl
theorem am_in12 : (Try.prog.info? 12).isSome = true := by kernel_rfl
theorem am_ag12 : isAggT Try.prog 12 = some false := by kernel_rfl
theorem am_cl12 : Try.prog.cellsOf 12 = 1 := by kernel_rfl
theorem am_by12 : Try.prog.bytesOf 12 = 8 := by kernel_rfl
theorem am_el12 : elemOfSlice Try.prog 12 = none := by kernel_rfl
theorem am_ze12 : zeroCellsAV Try.prog 12 = some [.lit (.int .u64 0)] := by kernel_rfl
theorem am_in13 : (Try.prog.info? 13).isSome = true := by kernel_rfl
theorem am_ag13 : isAggT Try.prog 13 = some true := by kernel_rfl
theorem am_cl13 : Try.prog.cellsOf 13 = 2 := by kernel_rfl
theorem am_by13 : Try.prog.bytesOf 13 = 24 := by kernel_rfl
theorem am_el13 : elemOfSlice Try.prog 13 = none := by kernel_rfl
theorem am_ze13 : zeroCellsAV Try.prog 13 = some [.lit (.string ByteArray.empty), .lit (.int .u64 0)] := by kernel_rfl
theorem am_fi13_0 : fieldOf Try.prog 13 0 = some (0, 9) := by kernel_rfl
theorem am_fi13_1 : fieldOf Try.prog 13 1 = some (1, 12) := by kernel_rfl
theorem am_pl13 : placesL Try.prog 13 = some [(0, 1), (1, 1)] := by kernel_rfl
theorem am_in14 : (Try.prog.info? 14).isSome = true := by kernel_rfl
theorem am_ag14 : isAggT Try.prog 14 = some true := by kernel_rfl
theorem am_cl14 : Try.prog.cellsOf 14 = 2 := by kernel_rfl
theorem am_by14 : Try.prog.bytesOf 14 = 24 := by kernel_rfl
theorem am_el14 : elemOfSlice Try.prog 14 = none := by kernel_rfl
theorem am_ze14 : zeroCellsAV Try.prog 14 = some [.lit (.string ByteArray.empty), .lit (.int .u64 0)] := by kernel_rfl
theorem am_fi14_0 : fieldOf Try.prog 14 0 = some (0, 9) := by kernel_rfl
theorem am_fi14_1 : fieldOf Try.prog 14 1 = some (1, 12) := by kernel_rfl
theorem am_pl14 : placesL Try.prog 14 = some [(0, 1), (1, 1)] := by kernel_rfl
theorem am_in15 : (Try.prog.info? 15).isSome = true := by kernel_rfl
theorem am_ag15 : isAggT Try.prog 15 = some false := by kernel_rfl
theorem am_cl15 : Try.prog.cellsOf 15 = 1 := by kernel_rfl
theorem am_by15 : Try.prog.bytesOf 15 = 8 := by kernel_rfl
theorem am_el15 : elemOfSlice Try.prog 15 = none := by kernel_rfl
theorem am_ze15 : zeroCellsAV Try.prog 15 = some [.lit (.pointer none)] := by kernel_rfl
theorem am_in16 : (Try.prog.info? 16).isSome = true := by kernel_rfl
theorem am_ag16 : isAggT Try.prog 16 = some false := by kernel_rfl
theorem am_cl16 : Try.prog.cellsOf 16 = 1 := by kernel_rfl
theorem am_by16 : Try.prog.bytesOf 16 = 8 := by kernel_rfl
theorem am_el16 : elemOfSlice Try.prog 16 = none := by kernel_rfl
theorem am_ze16 : zeroCellsAV Try.prog 16 = some [.lit (.pointer none)] := by kernel_rfl
theorem am_in17 : (Try.prog.info? 17).isSome = true := by kernel_rfl
theorem am_ag17 : isAggT Try.prog 17 = some false := by kernel_rfl
theorem am_cl17 : Try.prog.cellsOf 17 = 1 := by kernel_rfl
theorem am_by17 : Try.prog.bytesOf 17 = 8 := by kernel_rfl
theorem am_el17 : elemOfSlice Try.prog 17 = none := by kernel_rfl
theorem am_ze17 : zeroCellsAV Try.prog 17 = some [.lit (.pointer none)] := by kernel_rfl
theorem am_in18 : (Try.prog.info? 18).isSome = true := by kernel_rfl
theorem am_ag18 : isAggT Try.prog 18 = some true := by kernel_rfl
theorem am_cl18 : Try.prog.cellsOf 18 = 1 := by kernel_rfl
theorem am_by18 : Try.prog.bytesOf 18 = 8 := by kernel_rfl
theorem am_el18 : elemOfSlice Try.prog 18 = none := by kernel_rfl
theorem am_ze18 : zeroCellsAV Try.prog 18 = some [.lit (.pointer none)] := by kernel_rfl
theorem am_fi18_0 : fieldOf Try.prog 18 0 = some (0, 17) := by kernel_rfl
theorem am_pl18 : placesL Try.prog 18 = some [(0, 1)] := by kernel_rfl
theorem am_in19 : (Try.prog.info? 19).isSome = true := by kernel_rfl
theorem am_ag19 : isAggT Try.prog 19 = some true := by kernel_rfl
theorem am_cl19 : Try.prog.cellsOf 19 = 1 := by kernel_rfl
theorem am_by19 : Try.prog.bytesOf 19 = 8 := by kernel_rfl
theorem am_el19 : elemOfSlice Try.prog 19 = none := by kernel_rfl
theorem am_ze19 : zeroCellsAV Try.prog 19 = some [.lit (.pointer none)] := by kernel_rfl
theorem am_fi19_0 : fieldOf Try.prog 19 0 = some (0, 17) := by kernel_rfl
theorem am_pl19 : placesL Try.prog 19 = some [(0, 1)] := by kernel_rfl
theorem am_ag20 : isAggT Try.prog 20 = some false := by kernel_rfl
theorem am_cl20 : Try.prog.cellsOf 20 = 1 := by kernel_rfl
theorem am_in21 : (Try.prog.info? 21).isSome = true := by kernel_rfl
theorem am_ag21 : isAggT Try.prog 21 = some false := by kernel_rfl
theorem am_cl21 : Try.prog.cellsOf 21 = 1 := by kernel_rfl
theorem am_by21 : Try.prog.bytesOf 21 = 4 := by kernel_rfl
theorem am_el21 : elemOfSlice Try.prog 21 = none := by kernel_rfl
theorem am_ze21 : zeroCellsAV Try.prog 21 = some [.lit (.int .i32 0)] := by kernel_rfl
theorem am_in22 : (Try.prog.info? 22).isSome = true := by kernel_rfl
theorem am_ag22 : isAggT Try.prog 22 = some false := by kernel_rfl
theorem am_cl22 : Try.prog.cellsOf 22 = 1 := by kernel_rfl
theorem am_by22 : Try.prog.bytesOf 22 = 24 := by kernel_rfl
theorem am_el22 : elemOfSlice Try.prog 22 = some 33 := by kernel_rfl
theorem am_ze22 : zeroCellsAV Try.prog 22 = some [.lit (.slice none 0 0)] := by kernel_rfl
theorem am_ag23 : isAggT Try.prog 23 = some false := by kernel_rfl
theorem am_cl23 : Try.prog.cellsOf 23 = 1 := by kernel_rfl
theorem am_ag24 : isAggT Try.prog 24 = some false := by kernel_rfl
theorem am_cl24 : Try.prog.cellsOf 24 = 1 := by kernel_rfl
theorem am_in25 : (Try.prog.info? 25).isSome = true := by kernel_rfl
theorem am_ag25 : isAggT Try.prog 25 = some false := by kernel_rfl
theorem am_cl25 : Try.prog.cellsOf 25 = 1 := by kernel_rfl
theorem am_by25 : Try.prog.bytesOf 25 = 8 := by kernel_rfl
theorem am_el25 : elemOfSlice Try.prog 25 = none := by kernel_rfl
theorem am_ze25 : zeroCellsAV Try.prog 25 = some [.lit (.pointer none)] := by kernel_rfl
theorem am_ag26 : isAggT Try.prog 26 = some false := by kernel_rfl
theorem am_cl26 : Try.prog.cellsOf 26 = 1 := by kernel_rfl
theorem am_ag27 : isAggT Try.prog 27 = some false := by kernel_rfl
theorem am_cl27 : Try.prog.cellsOf 27 = 1 := by kernel_rfl
theorem am_in28 : (Try.prog.info? 28).isSome = true := by kernel_rfl
theorem am_ag28 : isAggT Try.prog 28 = some false := by kernel_rfl
theorem am_cl28 : Try.prog.cellsOf 28 = 1 := by kernel_rfl
theorem am_by28 : Try.prog.bytesOf 28 = 24 := by kernel_rfl
theorem am_el28 : elemOfSlice Try.prog 28 = some 52 := by kernel_rfl
theorem am_ze28 : zeroCellsAV Try.prog 28 = some [.lit (.slice none 0 0)] := by kernel_rfl
theorem am_in29 : (Try.prog.info? 29).isSome = true := by kernel_rfl
theorem am_ag29 : isAggT Try.prog 29 = some true := by kernel_rfl
theorem am_cl29 : Try.prog.cellsOf 29 = 2 := by kernel_rfl
theorem am_by29 : Try.prog.bytesOf 29 = 32 := by kernel_rfl
theorem am_el29 : elemOfSlice Try.prog 29 = none := by kernel_rfl
theorem am_ze29 : zeroCellsAV Try.prog 29 = some [.lit (.int .i64 0), .lit (.slice none 0 0)] := by kernel_rfl
theorem am_fi29_0 : fieldOf Try.prog 29 0 = some (0, 3) := by kernel_rfl
theorem am_fi29_1 : fieldOf Try.prog 29 1 = some (1, 28) := by kernel_rfl
theorem am_pl29 : placesL Try.prog 29 = some [(0, 1), (1, 1)] := by kernel_rfl
theorem am_in30 : (Try.prog.info? 30).isSome = true := by kernel_rfl
theorem am_ag30 : isAggT Try.prog 30 = some true := by kernel_rfl
theorem am_cl30 : Try.prog.cellsOf 30 = 2 := by kernel_rfl
theorem am_by30 : Try.prog.bytesOf 30 = 32 := by kernel_rfl
theorem am_el30 : elemOfSlice Try.prog 30 = none := by kernel_rfl
theorem am_ze30 : zeroCellsAV Try.prog 30 = some [.lit (.int .i64 0), .lit (.slice none 0 0)] := by kernel_rfl
theorem am_fi30_0 : fieldOf Try.prog 30 0 = some (0, 3) := by kernel_rfl
theorem am_fi30_1 : fieldOf Try.prog 30 1 = some (1, 28) := by kernel_rfl
theorem am_pl30 : placesL Try.prog 30 = some [(0, 1), (1, 1)] := by kernel_rfl
theorem am_ag31 : isAggT Try.prog 31 = some false := by kernel_rfl
theorem am_cl31 : Try.prog.cellsOf 31 = 1 := by kernel_rfl
theorem am_in32 : (Try.prog.info? 32).isSome = true := by kernel_rfl
theorem am_ag32 : isAggT Try.prog 32 = some true := by kernel_rfl
theorem am_cl32 : Try.prog.cellsOf 32 = 4 := by kernel_rfl
theorem am_by32 : Try.prog.bytesOf 32 = 48 := by kernel_rfl
theorem am_el32 : elemOfSlice Try.prog 32 = none := by kernel_rfl
theorem am_ze32 : zeroCellsAV Try.prog 32 = some [.lit (.int .i64 0), .lit (.int .i64 0), .lit (.int .i64 0), .lit (.slice none 0 0)] := by kernel_rfl
theorem am_fi32_0 : fieldOf Try.prog 32 0 = some (0, 3) := by kernel_rfl
theorem am_fi32_1 : fieldOf Try.prog 32 1 = some (1, 3) := by kernel_rfl
theorem am_fi32_2 : fieldOf Try.prog 32 2 = some (2, 3) := by kernel_rfl
theorem am_fi32_3 : fieldOf Try.prog 32 3 = some (3, 28) := by kernel_rfl
theorem am_pl32 : placesL Try.prog 32 = some [(0, 1), (1, 1), (2, 1), (3, 1)] := by kernel_rfl
theorem am_in33 : (Try.prog.info? 33).isSome = true := by kernel_rfl
theorem am_ag33 : isAggT Try.prog 33 = some true := by kernel_rfl
theorem am_cl33 : Try.prog.cellsOf 33 = 4 := by kernel_rfl
theorem am_by33 : Try.prog.bytesOf 33 = 48 := by kernel_rfl
theorem am_el33 : elemOfSlice Try.prog 33 = none := by kernel_rfl
theorem am_ze33 : zeroCellsAV Try.prog 33 = some [.lit (.int .i64 0), .lit (.int .i64 0), .lit (.int .i64 0), .lit (.slice none 0 0)] := by kernel_rfl
theorem am_fi33_0 : fieldOf Try.prog 33 0 = some (0, 3) := by kernel_rfl
theorem am_fi33_1 : fieldOf Try.prog 33 1 = some (1, 3) := by kernel_rfl
theorem am_fi33_2 : fieldOf Try.prog 33 2 = some (2, 3) := by kernel_rfl
theorem am_fi33_3 : fieldOf Try.prog 33 3 = some (3, 28) := by kernel_rfl
theorem am_pl33 : placesL Try.prog 33 = some [(0, 1), (1, 1), (2, 1), (3, 1)] := by kernel_rfl
theorem am_ag35 : isAggT Try.prog 35 = some false := by kernel_rfl
theorem am_cl35 : Try.prog.cellsOf 35 = 1 := by kernel_rfl
theorem am_ag36 : isAggT Try.prog 36 = some false := by kernel_rfl
theorem am_cl36 : Try.prog.cellsOf 36 = 1 := by kernel_rfl
theorem am_in37 : (Try.prog.info? 37).isSome = true := by kernel_rfl
theorem am_ag37 : isAggT Try.prog 37 = some false := by kernel_rfl
theorem am_cl37 : Try.prog.cellsOf 37 = 1 := by kernel_rfl
theorem am_by37 : Try.prog.bytesOf 37 = 8 := by kernel_rfl
theorem am_el37 : elemOfSlice Try.prog 37 = none := by kernel_rfl
theorem am_ze37 : zeroCellsAV Try.prog 37 = some [.lit (.int .i64 0)] := by kernel_rfl
theorem am_ag39 : isAggT Try.prog 39 = some false := by kernel_rfl
theorem am_cl39 : Try.prog.cellsOf 39 = 1 := by kernel_rfl
theorem am_ag41 : isAggT Try.prog 41 = some false := by kernel_rfl
theorem am_cl41 : Try.prog.cellsOf 41 = 1 := by kernel_rfl
theorem am_ag42 : isAggT Try.prog 42 = some false := by kernel_rfl
theorem am_cl42 : Try.prog.cellsOf 42 = 1 := by kernel_rfl
theorem am_ag43 : isAggT Try.prog 43 = some false := by kernel_rfl
theorem am_cl43 : Try.prog.cellsOf 43 = 1 := by kernel_rfl
theorem am_ag44 : isAggT Try.prog 44 = some false := by kernel_rfl
theorem am_cl44 : Try.prog.cellsOf 44 = 1 := by kernel_rfl
theorem am_mt45 : mapTy Try.prog 45 = some (.int .i64, some (.int .i64 0)) := by kernel_rfl
theorem am_em45 : elemOfSlice Try.prog 45 = none := by kernel_rfl
theorem am_ag45 : isAggT Try.prog 45 = some false := by kernel_rfl
theorem am_cl45 : Try.prog.cellsOf 45 = 1 := by kernel_rfl
theorem am_in46 : (Try.prog.info? 46).isSome = true := by kernel_rfl
theorem am_ag46 : isAggT Try.prog 46 = some true := by kernel_rfl
theorem am_cl46 : Try.prog.cellsOf 46 = 2 := by kernel_rfl
theorem am_by46 : Try.prog.bytesOf 46 = 16 := by kernel_rfl
theorem am_el46 : elemOfSlice Try.prog 46 = none := by kernel_rfl
theorem am_ze46 : zeroCellsAV Try.prog 46 = some [.lit (.int .i64 0), .lit (.map none)] := by kernel_rfl
theorem am_fi46_0 : fieldOf Try.prog 46 0 = some (0, 3) := by kernel_rfl
theorem am_fi46_1 : fieldOf Try.prog 46 1 = some (1, 45) := by kernel_rfl
theorem am_pl46 : placesL Try.prog 46 = some [(0, 1), (1, 1)] := by kernel_rfl
theorem am_in47 : (Try.prog.info? 47).isSome = true := by kernel_rfl
theorem am_ag47 : isAggT Try.prog 47 = some true := by kernel_rfl
theorem am_cl47 : Try.prog.cellsOf 47 = 2 := by kernel_rfl
theorem am_by47 : Try.prog.bytesOf 47 = 16 := by kernel_rfl
theorem am_el47 : elemOfSlice Try.prog 47 = none := by kernel_rfl
theorem am_ze47 : zeroCellsAV Try.prog 47 = some [.lit (.int .i64 0), .lit (.map none)] := by kernel_rfl
theorem am_fi47_0 : fieldOf Try.prog 47 0 = some (0, 3) := by kernel_rfl
theorem am_fi47_1 : fieldOf Try.prog 47 1 = some (1, 45) := by kernel_rfl
theorem am_pl47 : placesL Try.prog 47 = some [(0, 1), (1, 1)] := by kernel_rfl
theorem am_ag48 : isAggT Try.prog 48 = some false := by kernel_rfl
theorem am_cl48 : Try.prog.cellsOf 48 = 1 := by kernel_rfl
theorem am_ag49 : isAggT Try.prog 49 = some false := by kernel_rfl
theorem am_cl49 : Try.prog.cellsOf 49 = 1 := by kernel_rfl
theorem am_ag50 : isAggT Try.prog 50 = some false := by kernel_rfl
theorem am_cl50 : Try.prog.cellsOf 50 = 1 := by kernel_rfl
theorem am_in51 : (Try.prog.info? 51).isSome = true := by kernel_rfl
theorem am_ag51 : isAggT Try.prog 51 = some true := by kernel_rfl
theorem am_cl51 : Try.prog.cellsOf 51 = 2 := by kernel_rfl
theorem am_by51 : Try.prog.bytesOf 51 = 16 := by kernel_rfl
theorem am_el51 : elemOfSlice Try.prog 51 = none := by kernel_rfl
theorem am_ze51 : zeroCellsAV Try.prog 51 = some [.lit (.int .i64 0), .lit (.int .i64 0)] := by kernel_rfl
theorem am_fi51_0 : fieldOf Try.prog 51 0 = some (0, 3) := by kernel_rfl
theorem am_fi51_1 : fieldOf Try.prog 51 1 = some (1, 3) := by kernel_rfl
theorem am_pl51 : placesL Try.prog 51 = some [(0, 1), (1, 1)] := by kernel_rfl
theorem am_in52 : (Try.prog.info? 52).isSome = true := by kernel_rfl
theorem am_ag52 : isAggT Try.prog 52 = some true := by kernel_rfl
theorem am_cl52 : Try.prog.cellsOf 52 = 2 := by kernel_rfl
theorem am_by52 : Try.prog.bytesOf 52 = 16 := by kernel_rfl
theorem am_el52 : elemOfSlice Try.prog 52 = none := by kernel_rfl
theorem am_ze52 : zeroCellsAV Try.prog 52 = some [.lit (.int .i64 0), .lit (.int .i64 0)] := by kernel_rfl
theorem am_fi52_0 : fieldOf Try.prog 52 0 = some (0, 3) := by kernel_rfl
theorem am_fi52_1 : fieldOf Try.prog 52 1 = some (1, 3) := by kernel_rfl
theorem am_pl52 : placesL Try.prog 52 = some [(0, 1), (1, 1)] := by kernel_rfl
theorem am_ag53 : isAggT Try.prog 53 = some false := by kernel_rfl
theorem am_cl53 : Try.prog.cellsOf 53 = 1 := by kernel_rfl
theorem am_ag54 : isAggT Try.prog 54 = some false := by kernel_rfl
theorem am_cl54 : Try.prog.cellsOf 54 = 1 := by kernel_rfl
theorem am_ag55 : isAggT Try.prog 55 = some false := by kernel_rfl
theorem am_cl55 : Try.prog.cellsOf 55 = 1 := by kernel_rfl
theorem am_ag56 : isAggT Try.prog 56 = some false := by kernel_rfl
theorem am_cl56 : Try.prog.cellsOf 56 = 1 := by kernel_rfl
theorem am_ag57 : isAggT Try.prog 57 = some false := by kernel_rfl
theorem am_cl57 : Try.prog.cellsOf 57 = 1 := by kernel_rfl
theorem am_ag58 : isAggT Try.prog 58 = some false := by kernel_rfl
theorem am_cl58 : Try.prog.cellsOf 58 = 1 := by kernel_rfl
theorem am_ag59 : isAggT Try.prog 59 = some false := by kernel_rfl
theorem am_cl59 : Try.prog.cellsOf 59 = 1 := by kernel_rfl
theorem am_ag60 : isAggT Try.prog 60 = some false := by kernel_rfl
theorem am_cl60 : Try.prog.cellsOf 60 = 1 := by kernel_rfl
theorem am_ag62 : isAggT Try.prog 62 = some false := by kernel_rfl
theorem am_cl62 : Try.prog.cellsOf 62 = 1 := by kernel_rfl
theorem am_ag64 : isAggT Try.prog 64 = some false := by kernel_rfl
theorem am_cl64 : Try.prog.cellsOf 64 = 1 := by kernel_rfl
theorem am_ag66 : isAggT Try.prog 66 = some false := by kernel_rfl
theorem am_cl66 : Try.prog.cellsOf 66 = 1 := by kernel_rfl
theorem am_ag68 : isAggT Try.prog 68 = some false := by kernel_rfl
theorem am_cl68 : Try.prog.cellsOf 68 = 1 := by kernel_rfl
theorem am_ag69 : isAggT Try.prog 69 = some false := by kernel_rfl
theorem am_cl69 : Try.prog.cellsOf 69 = 1 := by kernel_rfl
theorem am_in70 : (Try.prog.info? 70).isSome = true := by kernel_rfl
theorem am_ag70 : isAggT Try.prog 70 = some false := by kernel_rfl
theorem am_cl70 : Try.prog.cellsOf 70 = 1 := by kernel_rfl
theorem am_by70 : Try.prog.bytesOf 70 = 24 := by kernel_rfl
theorem am_el70 : elemOfSlice Try.prog 70 = some 3 := by kernel_rfl
theorem am_ze70 : zeroCellsAV Try.prog 70 = some [.lit (.slice none 0 0)] := by kernel_rfl
theorem am_ag72 : isAggT Try.prog 72 = some false := by kernel_rfl
theorem am_cl72 : Try.prog.cellsOf 72 = 1 := by kernel_rfl
theorem am_ag74 : isAggT Try.prog 74 = some false := by kernel_rfl
theorem am_cl74 : Try.prog.cellsOf 74 = 1 := by kernel_rfl
theorem am_ag75 : isAggT Try.prog 75 = some false := by kernel_rfl
theorem am_cl75 : Try.prog.cellsOf 75 = 1 := by kernel_rfl
theorem am_ag76 : isAggT Try.prog 76 = some false := by kernel_rfl
theorem am_cl76 : Try.prog.cellsOf 76 = 1 := by kernel_rfl
theorem am_ag77 : isAggT Try.prog 77 = some false := by kernel_rfl
theorem am_cl77 : Try.prog.cellsOf 77 = 1 := by kernel_rfl
theorem am_ag78 : isAggT Try.prog 78 = some false := by kernel_rfl
theorem am_cl78 : Try.prog.cellsOf 78 = 1 := by kernel_rfl
theorem am_ag79 : isAggT Try.prog 79 = some false := by kernel_rfl
theorem am_cl79 : Try.prog.cellsOf 79 = 1 := by kernel_rfl
theorem am_ag80 : isAggT Try.prog 80 = some false := by kernel_rfl
theorem am_cl80 : Try.prog.cellsOf 80 = 1 := by kernel_rfl
theorem am_ag81 : isAggT Try.prog 81 = some false := by kernel_rfl
theorem am_cl81 : Try.prog.cellsOf 81 = 1 := by kernel_rfl
theorem am_ag82 : isAggT Try.prog 82 = some false := by kernel_rfl
theorem am_cl82 : Try.prog.cellsOf 82 = 1 := by kernel_rfl
theorem am_ag84 : isAggT Try.prog 84 = some false := by kernel_rfl
theorem am_cl84 : Try.prog.cellsOf 84 = 1 := by kernel_rfl
theorem am_ag85 : isAggT Try.prog 85 = some false := by kernel_rfl
theorem am_cl85 : Try.prog.cellsOf 85 = 1 := by kernel_rfl
theorem am_ag86 : isAggT Try.prog 86 = some false := by kernel_rfl
theorem am_cl86 : Try.prog.cellsOf 86 = 1 := by kernel_rfl
theorem am_ag87 : isAggT Try.prog 87 = some false := by kernel_rfl
theorem am_cl87 : Try.prog.cellsOf 87 = 1 := by kernel_rfl
theorem am_ag88 : isAggT Try.prog 88 = some false := by kernel_rfl
theorem am_cl88 : Try.prog.cellsOf 88 = 1 := by kernel_rfl
theorem am_ag89 : isAggT Try.prog 89 = some false := by kernel_rfl
theorem am_cl89 : Try.prog.cellsOf 89 = 1 := by kernel_rfl
theorem am_ag90 : isAggT Try.prog 90 = some false := by kernel_rfl
theorem am_cl90 : Try.prog.cellsOf 90 = 1 := by kernel_rfl
theorem am_ag91 : isAggT Try.prog 91 = some false := by kernel_rfl
theorem am_cl91 : Try.prog.cellsOf 91 = 1 := by kernel_rfl
theorem am_ag92 : isAggT Try.prog 92 = some false := by kernel_rfl
theorem am_cl92 : Try.prog.cellsOf 92 = 1 := by kernel_rfl
theorem am_in93 : (Try.prog.info? 93).isSome = true := by kernel_rfl
theorem am_ag93 : isAggT Try.prog 93 = some false := by kernel_rfl
theorem am_cl93 : Try.prog.cellsOf 93 = 1 := by kernel_rfl
theorem am_by93 : Try.prog.bytesOf 93 = 8 := by kernel_rfl
theorem am_el93 : elemOfSlice Try.prog 93 = none := by kernel_rfl
theorem am_ze93 : zeroCellsAV Try.prog 93 = some [.lit (.int .u64 0)] := by kernel_rfl
theorem am_ag95 : isAggT Try.prog 95 = some false := by kernel_rfl
theorem am_cl95 : Try.prog.cellsOf 95 = 1 := by kernel_rfl
theorem am_ag96 : isAggT Try.prog 96 = some false := by kernel_rfl
theorem am_cl96 : Try.prog.cellsOf 96 = 1 := by kernel_rfl
theorem am_ag97 : isAggT Try.prog 97 = some false := by kernel_rfl
theorem am_cl97 : Try.prog.cellsOf 97 = 1 := by kernel_rfl
theorem am_ag98 : isAggT Try.prog 98 = some false := by kernel_rfl
theorem am_cl98 : Try.prog.cellsOf 98 = 1 := by kernel_rfl
theorem am_in99 : (Try.prog.info? 99).isSome = true := by kernel_rfl
theorem am_ag99 : isAggT Try.prog 99 = some false := by kernel_rfl
theorem am_cl99 : Try.prog.cellsOf 99 = 1 := by kernel_rfl
theorem am_by99 : Try.prog.bytesOf 99 = 4 := by kernel_rfl
theorem am_el99 : elemOfSlice Try.prog 99 = none := by kernel_rfl
theorem am_ze99 : zeroCellsAV Try.prog 99 = some [.lit (.int .u32 0)] := by kernel_rfl
theorem am_ag101 : isAggT Try.prog 101 = some false := by kernel_rfl
theorem am_cl101 : Try.prog.cellsOf 101 = 1 := by kernel_rfl
theorem am_in102 : (Try.prog.info? 102).isSome = true := by kernel_rfl
theorem am_ag102 : isAggT Try.prog 102 = some false := by kernel_rfl
theorem am_cl102 : Try.prog.cellsOf 102 = 1 := by kernel_rfl
theorem am_by102 : Try.prog.bytesOf 102 = 8 := by kernel_rfl
theorem am_el102 : elemOfSlice Try.prog 102 = none := by kernel_rfl
theorem am_ze102 : zeroCellsAV Try.prog 102 = some [.lit (.int .u64 0)] := by kernel_rfl
theorem am_ag104 : isAggT Try.prog 104 = some false := by kernel_rfl
theorem am_cl104 : Try.prog.cellsOf 104 = 1 := by kernel_rfl
theorem am_ag105 : isAggT Try.prog 105 = some false := by kernel_rfl
theorem am_cl105 : Try.prog.cellsOf 105 = 1 := by kernel_rfl
theorem am_in106 : (Try.prog.info? 106).isSome = true := by kernel_rfl
theorem am_ag106 : isAggT Try.prog 106 = some false := by kernel_rfl
theorem am_cl106 : Try.prog.cellsOf 106 = 1 := by kernel_rfl
theorem am_by106 : Try.prog.bytesOf 106 = 8 := by kernel_rfl
theorem am_el106 : elemOfSlice Try.prog 106 = none := by kernel_rfl
theorem am_ze106 : zeroCellsAV Try.prog 106 = some [.lit (.int .i64 0)] := by kernel_rfl
theorem am_ag108 : isAggT Try.prog 108 = some false := by kernel_rfl
theorem am_cl108 : Try.prog.cellsOf 108 = 1 := by kernel_rfl
theorem am_ag109 : isAggT Try.prog 109 = some false := by kernel_rfl
theorem am_cl109 : Try.prog.cellsOf 109 = 1 := by kernel_rfl
theorem am_ag110 : isAggT Try.prog 110 = some false := by kernel_rfl
theorem am_cl110 : Try.prog.cellsOf 110 = 1 := by kernel_rfl
theorem am_ag112 : isAggT Try.prog 112 = some false := by kernel_rfl
theorem am_cl112 : Try.prog.cellsOf 112 = 1 := by kernel_rfl
theorem am_ag113 : isAggT Try.prog 113 = some false := by kernel_rfl
theorem am_cl113 : Try.prog.cellsOf 113 = 1 := by kernel_rfl
theorem am_ag114 : isAggT Try.prog 114 = some false := by kernel_rfl
theorem am_cl114 : Try.prog.cellsOf 114 = 1 := by kernel_rfl
theorem am_in115 : (Try.prog.info? 115).isSome = true := by kernel_rfl
theorem am_ag115 : isAggT Try.prog 115 = some false := by kernel_rfl
theorem am_cl115 : Try.prog.cellsOf 115 = 1 := by kernel_rfl
theorem am_by115 : Try.prog.bytesOf 115 = 8 := by kernel_rfl
theorem am_el115 : elemOfSlice Try.prog 115 = none := by kernel_rfl
theorem am_ze115 : zeroCellsAV Try.prog 115 = some [.lit (.int .u64 0)] := by kernel_rfl
theorem am_ag116 : isAggT Try.prog 116 = some false := by kernel_rfl
theorem am_cl116 : Try.prog.cellsOf 116 = 1 := by kernel_rfl
theorem am_ag117 : isAggT Try.prog 117 = some false := by kernel_rfl
theorem am_cl117 : Try.prog.cellsOf 117 = 1 := by kernel_rfl
theorem am_ag118 : isAggT Try.prog 118 = some false := by kernel_rfl
theorem am_cl118 : Try.prog.cellsOf 118 = 1 := by kernel_rfl
theorem am_in119 : (Try.prog.info? 119).isSome = true := by kernel_rfl
theorem am_ag119 : isAggT Try.prog 119 = some false := by kernel_rfl
theorem am_cl119 : Try.prog.cellsOf 119 = 1 := by kernel_rfl
theorem am_by119 : Try.prog.bytesOf 119 = 8 := by kernel_rfl
theorem am_el119 : elemOfSlice Try.prog 119 = none := by kernel_rfl
theorem am_ze119 : zeroCellsAV Try.prog 119 = some [.lit (.pointer none)] := by kernel_rfl
theorem am_ag120 : isAggT Try.prog 120 = some false := by kernel_rfl
theorem am_cl120 : Try.prog.cellsOf 120 = 1 := by kernel_rfl
theorem am_in121 : (Try.prog.info? 121).isSome = true := by kernel_rfl
theorem am_ag121 : isAggT Try.prog 121 = some false := by kernel_rfl
theorem am_cl121 : Try.prog.cellsOf 121 = 1 := by kernel_rfl
theorem am_by121 : Try.prog.bytesOf 121 = 8 := by kernel_rfl
theorem am_el121 : elemOfSlice Try.prog 121 = none := by kernel_rfl
theorem am_ze121 : zeroCellsAV Try.prog 121 = some [.lit (.pointer none)] := by kernel_rfl
theorem am_ag123 : isAggT Try.prog 123 = some false := by kernel_rfl
theorem am_cl123 : Try.prog.cellsOf 123 = 1 := by kernel_rfl
theorem am_ag124 : isAggT Try.prog 124 = some false := by kernel_rfl
theorem am_cl124 : Try.prog.cellsOf 124 = 1 := by kernel_rfl
theorem am_in125 : (Try.prog.info? 125).isSome = true := by kernel_rfl
theorem am_ag125 : isAggT Try.prog 125 = some true := by kernel_rfl
theorem am_cl125 : Try.prog.cellsOf 125 = 4 := by kernel_rfl
theorem am_by125 : Try.prog.bytesOf 125 = 40 := by kernel_rfl
theorem am_el125 : elemOfSlice Try.prog 125 = none := by kernel_rfl
theorem am_ze125 : zeroCellsAV Try.prog 125 = some [.lit (.pointer none), .lit (.pointer none), .lit (.pointer none), .lit (.string ByteArray.empty)] := by kernel_rfl
theorem am_fi125_0 : fieldOf Try.prog 125 0 = some (0, 17) := by kernel_rfl
theorem am_fi125_1 : fieldOf Try.prog 125 1 = some (1, 17) := by kernel_rfl
theorem am_fi125_2 : fieldOf Try.prog 125 2 = some (2, 17) := by kernel_rfl
theorem am_fi125_3 : fieldOf Try.prog 125 3 = some (3, 9) := by kernel_rfl
theorem am_pl125 : placesL Try.prog 125 = some [(0, 1), (1, 1), (2, 1), (3, 1)] := by kernel_rfl
theorem am_in126 : (Try.prog.info? 126).isSome = true := by kernel_rfl
theorem am_ag126 : isAggT Try.prog 126 = some true := by kernel_rfl
theorem am_cl126 : Try.prog.cellsOf 126 = 4 := by kernel_rfl
theorem am_by126 : Try.prog.bytesOf 126 = 40 := by kernel_rfl
theorem am_el126 : elemOfSlice Try.prog 126 = none := by kernel_rfl
theorem am_ze126 : zeroCellsAV Try.prog 126 = some [.lit (.pointer none), .lit (.pointer none), .lit (.pointer none), .lit (.string ByteArray.empty)] := by kernel_rfl
theorem am_fi126_0 : fieldOf Try.prog 126 0 = some (0, 17) := by kernel_rfl
theorem am_fi126_1 : fieldOf Try.prog 126 1 = some (1, 17) := by kernel_rfl
theorem am_fi126_2 : fieldOf Try.prog 126 2 = some (2, 17) := by kernel_rfl
theorem am_fi126_3 : fieldOf Try.prog 126 3 = some (3, 9) := by kernel_rfl
theorem am_pl126 : placesL Try.prog 126 = some [(0, 1), (1, 1), (2, 1), (3, 1)] := by kernel_rfl
theorem am_in127 : (Try.prog.info? 127).isSome = true := by kernel_rfl
theorem am_ag127 : isAggT Try.prog 127 = some true := by kernel_rfl
theorem am_cl127 : Try.prog.cellsOf 127 = 0 := by kernel_rfl
theorem am_by127 : Try.prog.bytesOf 127 = 0 := by kernel_rfl
theorem am_el127 : elemOfSlice Try.prog 127 = none := by kernel_rfl
theorem am_ze127 : zeroCellsAV Try.prog 127 = some [] := by kernel_rfl
theorem am_ar127 : arrOf Try.prog 127 = some (0, 16) := by kernel_rfl
theorem am_pn127 : placesL Try.prog 127 = none := by kernel_rfl
theorem am_in128 : (Try.prog.info? 128).isSome = true := by kernel_rfl
theorem am_ag128 : isAggT Try.prog 128 = some true := by kernel_rfl
theorem am_cl128 : Try.prog.cellsOf 128 = 0 := by kernel_rfl
theorem am_by128 : Try.prog.bytesOf 128 = 0 := by kernel_rfl
theorem am_el128 : elemOfSlice Try.prog 128 = none := by kernel_rfl
theorem am_ze128 : zeroCellsAV Try.prog 128 = some [] := by kernel_rfl
theorem am_fi128_0 : fieldOf Try.prog 128 0 = some (0, 127) := by kernel_rfl
theorem am_pl128 : placesL Try.prog 128 = some [(0, 0)] := by kernel_rfl
theorem am_in129 : (Try.prog.info? 129).isSome = true := by kernel_rfl
theorem am_ag129 : isAggT Try.prog 129 = some true := by kernel_rfl
theorem am_cl129 : Try.prog.cellsOf 129 = 0 := by kernel_rfl
theorem am_by129 : Try.prog.bytesOf 129 = 0 := by kernel_rfl
theorem am_el129 : elemOfSlice Try.prog 129 = none := by kernel_rfl
theorem am_ze129 : zeroCellsAV Try.prog 129 = some [] := by kernel_rfl
theorem am_fi129_0 : fieldOf Try.prog 129 0 = some (0, 127) := by kernel_rfl
theorem am_pl129 : placesL Try.prog 129 = some [(0, 0)] := by kernel_rfl
theorem am_in130 : (Try.prog.info? 130).isSome = true := by kernel_rfl
theorem am_ag130 : isAggT Try.prog 130 = some false := by kernel_rfl
theorem am_cl130 : Try.prog.cellsOf 130 = 1 := by kernel_rfl
theorem am_by130 : Try.prog.bytesOf 130 = 1 := by kernel_rfl
theorem am_el130 : elemOfSlice Try.prog 130 = none := by kernel_rfl
theorem am_ze130 : zeroCellsAV Try.prog 130 = some [.lit (.int .u8 0)] := by kernel_rfl
theorem am_in131 : (Try.prog.info? 131).isSome = true := by kernel_rfl
theorem am_ag131 : isAggT Try.prog 131 = some false := by kernel_rfl
theorem am_cl131 : Try.prog.cellsOf 131 = 1 := by kernel_rfl
theorem am_by131 : Try.prog.bytesOf 131 = 1 := by kernel_rfl
theorem am_el131 : elemOfSlice Try.prog 131 = none := by kernel_rfl
theorem am_ze131 : zeroCellsAV Try.prog 131 = some [.lit (.int .u8 0)] := by kernel_rfl
theorem am_ag132 : isAggT Try.prog 132 = some false := by kernel_rfl
theorem am_cl132 : Try.prog.cellsOf 132 = 1 := by kernel_rfl
theorem am_in133 : (Try.prog.info? 133).isSome = true := by kernel_rfl
theorem am_ag133 : isAggT Try.prog 133 = some false := by kernel_rfl
theorem am_cl133 : Try.prog.cellsOf 133 = 1 := by kernel_rfl
theorem am_by133 : Try.prog.bytesOf 133 = 8 := by kernel_rfl
theorem am_el133 : elemOfSlice Try.prog 133 = none := by kernel_rfl
theorem am_ze133 : zeroCellsAV Try.prog 133 = some [.lit (.pointer none)] := by kernel_rfl
theorem am_in134 : (Try.prog.info? 134).isSome = true := by kernel_rfl
theorem am_ag134 : isAggT Try.prog 134 = some false := by kernel_rfl
theorem am_cl134 : Try.prog.cellsOf 134 = 1 := by kernel_rfl
theorem am_by134 : Try.prog.bytesOf 134 = 4 := by kernel_rfl
theorem am_el134 : elemOfSlice Try.prog 134 = none := by kernel_rfl
theorem am_ze134 : zeroCellsAV Try.prog 134 = some [.lit (.int .i32 0)] := by kernel_rfl
theorem am_in135 : (Try.prog.info? 135).isSome = true := by kernel_rfl
theorem am_ag135 : isAggT Try.prog 135 = some false := by kernel_rfl
theorem am_cl135 : Try.prog.cellsOf 135 = 1 := by kernel_rfl
theorem am_by135 : Try.prog.bytesOf 135 = 4 := by kernel_rfl
theorem am_el135 : elemOfSlice Try.prog 135 = none := by kernel_rfl
theorem am_ze135 : zeroCellsAV Try.prog 135 = some [.lit (.int .i32 0)] := by kernel_rfl
theorem am_in136 : (Try.prog.info? 136).isSome = true := by kernel_rfl
theorem am_ag136 : isAggT Try.prog 136 = some true := by kernel_rfl
theorem am_cl136 : Try.prog.cellsOf 136 = 11 := by kernel_rfl
theorem am_by136 : Try.prog.bytesOf 136 = 48 := by kernel_rfl
theorem am_el136 : elemOfSlice Try.prog 136 = none := by kernel_rfl
theorem am_ze136 : zeroCellsAV Try.prog 136 = some [.lit (.int .u64 0), .lit (.int .u64 0), .lit (.int .u32 0), .lit (.int .u8 0), .lit (.int .u8 0), .lit (.int .u8 0), .lit (.int .u8 0), .lit (.nilFunc), .lit (.pointer none), .lit (.int .i32 0), .lit (.int .i32 0)] := by kernel_rfl
theorem am_fi136_0 : fieldOf Try.prog 136 0 = some (0, 12) := by kernel_rfl
theorem am_fi136_1 : fieldOf Try.prog 136 1 = some (1, 12) := by kernel_rfl
theorem am_fi136_2 : fieldOf Try.prog 136 2 = some (2, 99) := by kernel_rfl
theorem am_fi136_3 : fieldOf Try.prog 136 3 = some (3, 130) := by kernel_rfl
theorem am_fi136_4 : fieldOf Try.prog 136 4 = some (4, 5) := by kernel_rfl
theorem am_fi136_5 : fieldOf Try.prog 136 5 = some (5, 5) := by kernel_rfl
theorem am_fi136_6 : fieldOf Try.prog 136 6 = some (6, 131) := by kernel_rfl
theorem am_fi136_7 : fieldOf Try.prog 136 7 = some (7, 132) := by kernel_rfl
theorem am_fi136_8 : fieldOf Try.prog 136 8 = some (8, 133) := by kernel_rfl
theorem am_fi136_9 : fieldOf Try.prog 136 9 = some (9, 134) := by kernel_rfl
theorem am_fi136_10 : fieldOf Try.prog 136 10 = some (10, 135) := by kernel_rfl
theorem am_pl136 : placesL Try.prog 136 = some [(0, 1), (1, 1), (2, 1), (3, 1), (4, 1), (5, 1), (6, 1), (7, 1), (8, 1), (9, 1), (10, 1)] := by kernel_rfl
theorem am_in137 : (Try.prog.info? 137).isSome = true := by kernel_rfl
theorem am_ag137 : isAggT Try.prog 137 = some true := by kernel_rfl
theorem am_cl137 : Try.prog.cellsOf 137 = 11 := by kernel_rfl
theorem am_by137 : Try.prog.bytesOf 137 = 48 := by kernel_rfl
theorem am_el137 : elemOfSlice Try.prog 137 = none := by kernel_rfl
theorem am_ze137 : zeroCellsAV Try.prog 137 = some [.lit (.int .u64 0), .lit (.int .u64 0), .lit (.int .u32 0), .lit (.int .u8 0), .lit (.int .u8 0), .lit (.int .u8 0), .lit (.int .u8 0), .lit (.nilFunc), .lit (.pointer none), .lit (.int .i32 0), .lit (.int .i32 0)] := by kernel_rfl
theorem am_fi137_0 : fieldOf Try.prog 137 0 = some (0, 12) := by kernel_rfl
theorem am_fi137_1 : fieldOf Try.prog 137 1 = some (1, 12) := by kernel_rfl
theorem am_fi137_2 : fieldOf Try.prog 137 2 = some (2, 99) := by kernel_rfl
theorem am_fi137_3 : fieldOf Try.prog 137 3 = some (3, 130) := by kernel_rfl
theorem am_fi137_4 : fieldOf Try.prog 137 4 = some (4, 5) := by kernel_rfl
theorem am_fi137_5 : fieldOf Try.prog 137 5 = some (5, 5) := by kernel_rfl
theorem am_fi137_6 : fieldOf Try.prog 137 6 = some (6, 131) := by kernel_rfl
theorem am_fi137_7 : fieldOf Try.prog 137 7 = some (7, 132) := by kernel_rfl
theorem am_fi137_8 : fieldOf Try.prog 137 8 = some (8, 133) := by kernel_rfl
theorem am_fi137_9 : fieldOf Try.prog 137 9 = some (9, 134) := by kernel_rfl
theorem am_fi137_10 : fieldOf Try.prog 137 10 = some (10, 135) := by kernel_rfl
theorem am_pl137 : placesL Try.prog 137 = some [(0, 1), (1, 1), (2, 1), (3, 1), (4, 1), (5, 1), (6, 1), (7, 1), (8, 1), (9, 1), (10, 1)] := by kernel_rfl

end Go.Proofs.Ytaggnajjmopobaa

