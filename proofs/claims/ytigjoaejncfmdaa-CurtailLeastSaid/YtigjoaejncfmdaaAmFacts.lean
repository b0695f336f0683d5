/-
  Closed facts on the types of the program, as the abstract machine asks them.
  Conditions: none.
-/
import Derived.Test.YtigjoaejncfmdaaAmStep
import Derived.Test.YtigjoaejncfmdaaChecked
import Derived.KernelRfl
namespace Go.Proofs.Ytigjoaejncfmdaa
open Go.AM
theorem am_ag1 : isAggT Try.prog 1 = some false := by kernel_rfl
theorem am_cl1 : Try.prog.cellsOf 1 = 1 := by kernel_rfl
theorem am_in2 : (Try.prog.info? 2).isSome = true := by kernel_rfl
theorem am_ag2 : isAggT Try.prog 2 = some false := by kernel_rfl
theorem am_cl2 : Try.prog.cellsOf 2 = 1 := by kernel_rfl
theorem am_by2 : Try.prog.bytesOf 2 = 8 := by kernel_rfl
theorem am_el2 : elemOfSlice Try.prog 2 = none := by kernel_rfl
theorem am_ze2 : zeroCellsAV Try.prog 2 = some [.lit (.int .i64 0)] := by kernel_rfl
theorem am_in3 : (Try.prog.info? 3).isSome = true := by kernel_rfl
theorem am_ag3 : isAggT Try.prog 3 = some false := by kernel_rfl
theorem am_cl3 : Try.prog.cellsOf 3 = 1 := by kernel_rfl
theorem am_by3 : Try.prog.bytesOf 3 = 8 := by kernel_rfl
theorem am_el3 : elemOfSlice Try.prog 3 = none := by kernel_rfl
theorem am_ze3 : zeroCellsAV Try.prog 3 = some [.lit (.int .i64 0)] := by kernel_rfl
theorem am_in4 : (Try.prog.info? 4).isSome = true := by kernel_rfl
theorem am_ag4 : isAggT Try.prog 4 = some false := by kernel_rfl
theorem am_cl4 : Try.prog.cellsOf 4 = 1 := by kernel_rfl
theorem am_by4 : Try.prog.bytesOf 4 = 1 := by kernel_rfl
theorem am_el4 : elemOfSlice Try.prog 4 = none := by kernel_rfl
theorem am_ze4 : zeroCellsAV Try.prog 4 = some [.lit (.bool false)] := by kernel_rfl
theorem am_in5 : (Try.prog.info? 5).isSome = true := by kernel_rfl
theorem am_ag5 : isAggT Try.prog 5 = some false := by kernel_rfl
theorem am_cl5 : Try.prog.cellsOf 5 = 1 := by kernel_rfl
theorem am_by5 : Try.prog.bytesOf 5 = 1 := by kernel_rfl
theorem am_el5 : elemOfSlice Try.prog 5 = none := by kernel_rfl
theorem am_ze5 : zeroCellsAV Try.prog 5 = some [.lit (.int .u8 0)] := by kernel_rfl
theorem am_in6 : (Try.prog.info? 6).isSome = true := by kernel_rfl
theorem am_ag6 : isAggT Try.prog 6 = some false := by kernel_rfl
theorem am_cl6 : Try.prog.cellsOf 6 = 1 := by kernel_rfl
theorem am_by6 : Try.prog.bytesOf 6 = 1 := by kernel_rfl
theorem am_el6 : elemOfSlice Try.prog 6 = none := by kernel_rfl
theorem am_ze6 : zeroCellsAV Try.prog 6 = some [.lit (.int .u8 0)] := by kernel_rfl
theorem am_in7 : (Try.prog.info? 7).isSome = true := by kernel_rfl
theorem am_ag7 : isAggT Try.prog 7 = some true := by kernel_rfl
theorem am_cl7 : Try.prog.cellsOf 7 = 4 := by kernel_rfl
theorem am_by7 : Try.prog.bytesOf 7 = 24 := by kernel_rfl
theorem am_el7 : elemOfSlice Try.prog 7 = none := by kernel_rfl
theorem am_ze7 : zeroCellsAV Try.prog 7 = some [.lit (.int .i64 0), .lit (.int .i64 0), .lit (.bool false), .lit (.int .u8 0)] := by kernel_rfl
theorem am_fi7_0 : fieldOf Try.prog 7 0 = some (0, 2) := by kernel_rfl
theorem am_fi7_1 : fieldOf Try.prog 7 1 = some (1, 3) := by kernel_rfl
theorem am_fi7_2 : fieldOf Try.prog 7 2 = some (2, 4) := by kernel_rfl
theorem am_fi7_3 : fieldOf Try.prog 7 3 = some (3, 6) := by kernel_rfl
theorem am_pl7 : placesL Try.prog 7 = some [(0, 1), (1, 1), (2, 1), (3, 1)] := by kernel_rfl
theorem am_in8 : (Try.prog.info? 8).isSome = true := by kernel_rfl
theorem am_ag8 : isAggT Try.prog 8 = some true := by kernel_rfl
theorem am_cl8 : Try.prog.cellsOf 8 = 4 := by kernel_rfl
theorem am_by8 : Try.prog.bytesOf 8 = 24 := by kernel_rfl
theorem am_el8 : elemOfSlice Try.prog 8 = none := by kernel_rfl
theorem am_ze8 : zeroCellsAV Try.prog 8 = some [.lit (.int .i64 0), .lit (.int .i64 0), .lit (.bool false), .lit (.int .u8 0)] := by kernel_rfl
theorem am_fi8_0 : fieldOf Try.prog 8 0 = some (0, 2) := by kernel_rfl
theorem am_fi8_1 : fieldOf Try.prog 8 1 = some (1, 3) := by kernel_rfl
theorem am_fi8_2 : fieldOf Try.prog 8 2 = some (2, 4) := by kernel_rfl
theorem am_fi8_3 : fieldOf Try.prog 8 3 = some (3, 6) := by kernel_rfl
theorem am_pl8 : placesL Try.prog 8 = some [(0, 1), (1, 1), (2, 1), (3, 1)] := by kernel_rfl
theorem am_in9 : (Try.prog.info? 9).isSome = true := by kernel_rfl
theorem am_ag9 : isAggT Try.prog 9 = some false := by kernel_rfl
theorem am_cl9 : Try.prog.cellsOf 9 = 1 := by kernel_rfl
theorem am_by9 : Try.prog.bytesOf 9 = 16 := by kernel_rfl
theorem am_el9 : elemOfSlice Try.prog 9 = none := by kernel_rfl
theorem am_ze9 : zeroCellsAV Try.prog 9 = some [.lit (.string ByteArray.empty)] := by kernel_rfl
theorem am_in10 : (Try.prog.info? 10).isSome = true := by kernel_rfl
theorem am_ag10 : isAggT Try.prog 10 = some false := by kernel_rfl
theorem am_cl10 : Try.prog.cellsOf 10 = 1 := by kernel_rfl
theorem am_by10 : Try.prog.bytesOf 10 = 16 := by kernel_rfl
theorem am_el10 : elemOfSlice Try.prog 10 = none := by kernel_rfl
theorem am_ze10 : zeroCellsAV Try.prog 10 = some [.lit (.string ByteArray.empty)] := by kernel_rfl
theorem am_in11 : (Try.prog.info? 11).isSome = true := by kernel_rfl
theorem am_ag11 : isAggT Try.prog 11 = some false := by kernel_rfl
theorem am_cl11 : Try.prog.cellsOf 11 = 1 := by kernel_rfl
theorem am_by11 : Try.prog.bytesOf 11 = 16 := by kernel_rfl
theorem am_el11 : elemOfSlice Try.prog 11 = none := by kernel_rfl
theorem am_ze11 : zeroCellsAV Try.prog 11 = some [.lit (.string ByteArray.empty)] := by kernel_rfl
theorem am_in12 : (Try.prog.info? 12).isSome = true := by kernel_rfl
theorem am_ag12 : isAggT Try.prog 12 = some false := by kernel_rfl
theorem am_cl12 : Try.prog.cellsOf 12 = 1 := by kernel_rfl
theorem am_by12 : Try.prog.bytesOf 12 = 8 := by kernel_rfl
theorem am_el12 : elemOfSlice Try.prog 12 = none := by kernel_rfl
theorem am_ze12 : zeroCellsAV Try.prog 12 = some [.lit (.int .u64 0)] := by kernel_rfl
theorem am_in13 : (Try.prog.info? 13).isSome = true := by kernel_rfl
theorem am_ag13 : isAggT Try.prog 13 = some true := by kernel_rfl
theorem am_cl13 : Try.prog.cellsOf 13 = 2 := by kernel_rfl
theorem am_by13 : Try.prog.bytesOf 13 = 24 := by kernel_rfl
theorem am_el13 : elemOfSlice Try.prog 13 = none := by kernel_rfl
theorem am_ze13 : zeroCellsAV Try.prog 13 = some [.lit (.string ByteArray.empty), .lit (.int .u64 0)] := by kernel_rfl
theorem am_fi13_0 : fieldOf Try.prog 13 0 = some (0, 9) := by kernel_rfl
theorem am_fi13_1 : fieldOf Try.prog 13 1 = some (1, 12) := by kernel_rfl
theorem am_pl13 : placesL Try.prog 13 = some [(0, 1), (1, 1)] := by kernel_rfl
theorem am_in14 : (Try.prog.info? 14).isSome = true := by kernel_rfl
theorem am_ag14 : isAggT Try.prog 14 = some true := by kernel_rfl
theorem am_cl14 : Try.prog.cellsOf 14 = 2 := by kernel_rfl
theorem am_by14 : Try.prog.bytesOf 14 = 24 := by kernel_rfl
theorem am_el14 : elemOfSlice Try.prog 14 = none := by kernel_rfl
theorem am_ze14 : zeroCellsAV Try.prog 14 = some [.lit (.string ByteArray.empty), .lit (.int .u64 0)] := by kernel_rfl
theorem am_fi14_0 : fieldOf Try.prog 14 0 = some (0, 9) := by kernel_rfl
theorem am_fi14_1 : fieldOf Try.prog 14 1 = some (1, 12) := by kernel_rfl
theorem am_pl14 : placesL Try.prog 14 = some [(0, 1), (1, 1)] := by kernel_rfl
theorem am_in15 : (Try.prog.info? 15).isSome = true := by kernel_rfl
theorem am_ag15 : isAggT Try.prog 15 = some false := by kernel_rfl
theorem am_cl15 : Try.prog.cellsOf 15 = 1 := by kernel_rfl
theorem am_by15 : Try.prog.bytesOf 15 = 8 := by kernel_rfl
theorem am_el15 : elemOfSlice Try.prog 15 = none := by kernel_rfl
theorem am_ze15 : zeroCellsAV Try.prog 15 = some [.lit (.pointer none)] := by kernel_rfl
theorem am_in16 : (Try.prog.info? 16).isSome = true := by kernel_rfl
theorem am_ag16 : isAggT Try.prog 16 = some false := by kernel_rfl
theorem am_cl16 : Try.prog.cellsOf 16 = 1 := by kernel_rfl
theorem am_by16 : Try.prog.bytesOf 16 = 8 := by kernel_rfl
theorem am_el16 : elemOfSlice Try.prog 16 = none := by kernel_rfl
theorem am_ze16 : zeroCellsAV Try.prog 16 = some [.lit (.pointer none)] := by kernel_rfl
theorem am_in17 : (Try.prog.info? 17).isSome = true := by kernel_rfl
theorem am_ag17 : isAggT Try.prog 17 = some false := by kernel_rfl
theorem am_cl17 : Try.prog.cellsOf 17 = 1 := by kernel_rfl
theorem am_by17 : Try.prog.bytesOf 17 = 8 := by kernel_rfl
theorem am_el17 : elemOfSlice Try.prog 17 = none := by kernel_rfl
theorem am_ze17 : zeroCellsAV Try.prog 17 = some [.lit (.pointer none)] := by kernel_rfl
theorem am_in18 : (Try.prog.info? 18).isSome = true := by kernel_rfl
theorem am_ag18 : isAggT Try.prog 18 = some true := by kernel_rfl
theorem am_cl18 : Try.prog.cellsOf 18 = 1 := by kernel_rfl
theorem am_by18 : Try.prog.bytesOf 18 = 8 := by kernel_rfl
theorem am_el18 : elemOfSlice Try.prog 18 = none := by kernel_rfl
theorem am_ze18 : zeroCellsAV Try.prog 18 = some [.lit (.pointer none)] := by kernel_rfl
theorem am_fi18_0 : fieldOf Try.prog 18 0 = some (0, 17) := by kernel_rfl
theorem am_pl18 : placesL Try.prog 18 = some [(0, 1)] := by kernel_rfl
theorem am_in19 : (Try.prog.info? 19).isSome = true := by kernel_rfl
theorem am_ag19 : isAggT Try.prog 19 = some true := by kernel_rfl
theorem am_cl19 : Try.prog.cellsOf 19 = 1 := by kernel_rfl
theorem am_by19 : Try.prog.bytesOf 19 = 8 := by kernel_rfl
theorem am_el19 : elemOfSlice Try.prog 19 = none := by kernel_rfl
theorem am_ze19 : zeroCellsAV Try.prog 19 = some [.lit (.pointer none)] := by kernel_rfl
theorem am_fi19_0 : fieldOf Try.prog 19 0 = some (0, 17) := by kernel_rfl
theorem am_pl19 : placesL Try.prog 19 = some [(0, 1)] := by kernel_rfl
theorem am_ag20 : isAggT Try.prog 20 = some false := by kernel_rfl
theorem am_cl20 : Try.prog.cellsOf 20 = 1 := by kernel_rfl
theorem am_in21 : (Try.prog.info? 21).isSome = true := by kernel_rfl
theorem am_ag21 : isAggT Try.prog 21 = some false := by kernel_rfl
theorem am_cl21 : Try.prog.cellsOf 21 = 1 := by kernel_rfl
theorem am_by21 : Try.prog.bytesOf 21 = 4 := by kernel_rfl
theorem am_el21 : elemOfSlice Try.prog 21 = none := by kernel_rfl
theorem am_ze21 : zeroCellsAV Try.prog 21 = some [.lit (.int .i32 0)] := by kernel_rfl
theorem am_in22 : (Try.prog.info? 22).isSome = true := by kernel_rfl
theorem am_ag22 : isAggT Try.prog 22 = some false := by kernel_rfl
theorem am_cl22 : Try.prog.cellsOf 22 = 1 := by kernel_rfl
theorem am_by22 : Try.prog.bytesOf 22 = 24 := by kernel_rfl
theorem am_el22 : elemOfSlice Try.prog 22 = some 57 := by kernel_rfl
theorem am_ze22 : zeroCellsAV Try.prog 22 = some [.lit (.slice none 0 0)] := by kernel_rfl
theorem am_ag23 : isAggT Try.prog 23 = some false := by kernel_rfl
theorem am_cl23 : Try.prog.cellsOf 23 = 1 := by kernel_rfl
theorem am_ag24 : isAggT Try.prog 24 = some false := by kernel_rfl
theorem am_cl24 : Try.prog.cellsOf 24 = 1 := by kernel_rfl
theorem am_in25 : (Try.prog.info? 25).isSome = true := by kernel_rfl
theorem am_ag25 : isAggT Try.prog 25 = some false := by kernel_rfl
theorem am_cl25 : Try.prog.cellsOf 25 = 1 := by kernel_rfl
theorem am_by25 : Try.prog.bytesOf 25 = 24 := by kernel_rfl
theorem am_el25 : elemOfSlice Try.prog 25 = some 36 := by kernel_rfl
theorem am_ze25 : zeroCellsAV Try.prog 25 = some [.lit (.slice none 0 0)] := by kernel_rfl
theorem am_in26 : (Try.prog.info? 26).isSome = true := by kernel_rfl
theorem am_ag26 : isAggT Try.prog 26 = some false := by kernel_rfl
theorem am_cl26 : Try.prog.cellsOf 26 = 1 := by kernel_rfl
theorem am_by26 : Try.prog.bytesOf 26 = 8 := by kernel_rfl
theorem am_el26 : elemOfSlice Try.prog 26 = none := by kernel_rfl
theorem am_ze26 : zeroCellsAV Try.prog 26 = some [.lit (.int .i64 0)] := by kernel_rfl
theorem am_ag28 : isAggT Try.prog 28 = some false := by kernel_rfl
theorem am_cl28 : Try.prog.cellsOf 28 = 1 := by kernel_rfl
theorem am_ag30 : isAggT Try.prog 30 = some false := by kernel_rfl
theorem am_cl30 : Try.prog.cellsOf 30 = 1 := by kernel_rfl
theorem am_ag31 : isAggT Try.prog 31 = some false := by kernel_rfl
theorem am_cl31 : Try.prog.cellsOf 31 = 1 := by kernel_rfl
theorem am_ag32 : isAggT Try.prog 32 = some false := by kernel_rfl
theorem am_cl32 : Try.prog.cellsOf 32 = 1 := by kernel_rfl
theorem am_ag33 : isAggT Try.prog 33 = some false := by kernel_rfl
theorem am_cl33 : Try.prog.cellsOf 33 = 1 := by kernel_rfl
theorem am_ag34 : isAggT Try.prog 34 = some false := by kernel_rfl
theorem am_cl34 : Try.prog.cellsOf 34 = 1 := by kernel_rfl
theorem am_in35 : (Try.prog.info? 35).isSome = true := by kernel_rfl
theorem am_ag35 : isAggT Try.prog 35 = some true := by kernel_rfl
theorem am_cl35 : Try.prog.cellsOf 35 = 2 := by kernel_rfl
theorem am_by35 : Try.prog.bytesOf 35 = 16 := by kernel_rfl
theorem am_el35 : elemOfSlice Try.prog 35 = none := by kernel_rfl
theorem am_ze35 : zeroCellsAV Try.prog 35 = some [.lit (.int .i64 0), .lit (.int .i64 0)] := by kernel_rfl
theorem am_fi35_0 : fieldOf Try.prog 35 0 = some (0, 3) := by kernel_rfl
theorem am_fi35_1 : fieldOf Try.prog 35 1 = some (1, 3) := by kernel_rfl
theorem am_pl35 : placesL Try.prog 35 = some [(0, 1), (1, 1)] := by kernel_rfl
theorem am_in36 : (Try.prog.info? 36).isSome = true := by kernel_rfl
theorem am_ag36 : isAggT Try.prog 36 = some true := by kernel_rfl
theorem am_cl36 : Try.prog.cellsOf 36 = 2 := by kernel_rfl
theorem am_by36 : Try.prog.bytesOf 36 = 16 := by kernel_rfl
theorem am_el36 : elemOfSlice Try.prog 36 = none := by kernel_rfl
theorem am_ze36 : zeroCellsAV Try.prog 36 = some [.lit (.int .i64 0), .lit (.int .i64 0)] := by kernel_rfl
theorem am_fi36_0 : fieldOf Try.prog 36 0 = some (0, 3) := by kernel_rfl
theorem am_fi36_1 : fieldOf Try.prog 36 1 = some (1, 3) := by kernel_rfl
theorem am_pl36 : placesL Try.prog 36 = some [(0, 1), (1, 1)] := by kernel_rfl
theorem am_ag37 : isAggT Try.prog 37 = some false := by kernel_rfl
theorem am_cl37 : Try.prog.cellsOf 37 = 1 := by kernel_rfl
theorem am_ag38 : isAggT Try.prog 38 = some false := by kernel_rfl
theorem am_cl38 : Try.prog.cellsOf 38 = 1 := by kernel_rfl
theorem am_ag39 : isAggT Try.prog 39 = some false := by kernel_rfl
theorem am_cl39 : Try.prog.cellsOf 39 = 1 := by kernel_rfl
theorem am_ag40 : isAggT Try.prog 40 = some false := by kernel_rfl
theorem am_cl40 : Try.prog.cellsOf 40 = 1 := by kernel_rfl
theorem am_ag41 : isAggT Try.prog 41 = some false := by kernel_rfl
theorem am_cl41 : Try.prog.cellsOf 41 = 1 := by kernel_rfl
theorem am_ag42 : isAggT Try.prog 42 = some false := by kernel_rfl
theorem am_cl42 : Try.prog.cellsOf 42 = 1 := by kernel_rfl
theorem am_in43 : (Try.prog.info? 43).isSome = true := by kernel_rfl
theorem am_ag43 : isAggT Try.prog 43 = some false := by kernel_rfl
theorem am_cl43 : Try.prog.cellsOf 43 = 1 := by kernel_rfl
theorem am_by43 : Try.prog.bytesOf 43 = 24 := by kernel_rfl
theorem am_el43 : elemOfSlice Try.prog 43 = some 3 := by kernel_rfl
theorem am_ze43 : zeroCellsAV Try.prog 43 = some [.lit (.slice none 0 0)] := by kernel_rfl
theorem am_ag44 : isAggT Try.prog 44 = some false := by kernel_rfl
theorem am_cl44 : Try.prog.cellsOf 44 = 1 := by kernel_rfl
theorem am_ag45 : isAggT Try.prog 45 = some false := by kernel_rfl
theorem am_cl45 : Try.prog.cellsOf 45 = 1 := by kernel_rfl
theorem am_ag47 : isAggT Try.prog 47 = some false := by kernel_rfl
theorem am_cl47 : Try.prog.cellsOf 47 = 1 := by kernel_rfl
theorem am_ag48 : isAggT Try.prog 48 = some false := by kernel_rfl
theorem am_cl48 : Try.prog.cellsOf 48 = 1 := by kernel_rfl
theorem am_ag50 : isAggT Try.prog 50 = some false := by kernel_rfl
theorem am_cl50 : Try.prog.cellsOf 50 = 1 := by kernel_rfl
theorem am_ag51 : isAggT Try.prog 51 = some false := by kernel_rfl
theorem am_cl51 : Try.prog.cellsOf 51 = 1 := by kernel_rfl
theorem am_ag52 : isAggT Try.prog 52 = some false := by kernel_rfl
theorem am_cl52 : Try.prog.cellsOf 52 = 1 := by kernel_rfl
theorem am_ag53 : isAggT Try.prog 53 = some false := by kernel_rfl
theorem am_cl53 : Try.prog.cellsOf 53 = 1 := by kernel_rfl
theorem am_ag54 : isAggT Try.prog 54 = some false := by kernel_rfl
theorem am_cl54 : Try.prog.cellsOf 54 = 1 := by kernel_rfl
theorem am_ag55 : isAggT Try.prog 55 = some false := by kernel_rfl
theorem am_cl55 : Try.prog.cellsOf 55 = 1 := by kernel_rfl
theorem am_in56 : (Try.prog.info? 56).isSome = true := by kernel_rfl
theorem am_ag56 : isAggT Try.prog 56 = some true := by kernel_rfl
theorem am_cl56 : Try.prog.cellsOf 56 = 2 := by kernel_rfl
theorem am_by56 : Try.prog.bytesOf 56 = 16 := by kernel_rfl
theorem am_el56 : elemOfSlice Try.prog 56 = none := by kernel_rfl
theorem am_ze56 : zeroCellsAV Try.prog 56 = some [.lit (.int .i64 0), .lit (.int .i64 0)] := by kernel_rfl
theorem am_fi56_0 : fieldOf Try.prog 56 0 = some (0, 3) := by kernel_rfl
theorem am_fi56_1 : fieldOf Try.prog 56 1 = some (1, 3) := by kernel_rfl
theorem am_pl56 : placesL Try.prog 56 = some [(0, 1), (1, 1)] := by kernel_rfl
theorem am_in57 : (Try.prog.info? 57).isSome = true := by kernel_rfl
theorem am_ag57 : isAggT Try.prog 57 = some true := by kernel_rfl
theorem am_cl57 : Try.prog.cellsOf 57 = 2 := by kernel_rfl
theorem am_by57 : Try.prog.bytesOf 57 = 16 := by kernel_rfl
theorem am_el57 : elemOfSlice Try.prog 57 = none := by kernel_rfl
theorem am_ze57 : zeroCellsAV Try.prog 57 = some [.lit (.int .i64 0), .lit (.int .i64 0)] := by kernel_rfl
theorem am_fi57_0 : fieldOf Try.prog 57 0 = some (0, 3) := by kernel_rfl
theorem am_fi57_1 : fieldOf Try.prog 57 1 = some (1, 3) := by kernel_rfl
theorem am_pl57 : placesL Try.prog 57 = some [(0, 1), (1, 1)] := by kernel_rfl
theorem am_ag58 : isAggT Try.prog 58 = some false := by kernel_rfl
theorem am_cl58 : Try.prog.cellsOf 58 = 1 := by kernel_rfl
theorem am_ag59 : isAggT Try.prog 59 = some false := by kernel_rfl
theorem am_cl59 : Try.prog.cellsOf 59 = 1 := by kernel_rfl
theorem am_ag60 : isAggT Try.prog 60 = some false := by kernel_rfl
theorem am_cl60 : Try.prog.cellsOf 60 = 1 := by kernel_rfl
theorem am_ag61 : isAggT Try.prog 61 = some false := by kernel_rfl
theorem am_cl61 : Try.prog.cellsOf 61 = 1 := by kernel_rfl
theorem am_ag62 : isAggT Try.prog 62 = some false := by kernel_rfl
theorem am_cl62 : Try.prog.cellsOf 62 = 1 := by kernel_rfl
theorem am_ag63 : isAggT Try.prog 63 = some false := by kernel_rfl
theorem am_cl63 : Try.prog.cellsOf 63 = 1 := by kernel_rfl
theorem am_ag64 : isAggT Try.prog 64 = some false := by kernel_rfl
theorem am_cl64 : Try.prog.cellsOf 64 = 1 := by kernel_rfl
theorem am_ag65 : isAggT Try.prog 65 = some false := by kernel_rfl
theorem am_cl65 : Try.prog.cellsOf 65 = 1 := by kernel_rfl
theorem am_ag66 : isAggT Try.prog 66 = some false := by kernel_rfl
theorem am_cl66 : Try.prog.cellsOf 66 = 1 := by kernel_rfl
theorem am_ag67 : isAggT Try.prog 67 = some false := by kernel_rfl
theorem am_cl67 : Try.prog.cellsOf 67 = 1 := by kernel_rfl
theorem am_in68 : (Try.prog.info? 68).isSome = true := by kernel_rfl
theorem am_ag68 : isAggT Try.prog 68 = some false := by kernel_rfl
theorem am_cl68 : Try.prog.cellsOf 68 = 1 := by kernel_rfl
theorem am_by68 : Try.prog.bytesOf 68 = 24 := by kernel_rfl
theorem am_el68 : elemOfSlice Try.prog 68 = some 70 := by kernel_rfl
theorem am_ze68 : zeroCellsAV Try.prog 68 = some [.lit (.slice none 0 0)] := by kernel_rfl
theorem am_in69 : (Try.prog.info? 69).isSome = true := by kernel_rfl
theorem am_ag69 : isAggT Try.prog 69 = some true := by kernel_rfl
theorem am_cl69 : Try.prog.cellsOf 69 = 3 := by kernel_rfl
theorem am_by69 : Try.prog.bytesOf 69 = 24 := by kernel_rfl
theorem am_el69 : elemOfSlice Try.prog 69 = none := by kernel_rfl
theorem am_ze69 : zeroCellsAV Try.prog 69 = some [.lit (.int .i64 0), .lit (.int .i64 0), .lit (.int .i64 0)] := by kernel_rfl
theorem am_fi69_0 : fieldOf Try.prog 69 0 = some (0, 3) := by kernel_rfl
theorem am_fi69_1 : fieldOf Try.prog 69 1 = some (1, 3) := by kernel_rfl
theorem am_fi69_2 : fieldOf Try.prog 69 2 = some (2, 3) := by kernel_rfl
theorem am_pl69 : placesL Try.prog 69 = some [(0, 1), (1, 1), (2, 1)] := by kernel_rfl
theorem am_in70 : (Try.prog.info? 70).isSome = true := by kernel_rfl
theorem am_ag70 : isAggT Try.prog 70 = some true := by kernel_rfl
theorem am_cl70 : Try.prog.cellsOf 70 = 3 := by kernel_rfl
theorem am_by70 : Try.prog.bytesOf 70 = 24 := by kernel_rfl
theorem am_el70 : elemOfSlice Try.prog 70 = none := by kernel_rfl
theorem am_ze70 : zeroCellsAV Try.prog 70 = some [.lit (.int .i64 0), .lit (.int .i64 0), .lit (.int .i64 0)] := by kernel_rfl
theorem am_fi70_0 : fieldOf Try.prog 70 0 = some (0, 3) := by kernel_rfl
theorem am_fi70_1 : fieldOf Try.prog 70 1 = some (1, 3) := by kernel_rfl
theorem am_fi70_2 : fieldOf Try.prog 70 2 = some (2, 3) := by kernel_rfl
theorem am_pl70 : placesL Try.prog 70 = some [(0, 1), (1, 1), (2, 1)] := by kernel_rfl
theorem am_ag71 : isAggT Try.prog 71 = some false := by kernel_rfl
theorem am_cl71 : Try.prog.cellsOf 71 = 1 := by kernel_rfl
theorem am_ag72 : isAggT Try.prog 72 = some false := by kernel_rfl
theorem am_cl72 : Try.prog.cellsOf 72 = 1 := by kernel_rfl
theorem am_ag73 : isAggT Try.prog 73 = some false := by kernel_rfl
theorem am_cl73 : Try.prog.cellsOf 73 = 1 := by kernel_rfl
theorem am_ag74 : isAggT Try.prog 74 = some false := by kernel_rfl
theorem am_cl74 : Try.prog.cellsOf 74 = 1 := by kernel_rfl
theorem am_ag75 : isAggT Try.prog 75 = some false := by kernel_rfl
theorem am_cl75 : Try.prog.cellsOf 75 = 1 := by kernel_rfl
theorem am_ag76 : isAggT Try.prog 76 = some false := by kernel_rfl
theorem am_cl76 : Try.prog.cellsOf 76 = 1 := by kernel_rfl
theorem am_ag77 : isAggT Try.prog 77 = some false := by kernel_rfl
theorem am_cl77 : Try.prog.cellsOf 77 = 1 := by kernel_rfl
theorem am_ag78 : isAggT Try.prog 78 = some false := by kernel_rfl
theorem am_cl78 : Try.prog.cellsOf 78 = 1 := by kernel_rfl
theorem am_ag79 : isAggT Try.prog 79 = some false := by kernel_rfl
theorem am_cl79 : Try.prog.cellsOf 79 = 1 := by kernel_rfl
theorem am_ag80 : isAggT Try.prog 80 = some false := by kernel_rfl
theorem am_cl80 : Try.prog.cellsOf 80 = 1 := by kernel_rfl
theorem am_ag81 : isAggT Try.prog 81 = some false := by kernel_rfl
theorem am_cl81 : Try.prog.cellsOf 81 = 1 := by kernel_rfl
theorem am_ag82 : isAggT Try.prog 82 = some false := by kernel_rfl
theorem am_cl82 : Try.prog.cellsOf 82 = 1 := by kernel_rfl
theorem am_in83 : (Try.prog.info? 83).isSome = true := by kernel_rfl
theorem am_ag83 : isAggT Try.prog 83 = some false := by kernel_rfl
theorem am_cl83 : Try.prog.cellsOf 83 = 1 := by kernel_rfl
theorem am_by83 : Try.prog.bytesOf 83 = 8 := by kernel_rfl
theorem am_el83 : elemOfSlice Try.prog 83 = none := by kernel_rfl
theorem am_ze83 : zeroCellsAV Try.prog 83 = some [.lit (.int .u64 0)] := by kernel_rfl
theorem am_ag84 : isAggT Try.prog 84 = some false := by kernel_rfl
theorem am_cl84 : Try.prog.cellsOf 84 = 1 := by kernel_rfl
theorem am_ag85 : isAggT Try.prog 85 = some false := by kernel_rfl
theorem am_cl85 : Try.prog.cellsOf 85 = 1 := by kernel_rfl
theorem am_in86 : (Try.prog.info? 86).isSome = true := by kernel_rfl
theorem am_ag86 : isAggT Try.prog 86 = some false := by kernel_rfl
theorem am_cl86 : Try.prog.cellsOf 86 = 1 := by kernel_rfl
theorem am_by86 : Try.prog.bytesOf 86 = 8 := by kernel_rfl
theorem am_el86 : elemOfSlice Try.prog 86 = none := by kernel_rfl
theorem am_ze86 : zeroCellsAV Try.prog 86 = some [.lit (.int .i64 0)] := by kernel_rfl
theorem am_ag88 : isAggT Try.prog 88 = some false := by kernel_rfl
theorem am_cl88 : Try.prog.cellsOf 88 = 1 := by kernel_rfl
theorem am_ag89 : isAggT Try.prog 89 = some false := by kernel_rfl
theorem am_cl89 : Try.prog.cellsOf 89 = 1 := by kernel_rfl
theorem am_ag90 : isAggT Try.prog 90 = some false := by kernel_rfl
theorem am_cl90 : Try.prog.cellsOf 90 = 1 := by kernel_rfl
theorem am_ag92 : isAggT Try.prog 92 = some false := by kernel_rfl
theorem am_cl92 : Try.prog.cellsOf 92 = 1 := by kernel_rfl
theorem am_ag93 : isAggT Try.prog 93 = some false := by kernel_rfl
theorem am_cl93 : Try.prog.cellsOf 93 = 1 := by kernel_rfl
theorem am_in94 : (Try.prog.info? 94).isSome = true := by kernel_rfl
theorem am_ag94 : isAggT Try.prog 94 = some false := by kernel_rfl
theorem am_cl94 : Try.prog.cellsOf 94 = 1 := by kernel_rfl
theorem am_by94 : Try.prog.bytesOf 94 = 4 := by kernel_rfl
theorem am_el94 : elemOfSlice Try.prog 94 = none := by kernel_rfl
theorem am_ze94 : zeroCellsAV Try.prog 94 = some [.lit (.int .u32 0)] := by kernel_rfl
theorem am_ag95 : isAggT Try.prog 95 = some false := by kernel_rfl
theorem am_cl95 : Try.prog.cellsOf 95 = 1 := by kernel_rfl
theorem am_in96 : (Try.prog.info? 96).isSome = true := by kernel_rfl
theorem am_ag96 : isAggT Try.prog 96 = some false := by kernel_rfl
theorem am_cl96 : Try.prog.cellsOf 96 = 1 := by kernel_rfl
theorem am_by96 : Try.prog.bytesOf 96 = 8 := by kernel_rfl
theorem am_el96 : elemOfSlice Try.prog 96 = none := by kernel_rfl
theorem am_ze96 : zeroCellsAV Try.prog 96 = some [.lit (.int .u64 0)] := by kernel_rfl
theorem am_ag97 : isAggT Try.prog 97 = some false := by kernel_rfl
theorem am_cl97 : Try.prog.cellsOf 97 = 1 := by kernel_rfl
theorem am_in98 : (Try.prog.info? 98).isSome = true := by kernel_rfl
theorem am_ag98 : isAggT Try.prog 98 = some false := by kernel_rfl
theorem am_cl98 : Try.prog.cellsOf 98 = 1 := by kernel_rfl
theorem am_by98 : Try.prog.bytesOf 98 = 8 := by kernel_rfl
theorem am_el98 : elemOfSlice Try.prog 98 = none := by kernel_rfl
theorem am_ze98 : zeroCellsAV Try.prog 98 = some [.lit (.int .u64 0)] := by kernel_rfl
theorem am_ag99 : isAggT Try.prog 99 = some false := by kernel_rfl
theorem am_cl99 : Try.prog.cellsOf 99 = 1 := by kernel_rfl
theorem am_ag100 : isAggT Try.prog 100 = some false := by kernel_rfl
theorem am_cl100 : Try.prog.cellsOf 100 = 1 := by kernel_rfl
theorem am_ag101 : isAggT Try.prog 101 = some false := by kernel_rfl
theorem am_cl101 : Try.prog.cellsOf 101 = 1 := by kernel_rfl
theorem am_in102 : (Try.prog.info? 102).isSome = true := by kernel_rfl
theorem am_ag102 : isAggT Try.prog 102 = some false := by kernel_rfl
theorem am_cl102 : Try.prog.cellsOf 102 = 1 := by kernel_rfl
theorem am_by102 : Try.prog.bytesOf 102 = 8 := by kernel_rfl
theorem am_el102 : elemOfSlice Try.prog 102 = none := by kernel_rfl
theorem am_ze102 : zeroCellsAV Try.prog 102 = some [.lit (.pointer none)] := by kernel_rfl
theorem am_ag103 : isAggT Try.prog 103 = some false := by kernel_rfl
theorem am_cl103 : Try.prog.cellsOf 103 = 1 := by kernel_rfl
theorem am_in104 : (Try.prog.info? 104).isSome = true := by kernel_rfl
theorem am_ag104 : isAggT Try.prog 104 = some false := by kernel_rfl
theorem am_cl104 : Try.prog.cellsOf 104 = 1 := by kernel_rfl
theorem am_by104 : Try.prog.bytesOf 104 = 8 := by kernel_rfl
theorem am_el104 : elemOfSlice Try.prog 104 = none := by kernel_rfl
theorem am_ze104 : zeroCellsAV Try.prog 104 = some [.lit (.pointer none)] := by kernel_rfl
theorem am_ag106 : isAggT Try.prog 106 = some false := by kernel_rfl
theorem am_cl106 : Try.prog.cellsOf 106 = 1 := by kernel_rfl
theorem am_ag107 : isAggT Try.prog 107 = some false := by kernel_rfl
theorem am_cl107 : Try.prog.cellsOf 107 = 1 := by kernel_rfl
theorem am_in108 : (Try.prog.info? 108).isSome = true := by kernel_rfl
theorem am_ag108 : isAggT Try.prog 108 = some true := by kernel_rfl
theorem am_cl108 : Try.prog.cellsOf 108 = 4 := by kernel_rfl
theorem am_by108 : Try.prog.bytesOf 108 = 40 := by kernel_rfl
theorem am_el108 : elemOfSlice Try.prog 108 = none := by kernel_rfl
theorem am_ze108 : zeroCellsAV Try.prog 108 = some [.lit (.pointer none), .lit (.pointer none), .lit (.pointer none), .lit (.string ByteArray.empty)] := by kernel_rfl
theorem am_fi108_0 : fieldOf Try.prog 108 0 = some (0, 17) := by kernel_rfl
theorem am_fi108_1 : fieldOf Try.prog 108 1 = some (1, 17) := by kernel_rfl
theorem am_fi108_2 : fieldOf Try.prog 108 2 = some (2, 17) := by kernel_rfl
theorem am_fi108_3 : fieldOf Try.prog 108 3 = some (3, 9) := by kernel_rfl
theorem am_pl108 : placesL Try.prog 108 = some [(0, 1), (1, 1), (2, 1), (3, 1)] := by kernel_rfl
theorem am_in109 : (Try.prog.info? 109).isSome = true := by kernel_rfl
theorem am_ag109 : isAggT Try.prog 109 = some true := by kernel_rfl
theorem am_cl109 : Try.prog.cellsOf 109 = 4 := by kernel_rfl
theorem am_by109 : Try.prog.bytesOf 109 = 40 := by kernel_rfl
theorem am_el109 : elemOfSlice Try.prog 109 = none := by kernel_rfl
theorem am_ze109 : zeroCellsAV Try.prog 109 = some [.lit (.pointer none), .lit (.pointer none), .lit (.pointer none), .lit (.string ByteArray.empty)] := by kernel_rfl
theorem am_fi109_0 : fieldOf Try.prog 109 0 = some (0, 17) := by kernel_rfl
theorem am_fi109_1 : fieldOf Try.prog 109 1 = some (1, 17) := by kernel_rfl
theorem am_fi109_2 : fieldOf Try.prog 109 2 = some (2, 17) := by kernel_rfl
theorem am_fi109_3 : fieldOf Try.prog 109 3 = some (3, 9) := by kernel_rfl
theorem am_pl109 : placesL Try.prog 109 = some [(0, 1), (1, 1), (2, 1), (3, 1)] := by kernel_rfl
theorem am_in110 : (Try.prog.info? 110).isSome = true := by kernel_rfl
theorem am_ag110 : isAggT Try.prog 110 = some true := by kernel_rfl
theorem am_cl110 : Try.prog.cellsOf 110 = 0 := by kernel_rfl
theorem am_by110 : Try.prog.bytesOf 110 = 0 := by kernel_rfl
theorem am_el110 : elemOfSlice Try.prog 110 = none := by kernel_rfl
theorem am_ze110 : zeroCellsAV Try.prog 110 = some [] := by kernel_rfl
theorem am_ar110 : arrOf Try.prog 110 = some (0, 16) := by kernel_rfl
theorem am_pn110 : placesL Try.prog 110 = none := by kernel_rfl
theorem am_in111 : (Try.prog.info? 111).isSome = true := by kernel_rfl
theorem am_ag111 : isAggT Try.prog 111 = some true := by kernel_rfl
theorem am_cl111 : Try.prog.cellsOf 111 = 0 := by kernel_rfl
theorem am_by111 : Try.prog.bytesOf 111 = 0 := by kernel_rfl
theorem am_el111 : elemOfSlice Try.prog 111 = none := by kernel_rfl
theorem am_ze111 : zeroCellsAV Try.prog 111 = some [] := by kernel_rfl
theorem am_fi111_0 : fieldOf Try.prog 111 0 = some (0, 110) := by kernel_rfl
theorem am_pl111 : placesL Try.prog 111 = some [(0, 0)] := by kernel_rfl
theorem am_in112 : (Try.prog.info? 112).isSome = true := by kernel_rfl
theorem am_ag112 : isAggT Try.prog 112 = some true := by kernel_rfl
theorem am_cl112 : Try.prog.cellsOf 112 = 0 := by kernel_rfl
theorem am_by112 : Try.prog.bytesOf 112 = 0 := by kernel_rfl
theorem am_el112 : elemOfSlice Try.prog 112 = none := by kernel_rfl
theorem am_ze112 : zeroCellsAV Try.prog 112 = some [] := by kernel_rfl
theorem am_fi112_0 : fieldOf Try.prog 112 0 = some (0, 110) := by kernel_rfl
theorem am_pl112 : placesL Try.prog 112 = some [(0, 0)] := by kernel_rfl
theorem am_in113 : (Try.prog.info? 113).isSome = true := by kernel_rfl
theorem am_ag113 : isAggT Try.prog 113 = some false := by kernel_rfl
theorem am_cl113 : Try.prog.cellsOf 113 = 1 := by kernel_rfl
theorem am_by113 : Try.prog.bytesOf 113 = 1 := by kernel_rfl
theorem am_el113 : elemOfSlice Try.prog 113 = none := by kernel_rfl
theorem am_ze113 : zeroCellsAV Try.prog 113 = some [.lit (.int .u8 0)] := by kernel_rfl
theorem am_in114 : (Try.prog.info? 114).isSome = true := by kernel_rfl
theorem am_ag114 : isAggT Try.prog 114 = some false := by kernel_rfl
theorem am_cl114 : Try.prog.cellsOf 114 = 1 := by kernel_rfl
theorem am_by114 : Try.prog.bytesOf 114 = 1 := by kernel_rfl
theorem am_el114 : elemOfSlice Try.prog 114 = none := by kernel_rfl
theorem am_ze114 : zeroCellsAV Try.prog 114 = some [.lit (.int .u8 0)] := by kernel_rfl
theorem am_ag115 : isAggT Try.prog 115 = some false := by kernel_rfl
theorem am_cl115 : Try.prog.cellsOf 115 = 1 := by kernel_rfl
theorem am_in116 : (Try.prog.info? 116).isSome = true := by kernel_rfl
theorem am_ag116 : isAggT Try.prog 116 = some false := by kernel_rfl
theorem am_cl116 : Try.prog.cellsOf 116 = 1 := by kernel_rfl
theorem am_by116 : Try.prog.bytesOf 116 = 8 := by kernel_rfl
theorem am_el116 : elemOfSlice Try.prog 116 = none := by kernel_rfl
theorem am_ze116 : zeroCellsAV Try.prog 116 = some [.lit (.pointer none)] := by kernel_rfl
theorem am_in117 : (Try.prog.info? 117).isSome = true := by kernel_rfl
theorem am_ag117 : isAggT Try.prog 117 = some false := by kernel_rfl
theorem am_cl117 : Try.prog.cellsOf 117 = 1 := by kernel_rfl
theorem am_by117 : Try.prog.bytesOf 117 = 4 := by kernel_rfl
theorem am_el117 : elemOfSlice Try.prog 117 = none := by kernel_rfl
theorem am_ze117 : zeroCellsAV Try.prog 117 = some [.lit (.int .i32 0)] := by kernel_rfl
theorem am_in118 : (Try.prog.info? 118).isSome = true := by kernel_rfl
theorem am_ag118 : isAggT Try.prog 118 = some false := by kernel_rfl
theorem am_cl118 : Try.prog.cellsOf 118 = 1 := by kernel_rfl
theorem am_by118 : Try.prog.bytesOf 118 = 4 := by kernel_rfl
theorem am_el118 : elemOfSlice Try.prog 118 = none := by kernel_rfl
theorem am_ze118 : zeroCellsAV Try.prog 118 = some [.lit (.int .i32 0)] := by kernel_rfl
theorem am_in119 : (Try.prog.info? 119).isSome = true := by kernel_rfl
theorem am_ag119 : isAggT Try.prog 119 = some true := by kernel_rfl
theorem am_cl119 : Try.prog.cellsOf 119 = 11 := by kernel_rfl
theorem am_by119 : Try.prog.bytesOf 119 = 48 := by kernel_rfl
theorem am_el119 : elemOfSlice Try.prog 119 = none := by kernel_rfl
theorem am_ze119 : zeroCellsAV Try.prog 119 = some [.lit (.int .u64 0), .lit (.int .u64 0), .lit (.int .u32 0), .lit (.int .u8 0), .lit (.int .u8 0), .lit (.int .u8 0), .lit (.int .u8 0), .lit (.nilFunc), .lit (.pointer none), .lit (.int .i32 0), .lit (.int .i32 0)] := by kernel_rfl
theorem am_fi119_0 : fieldOf Try.prog 119 0 = some (0, 12) := by kernel_rfl
theorem am_fi119_1 : fieldOf Try.prog 119 1 = some (1, 12) := by kernel_rfl
theorem am_fi119_2 : fieldOf Try.prog 119 2 = some (2, 94) := by kernel_rfl
theorem am_fi119_3 : fieldOf Try.prog 119 3 = some (3, 113) := by kernel_rfl
theorem am_fi119_4 : fieldOf Try.prog 119 4 = some (4, 5) := by kernel_rfl
theorem am_fi119_5 : fieldOf Try.prog 119 5 = some (5, 5) := by kernel_rfl
theorem am_fi119_6 : fieldOf Try.prog 119 6 = some (6, 114) := by kernel_rfl
theorem am_fi119_7 : fieldOf Try.prog 119 7 = some (7, 115) := by kernel_rfl
theorem am_fi119_8 : fieldOf Try.prog 119 8 = some (8, 116) := by kernel_rfl
theorem am_fi119_9 : fieldOf Try.prog 119 9 = some (9, 117) := by kernel_rfl
theorem am_fi119_10 : fieldOf Try.prog 119 10 = some (10, 118) := by kernel_rfl
theorem am_pl119 : placesL Try.prog 119 = some [(0, 1), (1, 1), (2, 1), (3, 1), (4, 1), (5, 1), (6, 1), (7, 1), (8, 1), (9, 1), (10, 1)] := by kernel_rfl
theorem am_in120 : (Try.prog.info? 120).isSome = true := by kernel_rfl
theorem am_ag120 : isAggT Try.prog 120 = some true := by kernel_rfl
theorem am_cl120 : Try.prog.cellsOf 120 = 11 := by kernel_rfl
theorem am_by120 : Try.prog.bytesOf 120 = 48 := by kernel_rfl
theorem am_el120 : elemOfSlice Try.prog 120 = none := by kernel_rfl
theorem am_ze120 : zeroCellsAV Try.prog 120 = some [.lit (.int .u64 0), .lit (.int .u64 0), .lit (.int .u32 0), .lit (.int .u8 0), .lit (.int .u8 0), .lit (.int .u8 0), .lit (.int .u8 0), .lit (.nilFunc), .lit (.pointer none), .lit (.int .i32 0), .lit (.int .i32 0)] := by kernel_rfl
theorem am_fi120_0 : fieldOf Try.prog 120 0 = some (0, 12) := by kernel_rfl
theorem am_fi120_1 : fieldOf Try.prog 120 1 = some (1, 12) := by kernel_rfl
theorem am_fi120_2 : fieldOf Try.prog 120 2 = some (2, 94) := by kernel_rfl
theorem am_fi120_3 : fieldOf Try.prog 120 3 = some (3, 113) := by kernel_rfl
theorem am_fi120_4 : fieldOf Try.prog 120 4 = some (4, 5) := by kernel_rfl
theorem am_fi120_5 : fieldOf Try.prog 120 5 = some (5, 5) := by kernel_rfl
theorem am_fi120_6 : fieldOf Try.prog 120 6 = some (6, 114) := by kernel_rfl
theorem am_fi120_7 : fieldOf Try.prog 120 7 = some (7, 115) := by kernel_rfl
theorem am_fi120_8 : fieldOf Try.prog 120 8 = some (8, 116) := by kernel_rfl
theorem am_fi120_9 : fieldOf Try.prog 120 9 = some (9, 117) := by kernel_rfl
theorem am_fi120_10 : fieldOf Try.prog 120 10 = some (10, 118) := by kernel_rfl
theorem am_pl120 : placesL Try.prog 120 = some [(0, 1), (1, 1), (2, 1), (3, 1), (4, 1), (5, 1), (6, 1), (7, 1), (8, 1), (9, 1), (10, 1)] := by kernel_rfl

end Go.Proofs.Ytigjoaejncfmdaa

