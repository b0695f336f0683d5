/-
  Part 13 of the proof: functions walked on the abstract machine.
  Conditions: none.
-/
import Derived.Test.YtlpgjlnkfgacbaaGreatChecked
import Derived.KernelRfl
import Derived.Test.YtlpgjlnkfgacbaaGreatX12
set_option linter.unusedSimpArgs false
set_option linter.unusedVariables false
set_option linter.unusedSectionVars false
namespace Go.Proofs.YtlpgjlnkfgacbaaGreat
open Go.AM
theorem am_in3 : (Tryz.prog.info? 3).isSome = true := by kernel_rfl
theorem am_ag3 : isAggT Tryz.prog 3 = some false := by kernel_rfl
theorem am_cl3 : Tryz.prog.cellsOf 3 = 1 := by kernel_rfl
theorem am_by3 : Tryz.prog.bytesOf 3 = 8 := by kernel_rfl
theorem am_ze3 : zeroCellsAV Tryz.prog 3 = some [.lit (.int .i64 0)] := by kernel_rfl
theorem am_in4 : (Tryz.prog.info? 4).isSome = true := by kernel_rfl
theorem am_ag4 : isAggT Tryz.prog 4 = some false := by kernel_rfl
theorem am_cl4 : Tryz.prog.cellsOf 4 = 1 := by kernel_rfl
theorem am_ag5 : isAggT Tryz.prog 5 = some false := by kernel_rfl
theorem am_cl5 : Tryz.prog.cellsOf 5 = 1 := by kernel_rfl
theorem am_ag9 : isAggT Tryz.prog 9 = some false := by kernel_rfl
theorem am_cl9 : Tryz.prog.cellsOf 9 = 1 := by kernel_rfl
theorem am_el9 : elemOfSlice Tryz.prog 9 = none := by kernel_rfl
theorem am_ag22 : isAggT Tryz.prog 22 = some false := by kernel_rfl
theorem am_cl22 : Tryz.prog.cellsOf 22 = 1 := by kernel_rfl
theorem am_el22 : elemOfSlice Tryz.prog 22 = some 75 := by kernel_rfl
theorem am_ze22 : zeroCellsAV Tryz.prog 22 = some [.lit (.slice none 0 0)] := by kernel_rfl
theorem am_in24 : (Tryz.prog.info? 24).isSome = true := by kernel_rfl
theorem am_ag24 : isAggT Tryz.prog 24 = some true := by kernel_rfl
theorem am_cl24 : Tryz.prog.cellsOf 24 = 2 := by kernel_rfl
theorem am_ze24 : zeroCellsAV Tryz.prog 24 = some [.lit (.slice none 0 0), .lit (.slice none 0 0)] := by kernel_rfl
theorem am_fi24_0 : fieldOf Tryz.prog 24 0 = some (0, 22) := by kernel_rfl
theorem am_fi24_1 : fieldOf Tryz.prog 24 1 = some (1, 22) := by kernel_rfl
theorem am_pl24 : placesL Tryz.prog 24 = some [(0, 1), (1, 1)] := by kernel_rfl
theorem am_ag26 : isAggT Tryz.prog 26 = some true := by kernel_rfl
theorem am_cl26 : Tryz.prog.cellsOf 26 = 6 := by kernel_rfl
theorem am_fi26_0 : fieldOf Tryz.prog 26 0 = some (0, 9) := by kernel_rfl
theorem am_fi26_1 : fieldOf Tryz.prog 26 1 = some (1, 24) := by kernel_rfl
theorem am_fi26_2 : fieldOf Tryz.prog 26 2 = some (3, 3) := by kernel_rfl
theorem am_fi26_3 : fieldOf Tryz.prog 26 3 = some (4, 3) := by kernel_rfl
theorem am_fi26_4 : fieldOf Tryz.prog 26 4 = some (5, 3) := by kernel_rfl
theorem am_in27 : (Tryz.prog.info? 27).isSome = true := by kernel_rfl
theorem am_ag27 : isAggT Tryz.prog 27 = some false := by kernel_rfl
theorem am_cl27 : Tryz.prog.cellsOf 27 = 1 := by kernel_rfl
theorem am_el27 : elemOfSlice Tryz.prog 27 = some 58 := by kernel_rfl
theorem am_in28 : (Tryz.prog.info? 28).isSome = true := by kernel_rfl
theorem am_ag28 : isAggT Tryz.prog 28 = some false := by kernel_rfl
theorem am_cl28 : Tryz.prog.cellsOf 28 = 1 := by kernel_rfl
theorem am_el28 : elemOfSlice Tryz.prog 28 = some 40 := by kernel_rfl
theorem am_in29 : (Tryz.prog.info? 29).isSome = true := by kernel_rfl
theorem am_ag29 : isAggT Tryz.prog 29 = some false := by kernel_rfl
theorem am_cl29 : Tryz.prog.cellsOf 29 = 1 := by kernel_rfl
theorem am_el29 : elemOfSlice Tryz.prog 29 = some 131 := by kernel_rfl
theorem am_in30 : (Tryz.prog.info? 30).isSome = true := by kernel_rfl
theorem am_ag30 : isAggT Tryz.prog 30 = some false := by kernel_rfl
theorem am_cl30 : Tryz.prog.cellsOf 30 = 1 := by kernel_rfl
theorem am_el30 : elemOfSlice Tryz.prog 30 = some 77 := by kernel_rfl
theorem am_ag32 : isAggT Tryz.prog 32 = some true := by kernel_rfl
theorem am_cl32 : Tryz.prog.cellsOf 32 = 9 := by kernel_rfl
theorem am_fi32_0 : fieldOf Tryz.prog 32 0 = some (0, 3) := by kernel_rfl
theorem am_fi32_1 : fieldOf Tryz.prog 32 1 = some (1, 3) := by kernel_rfl
theorem am_fi32_2 : fieldOf Tryz.prog 32 2 = some (2, 3) := by kernel_rfl
theorem am_fi32_3 : fieldOf Tryz.prog 32 3 = some (3, 3) := by kernel_rfl
theorem am_fi32_4 : fieldOf Tryz.prog 32 4 = some (4, 3) := by kernel_rfl
theorem am_fi32_5 : fieldOf Tryz.prog 32 5 = some (5, 3) := by kernel_rfl
theorem am_fi32_6 : fieldOf Tryz.prog 32 6 = some (6, 3) := by kernel_rfl
theorem am_fi32_7 : fieldOf Tryz.prog 32 7 = some (7, 3) := by kernel_rfl
theorem am_fi32_8 : fieldOf Tryz.prog 32 8 = some (8, 3) := by kernel_rfl
theorem am_in34 : (Tryz.prog.info? 34).isSome = true := by kernel_rfl
theorem am_ag34 : isAggT Tryz.prog 34 = some true := by kernel_rfl
theorem am_cl34 : Tryz.prog.cellsOf 34 = 19 := by kernel_rfl
theorem am_ze34 : zeroCellsAV Tryz.prog 34 = some [.lit (.string ByteArray.empty), .lit (.slice none 0 0), .lit (.slice none 0 0), .lit (.int .i64 0), .lit (.int .i64 0), .lit (.int .i64 0), .lit (.slice none 0 0), .lit (.slice none 0 0), .lit (.slice none 0 0), .lit (.slice none 0 0), .lit (.int .i64 0), .lit (.int .i64 0), .lit (.int .i64 0), .lit (.int .i64 0), .lit (.int .i64 0), .lit (.int .i64 0), .lit (.int .i64 0), .lit (.int .i64 0), .lit (.int .i64 0)] := by kernel_rfl
theorem am_fi34_0 : fieldOf Tryz.prog 34 0 = some (0, 26) := by kernel_rfl
theorem am_fi34_1 : fieldOf Tryz.prog 34 1 = some (6, 27) := by kernel_rfl
theorem am_fi34_2 : fieldOf Tryz.prog 34 2 = some (7, 28) := by kernel_rfl
theorem am_fi34_3 : fieldOf Tryz.prog 34 3 = some (8, 29) := by kernel_rfl
theorem am_fi34_4 : fieldOf Tryz.prog 34 4 = some (9, 30) := by kernel_rfl
theorem am_fi34_5 : fieldOf Tryz.prog 34 5 = some (10, 32) := by kernel_rfl
theorem am_ag36 : isAggT Tryz.prog 36 = some true := by kernel_rfl
theorem am_cl36 : Tryz.prog.cellsOf 36 = 2 := by kernel_rfl
theorem am_fi36_0 : fieldOf Tryz.prog 36 0 = some (0, 3) := by kernel_rfl
theorem am_fi36_1 : fieldOf Tryz.prog 36 1 = some (1, 3) := by kernel_rfl
theorem am_in38 : (Tryz.prog.info? 38).isSome = true := by kernel_rfl
theorem am_ag38 : isAggT Tryz.prog 38 = some true := by kernel_rfl
theorem am_cl38 : Tryz.prog.cellsOf 38 = 3 := by kernel_rfl
theorem am_by38 : Tryz.prog.bytesOf 38 = 24 := by kernel_rfl
theorem am_ze38 : zeroCellsAV Tryz.prog 38 = some [.lit (.int .i64 0), .lit (.int .i64 0), .lit (.int .i64 0)] := by kernel_rfl
theorem am_fi38_0 : fieldOf Tryz.prog 38 0 = some (0, 3) := by kernel_rfl
theorem am_fi38_1 : fieldOf Tryz.prog 38 1 = some (1, 3) := by kernel_rfl
theorem am_fi38_2 : fieldOf Tryz.prog 38 2 = some (2, 3) := by kernel_rfl
theorem am_pl38 : placesL Tryz.prog 38 = some [(0, 1), (1, 1), (2, 1)] := by kernel_rfl
theorem am_in40 : (Tryz.prog.info? 40).isSome = true := by kernel_rfl
theorem am_ag40 : isAggT Tryz.prog 40 = some true := by kernel_rfl
theorem am_cl40 : Tryz.prog.cellsOf 40 = 10 := by kernel_rfl
theorem am_by40 : Tryz.prog.bytesOf 40 = 88 := by kernel_rfl
theorem am_ze40 : zeroCellsAV Tryz.prog 40 = some [.lit (.string ByteArray.empty), .lit (.int .i64 0), .lit (.int .i64 0), .lit (.int .i64 0), .lit (.int .i64 0), .lit (.int .i64 0), .lit (.int .i64 0), .lit (.int .i64 0), .lit (.int .i64 0), .lit (.int .i64 0)] := by kernel_rfl
theorem am_fi40_0 : fieldOf Tryz.prog 40 0 = some (0, 9) := by kernel_rfl
theorem am_fi40_1 : fieldOf Tryz.prog 40 1 = some (1, 36) := by kernel_rfl
theorem am_fi40_2 : fieldOf Tryz.prog 40 2 = some (3, 38) := by kernel_rfl
theorem am_fi40_3 : fieldOf Tryz.prog 40 3 = some (6, 38) := by kernel_rfl
theorem am_fi40_4 : fieldOf Tryz.prog 40 4 = some (9, 3) := by kernel_rfl
theorem am_in48 : (Tryz.prog.info? 48).isSome = true := by kernel_rfl
theorem am_ag48 : isAggT Tryz.prog 48 = some true := by kernel_rfl
theorem am_cl48 : Tryz.prog.cellsOf 48 = 2 := by kernel_rfl
theorem am_ze48 : zeroCellsAV Tryz.prog 48 = some [.lit (.int .i64 0), .lit (.int .i64 0)] := by kernel_rfl
theorem am_fi48_0 : fieldOf Tryz.prog 48 0 = some (0, 3) := by kernel_rfl
theorem am_fi48_1 : fieldOf Tryz.prog 48 1 = some (1, 3) := by kernel_rfl
theorem am_pl48 : placesL Tryz.prog 48 = some [(0, 1), (1, 1)] := by kernel_rfl
theorem am_in56 : (Tryz.prog.info? 56).isSome = true := by kernel_rfl
theorem am_ag56 : isAggT Tryz.prog 56 = some false := by kernel_rfl
theorem am_cl56 : Tryz.prog.cellsOf 56 = 1 := by kernel_rfl
theorem am_el56 : elemOfSlice Tryz.prog 56 = some 3 := by kernel_rfl
theorem am_in58 : (Tryz.prog.info? 58).isSome = true := by kernel_rfl
theorem am_ag58 : isAggT Tryz.prog 58 = some true := by kernel_rfl
theorem am_cl58 : Tryz.prog.cellsOf 58 = 5 := by kernel_rfl
theorem am_by58 : Tryz.prog.bytesOf 58 = 64 := by kernel_rfl
theorem am_ze58 : zeroCellsAV Tryz.prog 58 = some [.lit (.string ByteArray.empty), .lit (.int .i64 0), .lit (.int .i64 0), .lit (.int .i64 0), .lit (.slice none 0 0)] := by kernel_rfl
theorem am_fi58_0 : fieldOf Tryz.prog 58 0 = some (0, 9) := by kernel_rfl
theorem am_fi58_1 : fieldOf Tryz.prog 58 1 = some (1, 3) := by kernel_rfl
theorem am_fi58_2 : fieldOf Tryz.prog 58 2 = some (2, 3) := by kernel_rfl
theorem am_fi58_3 : fieldOf Tryz.prog 58 3 = some (3, 3) := by kernel_rfl
theorem am_fi58_4 : fieldOf Tryz.prog 58 4 = some (4, 56) := by kernel_rfl
theorem am_pl58 : placesL Tryz.prog 58 = some [(0, 1), (1, 1), (2, 1), (3, 1), (4, 1)] := by kernel_rfl
theorem am_in60 : (Tryz.prog.info? 60).isSome = true := by kernel_rfl
theorem am_ag60 : isAggT Tryz.prog 60 = some false := by kernel_rfl
theorem am_cl60 : Tryz.prog.cellsOf 60 = 1 := by kernel_rfl
theorem am_el60 : elemOfSlice Tryz.prog 60 = some 67 := by kernel_rfl
theorem am_in67 : (Tryz.prog.info? 67).isSome = true := by kernel_rfl
theorem am_ag67 : isAggT Tryz.prog 67 = some true := by kernel_rfl
theorem am_cl67 : Tryz.prog.cellsOf 67 = 2 := by kernel_rfl
theorem am_by67 : Tryz.prog.bytesOf 67 = 16 := by kernel_rfl
theorem am_ze67 : zeroCellsAV Tryz.prog 67 = some [.lit (.int .i64 0), .lit (.int .i64 0)] := by kernel_rfl
theorem am_fi67_0 : fieldOf Tryz.prog 67 0 = some (0, 3) := by kernel_rfl
theorem am_fi67_1 : fieldOf Tryz.prog 67 1 = some (1, 3) := by kernel_rfl
theorem am_pl67 : placesL Tryz.prog 67 = some [(0, 1), (1, 1)] := by kernel_rfl
theorem am_in75 : (Tryz.prog.info? 75).isSome = true := by kernel_rfl
theorem am_ag75 : isAggT Tryz.prog 75 = some true := by kernel_rfl
theorem am_cl75 : Tryz.prog.cellsOf 75 = 6 := by kernel_rfl
theorem am_by75 : Tryz.prog.bytesOf 75 = 48 := by kernel_rfl
theorem am_ze75 : zeroCellsAV Tryz.prog 75 = some [.lit (.int .i64 0), .lit (.int .i64 0), .lit (.int .i64 0), .lit (.int .i64 0), .lit (.int .i64 0), .lit (.int .i64 0)] := by kernel_rfl
theorem am_fi75_0 : fieldOf Tryz.prog 75 0 = some (0, 38) := by kernel_rfl
theorem am_fi75_1 : fieldOf Tryz.prog 75 1 = some (3, 38) := by kernel_rfl
theorem am_pl75 : placesL Tryz.prog 75 = some [(0, 3), (3, 3)] := by kernel_rfl
theorem am_in77 : (Tryz.prog.info? 77).isSome = true := by kernel_rfl
theorem am_ag77 : isAggT Tryz.prog 77 = some true := by kernel_rfl
theorem am_cl77 : Tryz.prog.cellsOf 77 = 8 := by kernel_rfl
theorem am_by77 : Tryz.prog.bytesOf 77 = 88 := by kernel_rfl
theorem am_ze77 : zeroCellsAV Tryz.prog 77 = some [.lit (.string ByteArray.empty), .lit (.int .i64 0), .lit (.int .i64 0), .lit (.int .i64 0), .lit (.int .i64 0), .lit (.int .i64 0), .lit (.int .i64 0), .lit (.slice none 0 0)] := by kernel_rfl
theorem am_fi77_0 : fieldOf Tryz.prog 77 0 = some (0, 9) := by kernel_rfl
theorem am_fi77_1 : fieldOf Tryz.prog 77 1 = some (1, 75) := by kernel_rfl
theorem am_fi77_2 : fieldOf Tryz.prog 77 2 = some (7, 60) := by kernel_rfl
theorem am_in81 : (Tryz.prog.info? 81).isSome = true := by kernel_rfl
theorem am_ag81 : isAggT Tryz.prog 81 = some false := by kernel_rfl
theorem am_cl81 : Tryz.prog.cellsOf 81 = 1 := by kernel_rfl
theorem am_ze81 : zeroCellsAV Tryz.prog 81 = some [.lit (.int .u64 0)] := by kernel_rfl
theorem am_in87 : (Tryz.prog.info? 87).isSome = true := by kernel_rfl
theorem am_ag87 : isAggT Tryz.prog 87 = some true := by kernel_rfl
theorem am_cl87 : Tryz.prog.cellsOf 87 = 2 := by kernel_rfl
theorem am_ze87 : zeroCellsAV Tryz.prog 87 = some [.lit (.int .u64 0), .lit (.int .u64 0)] := by kernel_rfl
theorem am_fi87_0 : fieldOf Tryz.prog 87 0 = some (0, 81) := by kernel_rfl
theorem am_fi87_1 : fieldOf Tryz.prog 87 1 = some (1, 81) := by kernel_rfl
theorem am_pl87 : placesL Tryz.prog 87 = some [(0, 1), (1, 1)] := by kernel_rfl
theorem am_el97 : elemOfSlice Tryz.prog 97 = some 156 := by kernel_rfl
theorem am_in117 : (Tryz.prog.info? 117).isSome = true := by kernel_rfl
theorem am_ag117 : isAggT Tryz.prog 117 = some true := by kernel_rfl
theorem am_cl117 : Tryz.prog.cellsOf 117 = 2 := by kernel_rfl
theorem am_ze117 : zeroCellsAV Tryz.prog 117 = some [.lit (.int .i64 0), .lit (.int .i64 0)] := by kernel_rfl
theorem am_fi117_0 : fieldOf Tryz.prog 117 0 = some (0, 3) := by kernel_rfl
theorem am_fi117_1 : fieldOf Tryz.prog 117 1 = some (1, 3) := by kernel_rfl
theorem am_pl117 : placesL Tryz.prog 117 = some [(0, 1), (1, 1)] := by kernel_rfl
theorem am_mt129 : mapTy Tryz.prog 129 = some (.int .i64, some (.bool false)) := by kernel_rfl
theorem am_in131 : (Tryz.prog.info? 131).isSome = true := by kernel_rfl
theorem am_ag131 : isAggT Tryz.prog 131 = some true := by kernel_rfl
theorem am_cl131 : Tryz.prog.cellsOf 131 = 2 := by kernel_rfl
theorem am_by131 : Tryz.prog.bytesOf 131 = 16 := by kernel_rfl
theorem am_ze131 : zeroCellsAV Tryz.prog 131 = some [.lit (.int .i64 0), .lit (.int .i64 0)] := by kernel_rfl
theorem am_fi131_0 : fieldOf Tryz.prog 131 0 = some (0, 3) := by kernel_rfl
theorem am_fi131_1 : fieldOf Tryz.prog 131 1 = some (1, 3) := by kernel_rfl
theorem am_el136 : elemOfSlice Tryz.prog 136 = some 38 := by kernel_rfl
theorem am_in156 : (Tryz.prog.info? 156).isSome = true := by kernel_rfl
theorem am_ag156 : isAggT Tryz.prog 156 = some true := by kernel_rfl
theorem am_cl156 : Tryz.prog.cellsOf 156 = 9 := by kernel_rfl
theorem am_by156 : Tryz.prog.bytesOf 156 = 80 := by kernel_rfl
theorem am_ze156 : zeroCellsAV Tryz.prog 156 = some [.lit (.int .i64 0), .lit (.int .i64 0), .lit (.int .i64 0), .lit (.int .i64 0), .lit (.int .i64 0), .lit (.int .i64 0), .lit (.bool false), .lit (.int .i64 0), .lit (.string ByteArray.empty)] := by kernel_rfl
theorem am_fi156_0 : fieldOf Tryz.prog 156 0 = some (0, 75) := by kernel_rfl
theorem am_fi156_1 : fieldOf Tryz.prog 156 1 = some (6, 4) := by kernel_rfl
theorem am_pl156 : placesL Tryz.prog 156 = some [(0, 6), (6, 1), (7, 1), (8, 1)] := by kernel_rfl
theorem am_el159 : elemOfSlice Tryz.prog 159 = some 22 := by kernel_rfl
theorem am_el163 : elemOfSlice Tryz.prog 163 = some 166 := by kernel_rfl
theorem am_in166 : (Tryz.prog.info? 166).isSome = true := by kernel_rfl
theorem am_ag166 : isAggT Tryz.prog 166 = some true := by kernel_rfl
theorem am_cl166 : Tryz.prog.cellsOf 166 = 2 := by kernel_rfl
theorem am_ze166 : zeroCellsAV Tryz.prog 166 = some [.lit (.int .i64 0), .lit (.int .u8 0)] := by kernel_rfl
theorem am_fi166_0 : fieldOf Tryz.prog 166 0 = some (0, 3) := by kernel_rfl
theorem am_fi166_1 : fieldOf Tryz.prog 166 1 = some (1, 5) := by kernel_rfl
theorem am_pl166 : placesL Tryz.prog 166 = some [(0, 1), (1, 1)] := by kernel_rfl
theorem am_in178 : (Tryz.prog.info? 178).isSome = true := by kernel_rfl
theorem am_ag178 : isAggT Tryz.prog 178 = some true := by kernel_rfl
theorem am_cl178 : Tryz.prog.cellsOf 178 = 3 := by kernel_rfl
theorem am_el178 : elemOfSlice Tryz.prog 178 = none := by kernel_rfl
theorem am_ze178 : zeroCellsAV Tryz.prog 178 = some [.lit (.int .i64 0), .lit (.int .i64 0), .lit (.int .i64 0)] := by kernel_rfl
theorem am_ar178 : arrOf Tryz.prog 178 = some (3, 3) := by kernel_rfl
theorem am_pn178 : placesL Tryz.prog 178 = none := by kernel_rfl
theorem am_in200 : (Tryz.prog.info? 200).isSome = true := by kernel_rfl
theorem am_ag200 : isAggT Tryz.prog 200 = some true := by kernel_rfl
theorem am_cl200 : Tryz.prog.cellsOf 200 = 9 := by kernel_rfl
theorem am_el200 : elemOfSlice Tryz.prog 200 = none := by kernel_rfl
theorem am_ze200 : zeroCellsAV Tryz.prog 200 = some [.lit (.int .i64 0), .lit (.int .i64 0), .lit (.int .i64 0), .lit (.int .i64 0), .lit (.int .i64 0), .lit (.int .i64 0), .lit (.int .i64 0), .lit (.int .i64 0), .lit (.int .i64 0)] := by kernel_rfl
theorem am_ar200 : arrOf Tryz.prog 200 = some (3, 178) := by kernel_rfl
theorem am_pn200 : placesL Tryz.prog 200 = none := by kernel_rfl
open Go Go.AM
theorem am_un3 : Tryz.prog.underlying 3 = some (.int .i64) := by kernel_rfl
theorem am_us3 : (Tryz.prog.underlying 3).isSome = true := by kernel_rfl
theorem am_un4 : Tryz.prog.underlying 4 = some .bool := by kernel_rfl
theorem am_un9 : Tryz.prog.underlying 9 = some .string := by kernel_rfl
theorem am_eq38 : EqT Tryz.prog 38 [(0, 3), (1, 3), (2, 3)] := ⟨⟨_, (by kernel_rfl : Tryz.prog.underlying 38 = some (.struct (Tryz.prog.fieldsOf 38))), by kernel_rfl, by kernel_rfl⟩, by kernel_rfl, by kernel_rfl⟩
theorem am_sq38 (a0 b0 : Int) (a1 b1 : Int) (a2 b2 : Int) : eqG Tryz.prog [.lit (.int .i64 a0), .lit (.int .i64 a1), .lit (.int .i64 a2)] [.lit (.int .i64 b0), .lit (.int .i64 b1), .lit (.int .i64 b2)] [(0, 3), (1, 3), (2, 3)] = some (decide (a0 = b0) && (decide (a1 = b1) && (decide (a2 = b2) && true))) := by simp [eqG, scEq, am_ag3, am_un3]
theorem am_eq48 : EqT Tryz.prog 48 [(0, 3), (1, 3)] := ⟨⟨_, (by kernel_rfl : Tryz.prog.underlying 48 = some (.struct (Tryz.prog.fieldsOf 48))), by kernel_rfl, by kernel_rfl⟩, by kernel_rfl, by kernel_rfl⟩
theorem am_sq48 (a0 b0 : Int) (a1 b1 : Int) : eqG Tryz.prog [.lit (.int .i64 a0), .lit (.int .i64 a1)] [.lit (.int .i64 b0), .lit (.int .i64 b1)] [(0, 3), (1, 3)] = some (decide (a0 = b0) && (decide (a1 = b1) && true)) := by simp [eqG, scEq, am_ag3, am_un3]
theorem am_eq67 : EqT Tryz.prog 67 [(0, 3), (1, 3)] := ⟨⟨_, (by kernel_rfl : Tryz.prog.underlying 67 = some (.struct (Tryz.prog.fieldsOf 67))), by kernel_rfl, by kernel_rfl⟩, by kernel_rfl, by kernel_rfl⟩
theorem am_sq67 (a0 b0 : Int) (a1 b1 : Int) : eqG Tryz.prog [.lit (.int .i64 a0), .lit (.int .i64 a1)] [.lit (.int .i64 b0), .lit (.int .i64 b1)] [(0, 3), (1, 3)] = some (decide (a0 = b0) && (decide (a1 = b1) && true)) := by simp [eqG, scEq, am_ag3, am_un3]
theorem am_un81 : Tryz.prog.underlying 81 = some (.int .u64) := by kernel_rfl
theorem am_us81 : (Tryz.prog.underlying 81).isSome = true := by kernel_rfl
theorem am_eq87 : EqT Tryz.prog 87 [(0, 81), (1, 81)] := ⟨⟨_, (by kernel_rfl : Tryz.prog.underlying 87 = some (.struct (Tryz.prog.fieldsOf 87))), by kernel_rfl, by kernel_rfl⟩, by kernel_rfl, by kernel_rfl⟩
theorem am_sq87 (a0 b0 : Int) (a1 b1 : Int) : eqG Tryz.prog [.lit (.int .u64 a0), .lit (.int .u64 a1)] [.lit (.int .u64 b0), .lit (.int .u64 b1)] [(0, 81), (1, 81)] = some (decide (a0 = b0) && (decide (a1 = b1) && true)) := by simp [eqG, scEq, am_ag81, am_un81]
end Go.Proofs.YtlpgjlnkfgacbaaGreat
namespace Go.AM
theorem pureOn_isAgg {P : Program} {t : TypeId} {b : Bool} (h : isAggT P t = some b) : pureOn P (isAgg t) = some b := by
  unfold isAggT at h
  cases hu : P.underlying t with
  | none => simp [hu] at h
  | some d =>
    simp only [hu, Option.map_some, Option.some.injEq] at h; subst h; simp only [isAgg, pureOn_bind, pureOn_underlying hu, Option.bind_some]
    cases d <;> rfl
theorem pureOn_sizeOf {P : Program} {t : TypeId} {c : Nat} (h : P.cellsOf t = c) (hc : c ≠ 0) : pureOn P (sizeOf t) = some c := by
  cases hi : P.info? t with
  | none => simp [Program.cellsOf, hi] at h; omega
  | some i =>
    have := cellsOf_info hi; have hp : pureOn P program = some P := rfl; simp only [sizeOf, typeInfo, pureOn_bind, hp, Option.bind_some, hi, pureOn_pure]; rw [← h, this]
section rules
variable {P : Program} {s : List (Nat × AV)} {b : List (Nat × Obj)} {n t e id : Nat} {x y : Operand} {k : IntKind} {i : Int}
theorem q.ixg {st el len : Nat} {cs : List AV} {xs : List Value} {v : Value} (har : arrOf P st = some (len, el)) (hag : isAggT P el = some false) (hcl : P.cellsOf el = 1) (hx : opv s x = some (.agg cs) := by exact rfl) (hy : opv s y = some (.lit (.int k i)) := by exact rfl) (hxs : toVals cs = some xs := by exact rfl)
    (h0 : 0 ≤ i ∧ i < (len : Int) := by first | decide | omega) (hv : xs[i.toNat]? = some v := by exact rfl) : stepQ P ⟨s, b, n, t, e⟩ id (.index st x y) = some (.lit v, []) := by
  have hu := arrOf_eq har; have ha : pureOn P (asIntOf (.int k i)) = some (k, i) := rfl
  have : idx P st (.agg xs.toArray) (.int k i) = some v := by
    simp only [idx, Instr.index, pureOn_bind, ha, Option.bind_some, pureOn_underlying hu, h0, and_self, if_true, pureOn_sizeOf hcl (by decide), part, pureOn_isAgg hag, Nat.mul_one, List.getElem?_toArray, hv, Bool.false_eq_true, if_false, pureOn_pure]
  simp only [stepQ, opv_ev hx, opv_ev hy, toVal, hxs, Option.map_some, this, lits]
theorem Wk.forget {b : List (Nat × Obj)} (ds : List Nat) : Wk ⟨s, b, n, t, e⟩ ⟨hide ds s, b, n, t, e⟩ :=
  Wk.sub (fun j v hv => by
    simp only [find_hide] at hv
    split at hv
    · cases hv
    · exact hv) (fun _ _ h => h) (Nat.le_refl _) rfl rfl
theorem Ev.retg {b : List (Nat × Obj)} {rs : List ResultVar} {Post : AV → List (Nat × Obj) → Prop} {vs : List AV} {v : AV} {objs : List (Nat × Obj)} (ks : List Nat) (hr : resAV P ⟨s, b, n, t, e⟩ rs = some vs) (h : Post v objs) (hv : renAV (pos ks 0) (packAV vs) = some v := by exact rfl) (ho : keepObjs ⟨s, b, n, t, e⟩ (pos ks 0) 0 ks = some objs := by exact rfl) (hnd : ks.Nodup := by decide) :
    endP P rs Post .ret ⟨s, b, n, t, e⟩ := ⟨ks, hnd, by simp only [retP, hr, hv, ho]; exact h⟩
theorem S.c1g {b : List (Nat × Obj)} {ops : Array Oper} {rest : List Oper} {Q : St → Prop} {d ty : Nat} {pos' : String} {aft : Array Edge} {g : Option (Nat × Bool)} {as_ : Array Operand} {ts : Array TypeId} {f : FuncId} {first caps : List AV} {vs : List AV} {o : Obj} {v v' : AV} (hc : calleeOf (St.ev ⟨s, b, n, t, e⟩ x) = some (f, first, caps) := by exact rfl) (hv : viewL ⟨s, b, n, t, e⟩ (first ++ (as_.toList.map (St.ev ⟨s, b, n, t, e⟩) ++ caps)) = some vs := by exact rfl) (hF : Fun P f vs (Ret v [(0, o)])) (hl : liftAV n v = some v' := by exact rfl)
    (hm : closedL (first ++ (as_.toList.map (St.ev ⟨s, b, n, t, e⟩) ++ caps)) = true := by exact rfl) (ho : o.cl = true := by exact rfl)
    (hg : guardGo (dstsOf ops) ⟨s, b, n, t, e⟩ g = some true := by exact rfl) (hd : Nat.blt d t = true := by exact rfl) (h : SeqL P ops rest ⟨(d, v') :: s, (n, o) :: b, n + 1, t, e⟩ Q) :
    SeqL P ops (⟨some d, .call { callee := .value x, args := as_, argTypes := ts }, ty, pos', aft, g⟩ :: rest) ⟨s, b, n, t, e⟩ Q := by
  refine SeqL.call hg rfl hc hv hF (.inl hm) (fun d' h' => by cases h'; exact Nat.le_of_ble_eq_true hd) ?_; rintro u l ⟨rfl, rfl⟩; refine ⟨v', [(n, o)], n + 1, hl, ?_, fun r ob h => fresh1 h, Nat.le_succ _, h⟩; simp only [liftObjs, renObj, ho, Nat.zero_add]
end rules
end Go.AM
namespace Go.AM
section rules
variable {P : Program} {s : List (Nat × AV)} {b : List (Nat × Obj)} {n t e id ty d : Nat} {x y : Operand}
end rules
end Go.AM
