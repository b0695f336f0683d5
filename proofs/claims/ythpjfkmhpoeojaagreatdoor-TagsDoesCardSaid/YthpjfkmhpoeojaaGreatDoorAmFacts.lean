/-
  Closed facts on the types of the program, as the abstract machine asks them.
  Conditions: none.
-/
import Derived.Test.YthpjfkmhpoeojaaGreatDoorAmStep
import Derived.Test.YthpjfkmhpoeojaaGreatDoorChecked
import Derived.KernelRfl
namespace Go.Proofs.YthpjfkmhpoeojaaGreatDoor
open Go.AM
theorem am_ag3 : isAggT Tryz.prog 3 = some false := by kernel_rfl
theorem am_cl3 : Tryz.prog.cellsOf 3 = 1 := by kernel_rfl
theorem am_by3 : Tryz.prog.bytesOf 3 = 8 := by kernel_rfl
theorem am_ze3 : zeroCellsAV Tryz.prog 3 = some [.lit (.int .i64 0)] := by kernel_rfl
theorem am_in4 : (Tryz.prog.info? 4).isSome = true := by kernel_rfl
theorem am_ag4 : isAggT Tryz.prog 4 = some false := by kernel_rfl
theorem am_cl4 : Tryz.prog.cellsOf 4 = 1 := by kernel_rfl
theorem am_by4 : Tryz.prog.bytesOf 4 = 1 := by kernel_rfl
theorem am_ze4 : zeroCellsAV Tryz.prog 4 = some [.lit (.bool false)] := by kernel_rfl
theorem am_cl5 : Tryz.prog.cellsOf 5 = 1 := by kernel_rfl
theorem am_ze5 : zeroCellsAV Tryz.prog 5 = some [.lit (.int .u8 0)] := by kernel_rfl
theorem am_in9 : (Tryz.prog.info? 9).isSome = true := by kernel_rfl
theorem am_ag9 : isAggT Tryz.prog 9 = some false := by kernel_rfl
theorem am_cl9 : Tryz.prog.cellsOf 9 = 1 := by kernel_rfl
theorem am_by9 : Tryz.prog.bytesOf 9 = 16 := by kernel_rfl
theorem am_el9 : elemOfSlice Tryz.prog 9 = none := by kernel_rfl
theorem am_ze9 : zeroCellsAV Tryz.prog 9 = some [.lit (.string ByteArray.empty)] := by kernel_rfl
theorem am_ag22 : isAggT Tryz.prog 22 = some false := by kernel_rfl
theorem am_el22 : elemOfSlice Tryz.prog 22 = some 34 := by kernel_rfl
theorem am_ag25 : isAggT Tryz.prog 25 = some false := by kernel_rfl
theorem am_in27 : (Tryz.prog.info? 27).isSome = true := by kernel_rfl
theorem am_ag27 : isAggT Tryz.prog 27 = some false := by kernel_rfl
theorem am_cl27 : Tryz.prog.cellsOf 27 = 1 := by kernel_rfl
theorem am_el27 : elemOfSlice Tryz.prog 27 = some 53 := by kernel_rfl
theorem am_in28 : (Tryz.prog.info? 28).isSome = true := by kernel_rfl
theorem am_ag28 : isAggT Tryz.prog 28 = some false := by kernel_rfl
theorem am_cl28 : Tryz.prog.cellsOf 28 = 1 := by kernel_rfl
theorem am_el28 : elemOfSlice Tryz.prog 28 = some 4 := by kernel_rfl
theorem am_in30 : (Tryz.prog.info? 30).isSome = true := by kernel_rfl
theorem am_ag30 : isAggT Tryz.prog 30 = some true := by kernel_rfl
theorem am_cl30 : Tryz.prog.cellsOf 30 = 2 := by kernel_rfl
theorem am_ze30 : zeroCellsAV Tryz.prog 30 = some [.lit (.slice none 0 0), .lit (.slice none 0 0)] := by kernel_rfl
theorem am_fi30_0 : fieldOf Tryz.prog 30 0 = some (0, 27) := by kernel_rfl
theorem am_fi30_1 : fieldOf Tryz.prog 30 1 = some (1, 28) := by kernel_rfl
theorem am_pl30 : placesL Tryz.prog 30 = some [(0, 1), (1, 1)] := by kernel_rfl
theorem am_ag32 : isAggT Tryz.prog 32 = some false := by kernel_rfl
theorem am_cl32 : Tryz.prog.cellsOf 32 = 1 := by kernel_rfl
theorem am_el32 : elemOfSlice Tryz.prog 32 = some 56 := by kernel_rfl
theorem am_in34 : (Tryz.prog.info? 34).isSome = true := by kernel_rfl
theorem am_ag34 : isAggT Tryz.prog 34 = some true := by kernel_rfl
theorem am_cl34 : Tryz.prog.cellsOf 34 = 6 := by kernel_rfl
theorem am_by34 : Tryz.prog.bytesOf 34 = 104 := by kernel_rfl
theorem am_ze34 : zeroCellsAV Tryz.prog 34 = some [.lit (.int .i64 0), .lit (.int .i64 0), .lit (.string ByteArray.empty), .lit (.slice none 0 0), .lit (.slice none 0 0), .lit (.slice none 0 0)] := by kernel_rfl
theorem am_fi34_0 : fieldOf Tryz.prog 34 0 = some (0, 3) := by kernel_rfl
theorem am_fi34_1 : fieldOf Tryz.prog 34 1 = some (1, 3) := by kernel_rfl
theorem am_fi34_2 : fieldOf Tryz.prog 34 2 = some (2, 9) := by kernel_rfl
theorem am_fi34_3 : fieldOf Tryz.prog 34 3 = some (3, 27) := by kernel_rfl
theorem am_fi34_4 : fieldOf Tryz.prog 34 4 = some (4, 32) := by kernel_rfl
theorem am_fi34_5 : fieldOf Tryz.prog 34 5 = some (5, 32) := by kernel_rfl
theorem am_el37 : elemOfSlice Tryz.prog 37 = some 9 := by kernel_rfl
theorem am_in48 : (Tryz.prog.info? 48).isSome = true := by kernel_rfl
theorem am_ag48 : isAggT Tryz.prog 48 = some false := by kernel_rfl
theorem am_cl48 : Tryz.prog.cellsOf 48 = 1 := by kernel_rfl
theorem am_el48 : elemOfSlice Tryz.prog 48 = some 81 := by kernel_rfl
theorem am_ze50 : zeroCellsAV Tryz.prog 50 = some [.lit (.slice none 0 0)] := by kernel_rfl
theorem am_fi50_0 : fieldOf Tryz.prog 50 0 = some (0, 48) := by kernel_rfl
theorem am_pl50 : placesL Tryz.prog 50 = some [(0, 1)] := by kernel_rfl
theorem am_in53 : (Tryz.prog.info? 53).isSome = true := by kernel_rfl
theorem am_ag53 : isAggT Tryz.prog 53 = some true := by kernel_rfl
theorem am_cl53 : Tryz.prog.cellsOf 53 = 4 := by kernel_rfl
theorem am_by53 : Tryz.prog.bytesOf 53 = 48 := by kernel_rfl
theorem am_ze53 : zeroCellsAV Tryz.prog 53 = some [.lit (.string ByteArray.empty), .lit (.string ByteArray.empty), .lit (.int .i64 0), .lit (.int .i64 0)] := by kernel_rfl
theorem am_fi53_0 : fieldOf Tryz.prog 53 0 = some (0, 9) := by kernel_rfl
theorem am_fi53_1 : fieldOf Tryz.prog 53 1 = some (1, 9) := by kernel_rfl
theorem am_fi53_2 : fieldOf Tryz.prog 53 2 = some (2, 3) := by kernel_rfl
theorem am_fi53_3 : fieldOf Tryz.prog 53 3 = some (3, 3) := by kernel_rfl
theorem am_pl53 : placesL Tryz.prog 53 = some [(0, 1), (1, 1), (2, 1), (3, 1)] := by kernel_rfl
theorem am_ag54 : isAggT Tryz.prog 54 = some false := by kernel_rfl
theorem am_cl54 : Tryz.prog.cellsOf 54 = 1 := by kernel_rfl
theorem am_el54 : elemOfSlice Tryz.prog 54 = some 3 := by kernel_rfl
theorem am_in56 : (Tryz.prog.info? 56).isSome = true := by kernel_rfl
theorem am_ag56 : isAggT Tryz.prog 56 = some true := by kernel_rfl
theorem am_cl56 : Tryz.prog.cellsOf 56 = 5 := by kernel_rfl
theorem am_by56 : Tryz.prog.bytesOf 56 = 64 := by kernel_rfl
theorem am_ze56 : zeroCellsAV Tryz.prog 56 = some [.lit (.string ByteArray.empty), .lit (.int .i64 0), .lit (.int .i64 0), .lit (.int .i64 0), .lit (.slice none 0 0)] := by kernel_rfl
theorem am_fi56_0 : fieldOf Tryz.prog 56 0 = some (0, 9) := by kernel_rfl
theorem am_fi56_1 : fieldOf Tryz.prog 56 1 = some (1, 3) := by kernel_rfl
theorem am_fi56_2 : fieldOf Tryz.prog 56 2 = some (2, 3) := by kernel_rfl
theorem am_fi56_3 : fieldOf Tryz.prog 56 3 = some (3, 3) := by kernel_rfl
theorem am_fi56_4 : fieldOf Tryz.prog 56 4 = some (4, 54) := by kernel_rfl
theorem am_pl56 : placesL Tryz.prog 56 = some [(0, 1), (1, 1), (2, 1), (3, 1), (4, 1)] := by kernel_rfl
theorem am_in73 : (Tryz.prog.info? 73).isSome = true := by kernel_rfl
theorem am_cl73 : Tryz.prog.cellsOf 73 = 0 := by kernel_rfl
theorem am_ze73 : zeroCellsAV Tryz.prog 73 = some [] := by kernel_rfl
theorem am_pl73 : placesL Tryz.prog 73 = some [] := by kernel_rfl
theorem am_in81 : (Tryz.prog.info? 81).isSome = true := by kernel_rfl
theorem am_ag81 : isAggT Tryz.prog 81 = some true := by kernel_rfl
theorem am_cl81 : Tryz.prog.cellsOf 81 = 5 := by kernel_rfl
theorem am_by81 : Tryz.prog.bytesOf 81 = 56 := by kernel_rfl
theorem am_ze81 : zeroCellsAV Tryz.prog 81 = some [.lit (.string ByteArray.empty), .lit (.string ByteArray.empty), .lit (.int .i64 0), .lit (.int .i64 0), .lit (.bool false)] := by kernel_rfl
theorem am_fi81_0 : fieldOf Tryz.prog 81 0 = some (0, 53) := by kernel_rfl
theorem am_fi81_1 : fieldOf Tryz.prog 81 1 = some (4, 4) := by kernel_rfl
theorem am_pl81 : placesL Tryz.prog 81 = some [(0, 4), (4, 1)] := by kernel_rfl
theorem am_mt102 : mapTy Tryz.prog 102 = some (.string, some (.bool false)) := by kernel_rfl
theorem am_el117 : elemOfSlice Tryz.prog 117 = some 120 := by kernel_rfl
theorem am_in120 : (Tryz.prog.info? 120).isSome = true := by kernel_rfl
theorem am_ag120 : isAggT Tryz.prog 120 = some true := by kernel_rfl
theorem am_cl120 : Tryz.prog.cellsOf 120 = 2 := by kernel_rfl
theorem am_ze120 : zeroCellsAV Tryz.prog 120 = some [.lit (.int .i64 0), .lit (.int .u8 0)] := by kernel_rfl
theorem am_fi120_0 : fieldOf Tryz.prog 120 0 = some (0, 3) := by kernel_rfl
theorem am_pl120 : placesL Tryz.prog 120 = some [(0, 1), (1, 1)] := by kernel_rfl
theorem am_in124 : (Tryz.prog.info? 124).isSome = true := by kernel_rfl
theorem am_ag124 : isAggT Tryz.prog 124 = some true := by kernel_rfl
theorem am_cl124 : Tryz.prog.cellsOf 124 = 2 := by kernel_rfl
theorem am_ze124 : zeroCellsAV Tryz.prog 124 = some [.lit (.int .i64 0), .lit (.int .i64 0)] := by kernel_rfl
theorem am_fi124_0 : fieldOf Tryz.prog 124 0 = some (0, 3) := by kernel_rfl
theorem am_fi124_1 : fieldOf Tryz.prog 124 1 = some (1, 3) := by kernel_rfl
theorem am_pl124 : placesL Tryz.prog 124 = some [(0, 1), (1, 1)] := by kernel_rfl
theorem am_el133 : elemOfSlice Tryz.prog 133 = some 5 := by kernel_rfl
theorem am_el150 : elemOfSlice Tryz.prog 150 = some 153 := by kernel_rfl
theorem am_cl153 : Tryz.prog.cellsOf 153 = 3 := by kernel_rfl
theorem am_ze153 : zeroCellsAV Tryz.prog 153 = some [.lit (.int .i64 0), .lit (.int .i64 0), .lit (.int .i64 0)] := by kernel_rfl
theorem am_fi153_0 : fieldOf Tryz.prog 153 0 = some (0, 3) := by kernel_rfl
theorem am_fi153_1 : fieldOf Tryz.prog 153 1 = some (1, 3) := by kernel_rfl
theorem am_fi153_2 : fieldOf Tryz.prog 153 2 = some (2, 3) := by kernel_rfl
theorem am_pl153 : placesL Tryz.prog 153 = some [(0, 1), (1, 1), (2, 1)] := by kernel_rfl
end Go.Proofs.YthpjfkmhpoeojaaGreatDoor
