/-
  Closed facts on the types of the program, as the abstract machine asks them.
  Conditions: none.
-/
import Derived.Test.YthiockdlhehhoaaDoorAmStep
import Derived.Test.YthiockdlhehhoaaDoorChecked
import Derived.KernelRfl
namespace Go.Proofs.YthiockdlhehhoaaDoor
open Go.AM
theorem am_in3 : (Tryd.prog.info? 3).isSome = true := by kernel_rfl
theorem am_ag3 : isAggT Tryd.prog 3 = some false := by kernel_rfl
theorem am_cl3 : Tryd.prog.cellsOf 3 = 1 := by kernel_rfl
theorem am_by3 : Tryd.prog.bytesOf 3 = 8 := by kernel_rfl
theorem am_ze3 : zeroCellsAV Tryd.prog 3 = some [.lit (.int .i64 0)] := by kernel_rfl
theorem am_ag5 : isAggT Tryd.prog 5 = some false := by kernel_rfl
theorem am_cl5 : Tryd.prog.cellsOf 5 = 1 := by kernel_rfl
theorem am_by5 : Tryd.prog.bytesOf 5 = 1 := by kernel_rfl
theorem am_ze5 : zeroCellsAV Tryd.prog 5 = some [.lit (.int .u8 0)] := by kernel_rfl
theorem am_ag9 : isAggT Tryd.prog 9 = some false := by kernel_rfl
theorem am_cl9 : Tryd.prog.cellsOf 9 = 1 := by kernel_rfl
theorem am_el9 : elemOfSlice Tryd.prog 9 = none := by kernel_rfl
theorem am_ag21 : isAggT Tryd.prog 21 = some false := by kernel_rfl
theorem am_ag22 : isAggT Tryd.prog 22 = some false := by kernel_rfl
theorem am_el22 : elemOfSlice Tryd.prog 22 = some 42 := by kernel_rfl
theorem am_ag24 : isAggT Tryd.prog 24 = some true := by kernel_rfl
theorem am_cl24 : Tryd.prog.cellsOf 24 = 3 := by kernel_rfl
theorem am_ze24 : zeroCellsAV Tryd.prog 24 = some [.lit (.int .i64 0), .lit (.int .i64 0), .lit (.int .i64 0)] := by kernel_rfl
theorem am_fi24_0 : fieldOf Tryd.prog 24 0 = some (0, 3) := by kernel_rfl
theorem am_fi24_1 : fieldOf Tryd.prog 24 1 = some (1, 3) := by kernel_rfl
theorem am_fi24_2 : fieldOf Tryd.prog 24 2 = some (2, 3) := by kernel_rfl
theorem am_pl24 : placesL Tryd.prog 24 = some [(0, 1), (1, 1), (2, 1)] := by kernel_rfl
theorem am_in26 : (Tryd.prog.info? 26).isSome = true := by kernel_rfl
theorem am_ag26 : isAggT Tryd.prog 26 = some true := by kernel_rfl
theorem am_cl26 : Tryd.prog.cellsOf 26 = 6 := by kernel_rfl
theorem am_ze26 : zeroCellsAV Tryd.prog 26 = some [.lit (.int .i64 0), .lit (.int .i64 0), .lit (.int .i64 0), .lit (.int .i64 0), .lit (.int .i64 0), .lit (.int .i64 0)] := by kernel_rfl
theorem am_fi26_0 : fieldOf Tryd.prog 26 0 = some (0, 24) := by kernel_rfl
theorem am_fi26_1 : fieldOf Tryd.prog 26 1 = some (3, 24) := by kernel_rfl
theorem am_pl26 : placesL Tryd.prog 26 = some [(0, 3), (3, 3)] := by kernel_rfl
theorem am_in31 : (Tryd.prog.info? 31).isSome = true := by kernel_rfl
theorem am_ag31 : isAggT Tryd.prog 31 = some false := by kernel_rfl
theorem am_cl31 : Tryd.prog.cellsOf 31 = 1 := by kernel_rfl
theorem am_el31 : elemOfSlice Tryd.prog 31 = some 40 := by kernel_rfl
theorem am_in32 : (Tryd.prog.info? 32).isSome = true := by kernel_rfl
theorem am_ag32 : isAggT Tryd.prog 32 = some false := by kernel_rfl
theorem am_cl32 : Tryd.prog.cellsOf 32 = 1 := by kernel_rfl
theorem am_ze32 : zeroCellsAV Tryd.prog 32 = some [.lit (.int .i64 0)] := by kernel_rfl
theorem am_in40 : (Tryd.prog.info? 40).isSome = true := by kernel_rfl
theorem am_ag40 : isAggT Tryd.prog 40 = some true := by kernel_rfl
theorem am_cl40 : Tryd.prog.cellsOf 40 = 2 := by kernel_rfl
theorem am_by40 : Tryd.prog.bytesOf 40 = 16 := by kernel_rfl
theorem am_ze40 : zeroCellsAV Tryd.prog 40 = some [.lit (.int .i64 0), .lit (.int .i64 0)] := by kernel_rfl
theorem am_fi40_0 : fieldOf Tryd.prog 40 0 = some (0, 3) := by kernel_rfl
theorem am_fi40_1 : fieldOf Tryd.prog 40 1 = some (1, 3) := by kernel_rfl
theorem am_pl40 : placesL Tryd.prog 40 = some [(0, 1), (1, 1)] := by kernel_rfl
theorem am_in42 : (Tryd.prog.info? 42).isSome = true := by kernel_rfl
theorem am_ag42 : isAggT Tryd.prog 42 = some true := by kernel_rfl
theorem am_cl42 : Tryd.prog.cellsOf 42 = 8 := by kernel_rfl
theorem am_by42 : Tryd.prog.bytesOf 42 = 88 := by kernel_rfl
theorem am_ze42 : zeroCellsAV Tryd.prog 42 = some [.lit (.string ByteArray.empty), .lit (.int .i64 0), .lit (.int .i64 0), .lit (.int .i64 0), .lit (.int .i64 0), .lit (.int .i64 0), .lit (.int .i64 0), .lit (.slice none 0 0)] := by kernel_rfl
theorem am_fi42_0 : fieldOf Tryd.prog 42 0 = some (0, 9) := by kernel_rfl
theorem am_fi42_1 : fieldOf Tryd.prog 42 1 = some (1, 26) := by kernel_rfl
theorem am_fi42_2 : fieldOf Tryd.prog 42 2 = some (7, 31) := by kernel_rfl
theorem am_pl42 : placesL Tryd.prog 42 = some [(0, 1), (1, 6), (7, 1)] := by kernel_rfl
theorem am_el62 : elemOfSlice Tryd.prog 62 = some 3 := by kernel_rfl
theorem am_in71 : (Tryd.prog.info? 71).isSome = true := by kernel_rfl
theorem am_ag71 : isAggT Tryd.prog 71 = some false := by kernel_rfl
theorem am_cl71 : Tryd.prog.cellsOf 71 = 1 := by kernel_rfl
theorem am_el71 : elemOfSlice Tryd.prog 71 = some 5 := by kernel_rfl
theorem am_ze71 : zeroCellsAV Tryd.prog 71 = some [.lit (.slice none 0 0)] := by kernel_rfl
theorem am_in85 : (Tryd.prog.info? 85).isSome = true := by kernel_rfl
theorem am_ag85 : isAggT Tryd.prog 85 = some true := by kernel_rfl
theorem am_cl85 : Tryd.prog.cellsOf 85 = 3 := by kernel_rfl
theorem am_ze85 : zeroCellsAV Tryd.prog 85 = some [.lit (.int .i64 0), .lit (.int .i64 0), .lit (.int .i64 0)] := by kernel_rfl
theorem am_ar85 : arrOf Tryd.prog 85 = some (3, 3) := by kernel_rfl
theorem am_pn85 : placesL Tryd.prog 85 = none := by kernel_rfl
end Go.Proofs.YthiockdlhehhoaaDoor

