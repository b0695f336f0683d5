/-
  Closed facts on the types of the program, as the abstract machine asks them.
  Conditions: none.
-/
import Derived.Test.YtccddakkegelkaaGreatDoorAmStep
import Derived.Test.YtccddakkegelkaaGreatDoorChecked
import Derived.KernelRfl
namespace Go.Proofs.YtccddakkegelkaaGreatDoor
open Go.AM
theorem am_ag3 : isAggT Tryz.prog 3 = some false := by kernel_rfl
theorem am_cl3 : Tryz.prog.cellsOf 3 = 1 := by kernel_rfl
theorem am_by3 : Tryz.prog.bytesOf 3 = 8 := by kernel_rfl
theorem am_ze3 : zeroCellsAV Tryz.prog 3 = some [.lit (.int .i64 0)] := by kernel_rfl
theorem am_ag5 : isAggT Tryz.prog 5 = some false := by kernel_rfl
theorem am_cl5 : Tryz.prog.cellsOf 5 = 1 := by kernel_rfl
theorem am_by5 : Tryz.prog.bytesOf 5 = 1 := by kernel_rfl
theorem am_ze5 : zeroCellsAV Tryz.prog 5 = some [.lit (.int .u8 0)] := by kernel_rfl
theorem am_in9 : (Tryz.prog.info? 9).isSome = true := by kernel_rfl
theorem am_ag9 : isAggT Tryz.prog 9 = some false := by kernel_rfl
theorem am_cl9 : Tryz.prog.cellsOf 9 = 1 := by kernel_rfl
theorem am_by9 : Tryz.prog.bytesOf 9 = 16 := by kernel_rfl
theorem am_el9 : elemOfSlice Tryz.prog 9 = none := by kernel_rfl
theorem am_ze9 : zeroCellsAV Tryz.prog 9 = some [.lit (.string ByteArray.empty)] := by kernel_rfl
theorem am_ag22 : isAggT Tryz.prog 22 = some false := by kernel_rfl
theorem am_cl22 : Tryz.prog.cellsOf 22 = 1 := by kernel_rfl
theorem am_el22 : elemOfSlice Tryz.prog 22 = some 44 := by kernel_rfl
theorem am_ze22 : zeroCellsAV Tryz.prog 22 = some [.lit (.slice none 0 0)] := by kernel_rfl
theorem am_in25 : (Tryz.prog.info? 25).isSome = true := by kernel_rfl
theorem am_ag25 : isAggT Tryz.prog 25 = some false := by kernel_rfl
theorem am_cl25 : Tryz.prog.cellsOf 25 = 1 := by kernel_rfl
theorem am_el25 : elemOfSlice Tryz.prog 25 = some 34 := by kernel_rfl
theorem am_ze25 : zeroCellsAV Tryz.prog 25 = some [.lit (.slice none 0 0)] := by kernel_rfl
theorem am_in34 : (Tryz.prog.info? 34).isSome = true := by kernel_rfl
theorem am_ag34 : isAggT Tryz.prog 34 = some true := by kernel_rfl
theorem am_cl34 : Tryz.prog.cellsOf 34 = 2 := by kernel_rfl
theorem am_by34 : Tryz.prog.bytesOf 34 = 24 := by kernel_rfl
theorem am_ze34 : zeroCellsAV Tryz.prog 34 = some [.lit (.int .i64 0), .lit (.string ByteArray.empty)] := by kernel_rfl
theorem am_fi34_0 : fieldOf Tryz.prog 34 0 = some (0, 3) := by kernel_rfl
theorem am_fi34_1 : fieldOf Tryz.prog 34 1 = some (1, 9) := by kernel_rfl
theorem am_pl34 : placesL Tryz.prog 34 = some [(0, 1), (1, 1)] := by kernel_rfl
theorem am_in42 : (Tryz.prog.info? 42).isSome = true := by kernel_rfl
theorem am_ag42 : isAggT Tryz.prog 42 = some false := by kernel_rfl
theorem am_cl42 : Tryz.prog.cellsOf 42 = 1 := by kernel_rfl
theorem am_el42 : elemOfSlice Tryz.prog 42 = some 3 := by kernel_rfl
theorem am_in44 : (Tryz.prog.info? 44).isSome = true := by kernel_rfl
theorem am_ag44 : isAggT Tryz.prog 44 = some true := by kernel_rfl
theorem am_cl44 : Tryz.prog.cellsOf 44 = 5 := by kernel_rfl
theorem am_by44 : Tryz.prog.bytesOf 44 = 64 := by kernel_rfl
theorem am_ze44 : zeroCellsAV Tryz.prog 44 = some [.lit (.string ByteArray.empty), .lit (.int .i64 0), .lit (.int .i64 0), .lit (.int .i64 0), .lit (.slice none 0 0)] := by kernel_rfl
theorem am_fi44_0 : fieldOf Tryz.prog 44 0 = some (0, 9) := by kernel_rfl
theorem am_fi44_1 : fieldOf Tryz.prog 44 1 = some (1, 3) := by kernel_rfl
theorem am_fi44_2 : fieldOf Tryz.prog 44 2 = some (2, 3) := by kernel_rfl
theorem am_fi44_3 : fieldOf Tryz.prog 44 3 = some (3, 3) := by kernel_rfl
theorem am_fi44_4 : fieldOf Tryz.prog 44 4 = some (4, 42) := by kernel_rfl
theorem am_pl44 : placesL Tryz.prog 44 = some [(0, 1), (1, 1), (2, 1), (3, 1), (4, 1)] := by kernel_rfl
theorem am_el51 : elemOfSlice Tryz.prog 51 = some 22 := by kernel_rfl
theorem am_el61 : elemOfSlice Tryz.prog 61 = some 9 := by kernel_rfl
theorem am_in67 : (Tryz.prog.info? 67).isSome = true := by kernel_rfl
theorem am_ag67 : isAggT Tryz.prog 67 = some false := by kernel_rfl
theorem am_cl67 : Tryz.prog.cellsOf 67 = 1 := by kernel_rfl
theorem am_in68 : (Tryz.prog.info? 68).isSome = true := by kernel_rfl
theorem am_ag68 : isAggT Tryz.prog 68 = some false := by kernel_rfl
theorem am_cl68 : Tryz.prog.cellsOf 68 = 1 := by kernel_rfl
theorem am_el68 : elemOfSlice Tryz.prog 68 = some 5 := by kernel_rfl
theorem am_ze70 : zeroCellsAV Tryz.prog 70 = some [.lit (.pointer none), .lit (.slice none 0 0)] := by kernel_rfl
theorem am_fi70_0 : fieldOf Tryz.prog 70 0 = some (0, 67) := by kernel_rfl
theorem am_fi70_1 : fieldOf Tryz.prog 70 1 = some (1, 68) := by kernel_rfl
theorem am_mt82 : mapTy Tryz.prog 82 = some (.string, some (.bool false)) := by kernel_rfl
theorem am_el123 : elemOfSlice Tryz.prog 123 = some 126 := by kernel_rfl
theorem am_in126 : (Tryz.prog.info? 126).isSome = true := by kernel_rfl
theorem am_ag126 : isAggT Tryz.prog 126 = some true := by kernel_rfl
theorem am_cl126 : Tryz.prog.cellsOf 126 = 2 := by kernel_rfl
theorem am_ze126 : zeroCellsAV Tryz.prog 126 = some [.lit (.int .i64 0), .lit (.int .u8 0)] := by kernel_rfl
theorem am_fi126_0 : fieldOf Tryz.prog 126 0 = some (0, 3) := by kernel_rfl
theorem am_pl126 : placesL Tryz.prog 126 = some [(0, 1), (1, 1)] := by kernel_rfl
theorem am_in139 : (Tryz.prog.info? 139).isSome = true := by kernel_rfl
theorem am_ag139 : isAggT Tryz.prog 139 = some true := by kernel_rfl
theorem am_cl139 : Tryz.prog.cellsOf 139 = 2 := by kernel_rfl
theorem am_ze139 : zeroCellsAV Tryz.prog 139 = some [.lit (.int .i64 0), .lit (.int .i64 0)] := by kernel_rfl
theorem am_fi139_0 : fieldOf Tryz.prog 139 0 = some (0, 3) := by kernel_rfl
theorem am_fi139_1 : fieldOf Tryz.prog 139 1 = some (1, 3) := by kernel_rfl
theorem am_pl139 : placesL Tryz.prog 139 = some [(0, 1), (1, 1)] := by kernel_rfl
end Go.Proofs.YtccddakkegelkaaGreatDoor

