/-
  Closed facts on the types of the program, as the abstract machine asks them.
  Conditions: none.
-/
import Derived.Test.YtigjoaejncfmdaaAmStep
import Derived.Test.YtigjoaejncfmdaaChecked
import Derived.KernelRfl
namespace Go.Proofs.Ytigjoaejncfmdaa
open Go.AM
theorem am_in3 : (Try.prog.info? 3).isSome = true := by kernel_rfl
theorem am_ag3 : isAggT Try.prog 3 = some false := by kernel_rfl
theorem am_cl3 : Try.prog.cellsOf 3 = 1 := by kernel_rfl
theorem am_ze3 : zeroCellsAV Try.prog 3 = some [.lit (.int .i64 0)] := by kernel_rfl
theorem am_ag5 : isAggT Try.prog 5 = some false := by kernel_rfl
theorem am_in22 : (Try.prog.info? 22).isSome = true := by kernel_rfl
theorem am_ag22 : isAggT Try.prog 22 = some false := by kernel_rfl
theorem am_cl22 : Try.prog.cellsOf 22 = 1 := by kernel_rfl
theorem am_el22 : elemOfSlice Try.prog 22 = some 57 := by kernel_rfl
theorem am_ze22 : zeroCellsAV Try.prog 22 = some [.lit (.slice none 0 0)] := by kernel_rfl
theorem am_el25 : elemOfSlice Try.prog 25 = some 36 := by kernel_rfl
theorem am_in36 : (Try.prog.info? 36).isSome = true := by kernel_rfl
theorem am_ag36 : isAggT Try.prog 36 = some true := by kernel_rfl
theorem am_cl36 : Try.prog.cellsOf 36 = 2 := by kernel_rfl
theorem am_by36 : Try.prog.bytesOf 36 = 16 := by kernel_rfl
theorem am_ze36 : zeroCellsAV Try.prog 36 = some [.lit (.int .i64 0), .lit (.int .i64 0)] := by kernel_rfl
theorem am_fi36_0 : fieldOf Try.prog 36 0 = some (0, 3) := by kernel_rfl
theorem am_fi36_1 : fieldOf Try.prog 36 1 = some (1, 3) := by kernel_rfl
theorem am_pl36 : placesL Try.prog 36 = some [(0, 1), (1, 1)] := by kernel_rfl
theorem am_el43 : elemOfSlice Try.prog 43 = some 3 := by kernel_rfl
theorem am_in57 : (Try.prog.info? 57).isSome = true := by kernel_rfl
theorem am_ag57 : isAggT Try.prog 57 = some true := by kernel_rfl
theorem am_cl57 : Try.prog.cellsOf 57 = 2 := by kernel_rfl
theorem am_by57 : Try.prog.bytesOf 57 = 16 := by kernel_rfl
theorem am_ze57 : zeroCellsAV Try.prog 57 = some [.lit (.int .i64 0), .lit (.int .i64 0)] := by kernel_rfl
theorem am_fi57_0 : fieldOf Try.prog 57 0 = some (0, 3) := by kernel_rfl
theorem am_fi57_1 : fieldOf Try.prog 57 1 = some (1, 3) := by kernel_rfl
theorem am_pl57 : placesL Try.prog 57 = some [(0, 1), (1, 1)] := by kernel_rfl
theorem am_ag67 : isAggT Try.prog 67 = some false := by kernel_rfl
end Go.Proofs.Ytigjoaejncfmdaa

