/-
  More closed facts on the types of the program.
  Conditions: none.
-/
import Derived.Test.YthpjfkmhpoeojaaGreatDoorAmEq
import Derived.Test.YthpjfkmhpoeojaaGreatDoorAmFacts
namespace Go.Proofs.YthpjfkmhpoeojaaGreatDoor
open Go Go.AM
set_option linter.unusedSimpArgs false
theorem am_un3 : Tryz.prog.underlying 3 = some (.int .i64) := by kernel_rfl
theorem am_us3 : (Tryz.prog.underlying 3).isSome = true := by kernel_rfl
theorem am_un4 : Tryz.prog.underlying 4 = some .bool := by kernel_rfl
theorem am_un5 : Tryz.prog.underlying 5 = some (.int .u8) := by kernel_rfl
theorem am_un9 : Tryz.prog.underlying 9 = some .string := by kernel_rfl
theorem am_eq53 : EqT Tryz.prog 53 [(0, 9), (1, 9), (2, 3), (3, 3)] := ⟨⟨_, (by kernel_rfl : Tryz.prog.underlying 53 = some (.struct (Tryz.prog.fieldsOf 53))), by kernel_rfl, by kernel_rfl⟩, by kernel_rfl, by kernel_rfl⟩
theorem am_sq53 (a0 b0 : ByteArray) (a1 b1 : ByteArray) (a2 b2 : Int) (a3 b3 : Int) : eqG Tryz.prog [.lit (.string a0), .lit (.string a1), .lit (.int .i64 a2), .lit (.int .i64 a3)] [.lit (.string b0), .lit (.string b1), .lit (.int .i64 b2), .lit (.int .i64 b3)] [(0, 9), (1, 9), (2, 3), (3, 3)] = some (decide (a0 = b0) && (decide (a1 = b1) && (decide (a2 = b2) && (decide (a3 = b3) && true)))) := by simp [eqG, scEq, am_ag3, am_un3, am_ag9, am_un9]
end Go.Proofs.YthpjfkmhpoeojaaGreatDoor
