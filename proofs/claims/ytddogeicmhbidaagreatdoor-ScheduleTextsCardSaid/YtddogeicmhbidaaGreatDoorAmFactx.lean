/-
  More closed facts on the types of the program.
  Conditions: none.
-/
import Derived.Test.YtddogeicmhbidaaGreatDoorAmEq
import Derived.Test.YtddogeicmhbidaaGreatDoorAmFacts
namespace Go.Proofs.YtddogeicmhbidaaGreatDoor
open Go Go.AM
set_option linter.unusedSimpArgs false
theorem am_un3 : Tryz.prog.underlying 3 = some (.int .i64) := by kernel_rfl
theorem am_us3 : (Tryz.prog.underlying 3).isSome = true := by kernel_rfl
theorem am_un5 : Tryz.prog.underlying 5 = some (.int .u8) := by kernel_rfl
theorem am_us5 : (Tryz.prog.underlying 5).isSome = true := by kernel_rfl
theorem am_un9 : Tryz.prog.underlying 9 = some .string := by kernel_rfl
theorem am_eq33 : EqT Tryz.prog 33 [(0, 3), (1, 3)] := ⟨⟨_, (by kernel_rfl : Tryz.prog.underlying 33 = some (.struct (Tryz.prog.fieldsOf 33))), by kernel_rfl, by kernel_rfl⟩, by kernel_rfl, by kernel_rfl⟩
theorem am_sq33 (a0 b0 : Int) (a1 b1 : Int) : eqG Tryz.prog [.lit (.int .i64 a0), .lit (.int .i64 a1)] [.lit (.int .i64 b0), .lit (.int .i64 b1)] [(0, 3), (1, 3)] = some (decide (a0 = b0) && (decide (a1 = b1) && true)) := by simp [eqG, scEq, am_ag3, am_un3]
theorem am_eq40 : EqT Tryz.prog 40 [(0, 3), (1, 3)] := ⟨⟨_, (by kernel_rfl : Tryz.prog.underlying 40 = some (.struct (Tryz.prog.fieldsOf 40))), by kernel_rfl, by kernel_rfl⟩, by kernel_rfl, by kernel_rfl⟩
theorem am_sq40 (a0 b0 : Int) (a1 b1 : Int) : eqG Tryz.prog [.lit (.int .i64 a0), .lit (.int .i64 a1)] [.lit (.int .i64 b0), .lit (.int .i64 b1)] [(0, 3), (1, 3)] = some (decide (a0 = b0) && (decide (a1 = b1) && true)) := by simp [eqG, scEq, am_ag3, am_un3]
end Go.Proofs.YtddogeicmhbidaaGreatDoor
