/-
  More closed facts on the types of the program.
  Conditions: none.
-/
import Derived.Test.YtkbpignlggahaaaGreatDoorAmEq
import Derived.Test.YtkbpignlggahaaaGreatDoorAmFacts
namespace Go.Proofs.YtkbpignlggahaaaGreatDoor
open Go Go.AM
set_option linter.unusedSimpArgs false
theorem am_un3 : Tryz.prog.underlying 3 = some (.int .i64) := by kernel_rfl
theorem am_un9 : Tryz.prog.underlying 9 = some .string := by kernel_rfl
theorem am_eq62 : EqT Tryz.prog 62 [(0, 3), (1, 3)] := ⟨⟨_, (by kernel_rfl : Tryz.prog.underlying 62 = some (.struct (Tryz.prog.fieldsOf 62))), by kernel_rfl, by kernel_rfl⟩, by kernel_rfl, by kernel_rfl⟩
theorem am_sq62 (a0 b0 : Int) (a1 b1 : Int) : eqG Tryz.prog [.lit (.int .i64 a0), .lit (.int .i64 a1)] [.lit (.int .i64 b0), .lit (.int .i64 b1)] [(0, 3), (1, 3)] = some (decide (a0 = b0) && (decide (a1 = b1) && true)) := by simp [eqG, scEq, am_ag3, am_un3]
theorem am_eq80 : EqT Tryz.prog 80 [(0, 3), (1, 3), (2, 3)] := ⟨⟨_, (by kernel_rfl : Tryz.prog.underlying 80 = some (.struct (Tryz.prog.fieldsOf 80))), by kernel_rfl, by kernel_rfl⟩, by kernel_rfl, by kernel_rfl⟩
theorem am_sq80 (a0 b0 : Int) (a1 b1 : Int) (a2 b2 : Int) : eqG Tryz.prog [.lit (.int .i64 a0), .lit (.int .i64 a1), .lit (.int .i64 a2)] [.lit (.int .i64 b0), .lit (.int .i64 b1), .lit (.int .i64 b2)] [(0, 3), (1, 3), (2, 3)] = some (decide (a0 = b0) && (decide (a1 = b1) && (decide (a2 = b2) && true))) := by simp [eqG, scEq, am_ag3, am_un3]
end Go.Proofs.YtkbpignlggahaaaGreatDoor
