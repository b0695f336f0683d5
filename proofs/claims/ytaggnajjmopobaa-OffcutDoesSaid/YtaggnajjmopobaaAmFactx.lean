/-
  More closed facts on the types of the program.
  Conditions: none.
-/
import Derived.Test.YtaggnajjmopobaaAmEq
import Derived.Test.YtaggnajjmopobaaAmFacts
namespace Go.Proofs.Ytaggnajjmopobaa
open Go Go.AM
set_option linter.unusedSimpArgs false
theorem am_un3 : Try.prog.underlying 3 = some (.int .i64) := by kernel_rfl
theorem am_us3 : (Try.prog.underlying 3).isSome = true := by kernel_rfl
theorem am_eq52 : EqT Try.prog 52 [(0, 3), (1, 3)] := ⟨⟨_, (by kernel_rfl : Try.prog.underlying 52 = some (.struct (Try.prog.fieldsOf 52))), by kernel_rfl, by kernel_rfl⟩, by kernel_rfl, by kernel_rfl⟩
theorem am_sq52 (a0 b0 : Int) (a1 b1 : Int) : eqG Try.prog [.lit (.int .i64 a0), .lit (.int .i64 a1)] [.lit (.int .i64 b0), .lit (.int .i64 b1)] [(0, 3), (1, 3)] = some (decide (a0 = b0) && (decide (a1 = b1) && true)) := by simp [eqG, scEq, am_ag3, am_un3]
theorem am_un93 : Try.prog.underlying 93 = some (.int .u64) := by kernel_rfl
theorem am_us93 : (Try.prog.underlying 93).isSome = true := by kernel_rfl
end Go.Proofs.Ytaggnajjmopobaa
