/-
  More closed facts on the types of the program.
  Conditions: none.
-/
import Derived.Test.YtigjoaejncfmdaaAmEq
import Derived.Test.YtigjoaejncfmdaaAmFacts
namespace Go.Proofs.Ytigjoaejncfmdaa
open Go Go.AM
set_option linter.unusedSimpArgs false
theorem am_un3 : Try.prog.underlying 3 = some (.int .i64) := by kernel_rfl
theorem am_us3 : (Try.prog.underlying 3).isSome = true := by kernel_rfl
theorem am_un5 : Try.prog.underlying 5 = some (.int .u8) := by kernel_rfl
theorem am_us5 : (Try.prog.underlying 5).isSome = true := by kernel_rfl
theorem am_eq36 : EqT Try.prog 36 [(0, 3), (1, 3)] := ⟨⟨_, (by kernel_rfl : Try.prog.underlying 36 = some (.struct (Try.prog.fieldsOf 36))), by kernel_rfl, by kernel_rfl⟩, by kernel_rfl, by kernel_rfl⟩
theorem am_sq36 (a0 b0 : Int) (a1 b1 : Int) : eqG Try.prog [.lit (.int .i64 a0), .lit (.int .i64 a1)] [.lit (.int .i64 b0), .lit (.int .i64 b1)] [(0, 3), (1, 3)] = some (decide (a0 = b0) && (decide (a1 = b1) && true)) := by simp [eqG, scEq, am_ag3, am_un3]
theorem am_un83 : Try.prog.underlying 83 = some (.int .u64) := by kernel_rfl
theorem am_us83 : (Try.prog.underlying 83).isSome = true := by kernel_rfl
end Go.Proofs.Ytigjoaejncfmdaa
