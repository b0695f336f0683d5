/-
  More closed facts on the types of the program.
  Conditions: none.
-/
import Derived.Test.YtaggnajjmopobaaAmEq
import Derived.Test.YtaggnajjmopobaaAmFacts
namespace Go.Proofs.Ytaggnajjmopobaa
open Go Go.AM
set_option linter.unusedSimpArgs false
theorem am_un2 : Try.prog.underlying 2 = some (.int .i64) := by kernel_rfl
theorem am_us2 : (Try.prog.underlying 2).isSome = true := by kernel_rfl
theorem am_un3 : Try.prog.underlying 3 = some (.int .i64) := by kernel_rfl
theorem am_us3 : (Try.prog.underlying 3).isSome = true := by kernel_rfl
theorem am_un4 : Try.prog.underlying 4 = some .bool := by kernel_rfl
theorem am_us4 : (Try.prog.underlying 4).isSome = true := by kernel_rfl
theorem am_un5 : Try.prog.underlying 5 = some (.int .u8) := by kernel_rfl
theorem am_us5 : (Try.prog.underlying 5).isSome = true := by kernel_rfl
theorem am_un6 : Try.prog.underlying 6 = some (.int .u8) := by kernel_rfl
theorem am_us6 : (Try.prog.underlying 6).isSome = true := by kernel_rfl
theorem am_un9 : Try.prog.underlying 9 = some .string := by kernel_rfl
theorem am_us9 : (Try.prog.underlying 9).isSome = true := by kernel_rfl
theorem am_un10 : Try.prog.underlying 10 = some .string := by kernel_rfl
theorem am_us10 : (Try.prog.underlying 10).isSome = true := by kernel_rfl
theorem am_un11 : Try.prog.underlying 11 = some .string := by kernel_rfl
theorem am_us11 : (Try.prog.underlying 11).isSome = true := by kernel_rfl
theorem am_un12 : Try.prog.underlying 12 = some (.int .u64) := by kernel_rfl
theorem am_us12 : (Try.prog.underlying 12).isSome = true := by kernel_rfl
theorem am_un21 : Try.prog.underlying 21 = some (.int .i32) := by kernel_rfl
theorem am_us21 : (Try.prog.underlying 21).isSome = true := by kernel_rfl
theorem am_un37 : Try.prog.underlying 37 = some (.int .i64) := by kernel_rfl
theorem am_us37 : (Try.prog.underlying 37).isSome = true := by kernel_rfl
theorem am_eq52 : EqT Try.prog 52 [(0, 3), (1, 3)] := ⟨⟨_, (by kernel_rfl : Try.prog.underlying 52 = some (.struct (Try.prog.fieldsOf 52))), by kernel_rfl, by kernel_rfl⟩, by kernel_rfl, by kernel_rfl⟩
theorem am_sq52 (a0 b0 : Int) (a1 b1 : Int) : eqG Try.prog [.lit (.int .i64 a0), .lit (.int .i64 a1)] [.lit (.int .i64 b0), .lit (.int .i64 b1)] [(0, 3), (1, 3)] = some (decide (a0 = b0) && (decide (a1 = b1) && true)) := by simp [eqG, scEq, am_ag3, am_un3]
theorem am_un93 : Try.prog.underlying 93 = some (.int .u64) := by kernel_rfl
theorem am_us93 : (Try.prog.underlying 93).isSome = true := by kernel_rfl
theorem am_un99 : Try.prog.underlying 99 = some (.int .u32) := by kernel_rfl
theorem am_us99 : (Try.prog.underlying 99).isSome = true := by kernel_rfl
theorem am_un102 : Try.prog.underlying 102 = some (.int .u64) := by kernel_rfl
theorem am_us102 : (Try.prog.underlying 102).isSome = true := by kernel_rfl
theorem am_un106 : Try.prog.underlying 106 = some (.int .i64) := by kernel_rfl
theorem am_us106 : (Try.prog.underlying 106).isSome = true := by kernel_rfl
theorem am_un115 : Try.prog.underlying 115 = some (.int .u64) := by kernel_rfl
theorem am_us115 : (Try.prog.underlying 115).isSome = true := by kernel_rfl
theorem am_un130 : Try.prog.underlying 130 = some (.int .u8) := by kernel_rfl
theorem am_us130 : (Try.prog.underlying 130).isSome = true := by kernel_rfl
theorem am_un131 : Try.prog.underlying 131 = some (.int .u8) := by kernel_rfl
theorem am_us131 : (Try.prog.underlying 131).isSome = true := by kernel_rfl
theorem am_un134 : Try.prog.underlying 134 = some (.int .i32) := by kernel_rfl
theorem am_us134 : (Try.prog.underlying 134).isSome = true := by kernel_rfl
theorem am_un135 : Try.prog.underlying 135 = some (.int .i32) := by kernel_rfl
theorem am_us135 : (Try.prog.underlying 135).isSome = true := by kernel_rfl
end Go.Proofs.Ytaggnajjmopobaa
