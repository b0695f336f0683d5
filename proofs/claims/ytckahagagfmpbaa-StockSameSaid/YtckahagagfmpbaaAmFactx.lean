/-
  More closed facts on the types of the program.
  Conditions: none.
-/
import Derived.Test.YtckahagagfmpbaaAmEq
import Derived.Test.YtckahagagfmpbaaAmFacts
namespace Go.Proofs.Ytckahagagfmpbaa
open Go Go.AM
set_option linter.unusedSimpArgs false
theorem am_un2 : Try.prog.underlying 2 = some (.int .i64) := by kernel_rfl
theorem am_us2 : (Try.prog.underlying 2).isSome = true := by kernel_rfl
theorem am_un3 : Try.prog.underlying 3 = some (.int .i64) := by kernel_rfl
theorem am_us3 : (Try.prog.underlying 3).isSome = true := by kernel_rfl
theorem am_un4 : Try.prog.underlying 4 = some .bool := by kernel_rfl
theorem am_us4 : (Try.prog.underlying 4).isSome = true := by kernel_rfl
theorem am_un5 : Try.prog.underlying 5 = some (.int .u8) := by kernel_rfl
theorem am_us5 : (Try.prog.underlying 5).isSome = true := by kernel_rfl
theorem am_un6 : Try.prog.underlying 6 = some (.int .u8) := by kernel_rfl
theorem am_us6 : (Try.prog.underlying 6).isSome = true := by kernel_rfl
theorem am_un9 : Try.prog.underlying 9 = some .string := by kernel_rfl
theorem am_us9 : (Try.prog.underlying 9).isSome = true := by kernel_rfl
theorem am_un10 : Try.prog.underlying 10 = some .string := by kernel_rfl
theorem am_us10 : (Try.prog.underlying 10).isSome = true := by kernel_rfl
theorem am_un11 : Try.prog.underlying 11 = some .string := by kernel_rfl
theorem am_us11 : (Try.prog.underlying 11).isSome = true := by kernel_rfl
theorem am_un12 : Try.prog.underlying 12 = some (.int .u64) := by kernel_rfl
theorem am_us12 : (Try.prog.underlying 12).isSome = true := by kernel_rfl
theorem am_un21 : Try.prog.underlying 21 = some (.int .i32) := by kernel_rfl
theorem am_us21 : (Try.prog.underlying 21).isSome = true := by kernel_rfl
theorem am_un26 : Try.prog.underlying 26 = some (.int .i64) := by kernel_rfl
theorem am_us26 : (Try.prog.underlying 26).isSome = true := by kernel_rfl
theorem am_eq37 : EqT Try.prog 37 [(0, 3), (1, 3)] := ⟨⟨_, (by kernel_rfl : Try.prog.underlying 37 = some (.struct (Try.prog.fieldsOf 37))), by kernel_rfl, by kernel_rfl⟩, by kernel_rfl, by kernel_rfl⟩
theorem am_sq37 (a0 b0 : Int) (a1 b1 : Int) : eqG Try.prog [.lit (.int .i64 a0), .lit (.int .i64 a1)] [.lit (.int .i64 b0), .lit (.int .i64 b1)] [(0, 3), (1, 3)] = some (decide (a0 = b0) && (decide (a1 = b1) && true)) := by simp [eqG, scEq, am_ag3, am_un3]
theorem am_eq40 : EqT Try.prog 40 [(0, 3), (1, 3)] := ⟨⟨_, (by kernel_rfl : Try.prog.underlying 40 = some (.struct (Try.prog.fieldsOf 40))), by kernel_rfl, by kernel_rfl⟩, by kernel_rfl, by kernel_rfl⟩
theorem am_sq40 (a0 b0 : Int) (a1 b1 : Int) : eqG Try.prog [.lit (.int .i64 a0), .lit (.int .i64 a1)] [.lit (.int .i64 b0), .lit (.int .i64 b1)] [(0, 3), (1, 3)] = some (decide (a0 = b0) && (decide (a1 = b1) && true)) := by simp [eqG, scEq, am_ag3, am_un3]
theorem am_un72 : Try.prog.underlying 72 = some (.int .u64) := by kernel_rfl
theorem am_us72 : (Try.prog.underlying 72).isSome = true := by kernel_rfl
theorem am_un85 : Try.prog.underlying 85 = some (.int .i64) := by kernel_rfl
theorem am_us85 : (Try.prog.underlying 85).isSome = true := by kernel_rfl
theorem am_un94 : Try.prog.underlying 94 = some (.int .u32) := by kernel_rfl
theorem am_us94 : (Try.prog.underlying 94).isSome = true := by kernel_rfl
theorem am_un96 : Try.prog.underlying 96 = some (.int .u64) := by kernel_rfl
theorem am_us96 : (Try.prog.underlying 96).isSome = true := by kernel_rfl
theorem am_un103 : Try.prog.underlying 103 = some (.int .u64) := by kernel_rfl
theorem am_us103 : (Try.prog.underlying 103).isSome = true := by kernel_rfl
theorem am_un129 : Try.prog.underlying 129 = some (.int .u8) := by kernel_rfl
theorem am_us129 : (Try.prog.underlying 129).isSome = true := by kernel_rfl
theorem am_un130 : Try.prog.underlying 130 = some (.int .u8) := by kernel_rfl
theorem am_us130 : (Try.prog.underlying 130).isSome = true := by kernel_rfl
theorem am_un133 : Try.prog.underlying 133 = some (.int .i32) := by kernel_rfl
theorem am_us133 : (Try.prog.underlying 133).isSome = true := by kernel_rfl
theorem am_un134 : Try.prog.underlying 134 = some (.int .i32) := by kernel_rfl
theorem am_us134 : (Try.prog.underlying 134).isSome = true := by kernel_rfl
end Go.Proofs.Ytckahagagfmpbaa
