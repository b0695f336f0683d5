/-
  More closed facts on the types of the program.
  Conditions: none.
-/
import Derived.Test.YtigjoaejncfmdaaAmEq
import Derived.Test.YtigjoaejncfmdaaAmFacts
namespace Go.Proofs.Ytigjoaejncfmdaa
open Go Go.AM
set_option linter.unusedSimpArgs false
theorem am_un2 : Try.prog.underlying 2 = some (.int .i64) := by kernel_rfl
theorem am_us2 : (Try.prog.underlying 2).isSome = true := by kernel_rfl
theorem am_un3 : Try.prog.underlying 3 = some (.int .i64) := by kernel_rfl
theorem am_us3 : (Try.prog.underlying 3).isSome = true := by kernel_rfl
theorem am_un4 : Try.prog.underlying 4 = some .bool := by kernel_rfl
theorem am_us4 : (Try.prog.underlying 4).isSome = true := by kernel_rfl
theorem am_un5 : Try.prog.underlying 5 = some (.int .u8) := by kernel_rfl
theorem am_us5 : (Try.prog.underlying 5).isSome = true := by kernel_rfl
theorem am_un6 : Try.prog.underlying 6 = some (.int .u8) := by kernel_rfl
theorem am_us6 : (Try.prog.underlying 6).isSome = true := by kernel_rfl
theorem am_un9 : Try.prog.underlying 9 = some .string := by kernel_rfl
theorem am_us9 : (Try.prog.underlying 9).isSome = true := by kernel_rfl
theorem am_un10 : Try.prog.underlying 10 = some .string := by kernel_rfl
theorem am_us10 : (Try.prog.underlying 10).isSome = true := by kernel_rfl
theorem am_un11 : Try.prog.underlying 11 = some .string := by kernel_rfl
theorem am_us11 : (Try.prog.underlying 11).isSome = true := by kernel_rfl
theorem am_un12 : Try.prog.underlying 12 = some (.int .u64) := by kernel_rfl
theorem am_us12 : (Try.prog.underlying 12).isSome = true := by kernel_rfl
theorem am_un21 : Try.prog.underlying 21 = some (.int .i32) := by kernel_rfl
theorem am_us21 : (Try.prog.underlying 21).isSome = true := by kernel_rfl
theorem am_un26 : Try.prog.underlying 26 = some (.int .i64) := by kernel_rfl
theorem am_us26 : (Try.prog.underlying 26).isSome = true := by kernel_rfl
theorem am_eq36 : EqT Try.prog 36 [(0, 3), (1, 3)] := ⟨⟨_, (by kernel_rfl : Try.prog.underlying 36 = some (.struct (Try.prog.fieldsOf 36))), by kernel_rfl, by kernel_rfl⟩, by kernel_rfl, by kernel_rfl⟩
theorem am_sq36 (a0 b0 : Int) (a1 b1 : Int) : eqG Try.prog [.lit (.int .i64 a0), .lit (.int .i64 a1)] [.lit (.int .i64 b0), .lit (.int .i64 b1)] [(0, 3), (1, 3)] = some (decide (a0 = b0) && (decide (a1 = b1) && true)) := by simp [eqG, scEq, am_ag3, am_un3]
theorem am_eq57 : EqT Try.prog 57 [(0, 3), (1, 3)] := ⟨⟨_, (by kernel_rfl : Try.prog.underlying 57 = some (.struct (Try.prog.fieldsOf 57))), by kernel_rfl, by kernel_rfl⟩, by kernel_rfl, by kernel_rfl⟩
theorem am_sq57 (a0 b0 : Int) (a1 b1 : Int) : eqG Try.prog [.lit (.int .i64 a0), .lit (.int .i64 a1)] [.lit (.int .i64 b0), .lit (.int .i64 b1)] [(0, 3), (1, 3)] = some (decide (a0 = b0) && (decide (a1 = b1) && true)) := by simp [eqG, scEq, am_ag3, am_un3]
theorem am_eq70 : EqT Try.prog 70 [(0, 3), (1, 3), (2, 3)] := ⟨⟨_, (by kernel_rfl : Try.prog.underlying 70 = some (.struct (Try.prog.fieldsOf 70))), by kernel_rfl, by kernel_rfl⟩, by kernel_rfl, by kernel_rfl⟩
theorem am_sq70 (a0 b0 : Int) (a1 b1 : Int) (a2 b2 : Int) : eqG Try.prog [.lit (.int .i64 a0), .lit (.int .i64 a1), .lit (.int .i64 a2)] [.lit (.int .i64 b0), .lit (.int .i64 b1), .lit (.int .i64 b2)] [(0, 3), (1, 3), (2, 3)] = some (decide (a0 = b0) && (decide (a1 = b1) && (decide (a2 = b2) && true))) := by simp [eqG, scEq, am_ag3, am_un3]
theorem am_un83 : Try.prog.underlying 83 = some (.int .u64) := by kernel_rfl
theorem am_us83 : (Try.prog.underlying 83).isSome = true := by kernel_rfl
theorem am_un86 : Try.prog.underlying 86 = some (.int .i64) := by kernel_rfl
theorem am_us86 : (Try.prog.underlying 86).isSome = true := by kernel_rfl
theorem am_un94 : Try.prog.underlying 94 = some (.int .u32) := by kernel_rfl
theorem am_us94 : (Try.prog.underlying 94).isSome = true := by kernel_rfl
theorem am_un96 : Try.prog.underlying 96 = some (.int .u64) := by kernel_rfl
theorem am_us96 : (Try.prog.underlying 96).isSome = true := by kernel_rfl
theorem am_un98 : Try.prog.underlying 98 = some (.int .u64) := by kernel_rfl
theorem am_us98 : (Try.prog.underlying 98).isSome = true := by kernel_rfl
theorem am_un113 : Try.prog.underlying 113 = some (.int .u8) := by kernel_rfl
theorem am_us113 : (Try.prog.underlying 113).isSome = true := by kernel_rfl
theorem am_un114 : Try.prog.underlying 114 = some (.int .u8) := by kernel_rfl
theorem am_us114 : (Try.prog.underlying 114).isSome = true := by kernel_rfl
theorem am_un117 : Try.prog.underlying 117 = some (.int .i32) := by kernel_rfl
theorem am_us117 : (Try.prog.underlying 117).isSome = true := by kernel_rfl
theorem am_un118 : Try.prog.underlying 118 = some (.int .i32) := by kernel_rfl
theorem am_us118 : (Try.prog.underlying 118).isSome = true := by kernel_rfl
end Go.Proofs.Ytigjoaejncfmdaa
