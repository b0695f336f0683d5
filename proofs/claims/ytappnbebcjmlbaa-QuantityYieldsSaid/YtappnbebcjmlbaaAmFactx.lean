/-
  More closed facts on the types of the program.
  Conditions: none.
-/
import Derived.Test.YtappnbebcjmlbaaAmEq
import Derived.Test.YtappnbebcjmlbaaAmFacts
namespace Go.Proofs.Ytappnbebcjmlbaa
open Go Go.AM
set_option linter.unusedSimpArgs false
theorem am_un2 : Try.prog.underlying 2 = some (.int .i64) := by kernel_rfl
theorem am_us2 : (Try.prog.underlying 2).isSome = true := by kernel_rfl
theorem am_un3 : Try.prog.underlying 3 = some (.int .i64) := by kernel_rfl
theorem am_us3 : (Try.prog.underlying 3).isSome = true := by kernel_rfl
theorem am_un4 : Try.prog.underlying 4 = some .bool := by kernel_rfl
theorem am_us4 : (Try.prog.underlying 4).isSome = true := by kernel_rfl
theorem am_un5 : Try.prog.underlying 5 = some (.int .u8) := by kernel_rfl
theorem am_us5 : (Try.prog.underlying 5).isSome = true := by kernel_rfl
theorem am_un6 : Try.prog.underlying 6 = some (.int .u8) := by kernel_rfl
theorem am_us6 : (Try.prog.underlying 6).isSome = true := by kernel_rfl
theorem am_un9 : Try.prog.underlying 9 = some .string := by kernel_rfl
theorem am_us9 : (Try.prog.underlying 9).isSome = true := by kernel_rfl
theorem am_un10 : Try.prog.underlying 10 = some .string := by kernel_rfl
theorem am_us10 : (Try.prog.underlying 10).isSome = true := by kernel_rfl
theorem am_un11 : Try.prog.underlying 11 = some .string := by kernel_rfl
theorem am_us11 : (Try.prog.underlying 11).isSome = true := by kernel_rfl
theorem am_un12 : Try.prog.underlying 12 = some (.int .u64) := by kernel_rfl
theorem am_us12 : (Try.prog.underlying 12).isSome = true := by kernel_rfl
theorem am_un21 : Try.prog.underlying 21 = some (.int .i32) := by kernel_rfl
theorem am_us21 : (Try.prog.underlying 21).isSome = true := by kernel_rfl
theorem am_un26 : Try.prog.underlying 26 = some (.int .i64) := by kernel_rfl
theorem am_us26 : (Try.prog.underlying 26).isSome = true := by kernel_rfl
theorem am_eq34 : EqT Try.prog 34 [(0, 3), (1, 3)] := ⟨⟨_, (by kernel_rfl : Try.prog.underlying 34 = some (.struct (Try.prog.fieldsOf 34))), by kernel_rfl, by kernel_rfl⟩, by kernel_rfl, by kernel_rfl⟩
theorem am_sq34 (a0 b0 : Int) (a1 b1 : Int) : eqG Try.prog [.lit (.int .i64 a0), .lit (.int .i64 a1)] [.lit (.int .i64 b0), .lit (.int .i64 b1)] [(0, 3), (1, 3)] = some (decide (a0 = b0) && (decide (a1 = b1) && true)) := by simp [eqG, scEq, am_ag3, am_un3]
theorem am_eq63 : EqT Try.prog 63 [(0, 3), (1, 3)] := ⟨⟨_, (by kernel_rfl : Try.prog.underlying 63 = some (.struct (Try.prog.fieldsOf 63))), by kernel_rfl, by kernel_rfl⟩, by kernel_rfl, by kernel_rfl⟩
theorem am_sq63 (a0 b0 : Int) (a1 b1 : Int) : eqG Try.prog [.lit (.int .i64 a0), .lit (.int .i64 a1)] [.lit (.int .i64 b0), .lit (.int .i64 b1)] [(0, 3), (1, 3)] = some (decide (a0 = b0) && (decide (a1 = b1) && true)) := by simp [eqG, scEq, am_ag3, am_un3]
theorem am_eq85 : EqT Try.prog 85 [(0, 3), (1, 3)] := ⟨⟨_, (by kernel_rfl : Try.prog.underlying 85 = some (.struct (Try.prog.fieldsOf 85))), by kernel_rfl, by kernel_rfl⟩, by kernel_rfl, by kernel_rfl⟩
theorem am_sq85 (a0 b0 : Int) (a1 b1 : Int) : eqG Try.prog [.lit (.int .i64 a0), .lit (.int .i64 a1)] [.lit (.int .i64 b0), .lit (.int .i64 b1)] [(0, 3), (1, 3)] = some (decide (a0 = b0) && (decide (a1 = b1) && true)) := by simp [eqG, scEq, am_ag3, am_un3]
theorem am_un93 : Try.prog.underlying 93 = some (.int .u64) := by kernel_rfl
theorem am_us93 : (Try.prog.underlying 93).isSome = true := by kernel_rfl
theorem am_un102 : Try.prog.underlying 102 = some (.int .i64) := by kernel_rfl
theorem am_us102 : (Try.prog.underlying 102).isSome = true := by kernel_rfl
theorem am_un110 : Try.prog.underlying 110 = some (.int .u32) := by kernel_rfl
theorem am_us110 : (Try.prog.underlying 110).isSome = true := by kernel_rfl
theorem am_un112 : Try.prog.underlying 112 = some (.int .u64) := by kernel_rfl
theorem am_us112 : (Try.prog.underlying 112).isSome = true := by kernel_rfl
theorem am_eq116 : EqT Try.prog 116 [(0, 3), (1, 5)] := ⟨⟨_, (by kernel_rfl : Try.prog.underlying 116 = some (.struct (Try.prog.fieldsOf 116))), by kernel_rfl, by kernel_rfl⟩, by kernel_rfl, by kernel_rfl⟩
theorem am_sq116 (a0 b0 : Int) (a1 b1 : Int) : eqG Try.prog [.lit (.int .i64 a0), .lit (.int .u8 a1)] [.lit (.int .i64 b0), .lit (.int .u8 b1)] [(0, 3), (1, 5)] = some (decide (a0 = b0) && (decide (a1 = b1) && true)) := by simp [eqG, scEq, am_ag3, am_un3, am_ag5, am_un5]
theorem am_un120 : Try.prog.underlying 120 = some (.int .u64) := by kernel_rfl
theorem am_us120 : (Try.prog.underlying 120).isSome = true := by kernel_rfl
theorem am_eq129 : EqT Try.prog 129 [(0, 3), (1, 3), (2, 3)] := ⟨⟨_, (by kernel_rfl : Try.prog.underlying 129 = some (.struct (Try.prog.fieldsOf 129))), by kernel_rfl, by kernel_rfl⟩, by kernel_rfl, by kernel_rfl⟩
theorem am_sq129 (a0 b0 : Int) (a1 b1 : Int) (a2 b2 : Int) : eqG Try.prog [.lit (.int .i64 a0), .lit (.int .i64 a1), .lit (.int .i64 a2)] [.lit (.int .i64 b0), .lit (.int .i64 b1), .lit (.int .i64 b2)] [(0, 3), (1, 3), (2, 3)] = some (decide (a0 = b0) && (decide (a1 = b1) && (decide (a2 = b2) && true))) := by simp [eqG, scEq, am_ag3, am_un3]
theorem am_un139 : Try.prog.underlying 139 = some (.int .u8) := by kernel_rfl
theorem am_us139 : (Try.prog.underlying 139).isSome = true := by kernel_rfl
theorem am_un140 : Try.prog.underlying 140 = some (.int .u8) := by kernel_rfl
theorem am_us140 : (Try.prog.underlying 140).isSome = true := by kernel_rfl
theorem am_un143 : Try.prog.underlying 143 = some (.int .i32) := by kernel_rfl
theorem am_us143 : (Try.prog.underlying 143).isSome = true := by kernel_rfl
theorem am_un144 : Try.prog.underlying 144 = some (.int .i32) := by kernel_rfl
theorem am_us144 : (Try.prog.underlying 144).isSome = true := by kernel_rfl
end Go.Proofs.Ytappnbebcjmlbaa
