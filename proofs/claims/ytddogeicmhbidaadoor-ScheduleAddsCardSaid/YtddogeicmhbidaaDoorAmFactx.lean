/-
  More closed facts on the types of the program.
  Conditions: none.
-/
import Derived.Test.YtddogeicmhbidaaDoorAmEq
import Derived.Test.YtddogeicmhbidaaDoorAmFacts
namespace Go.Proofs.YtddogeicmhbidaaDoor
open Go Go.AM
set_option linter.unusedSimpArgs false
theorem am_un2 : Tryd.prog.underlying 2 = some (.int .i64) := by kernel_rfl
theorem am_us2 : (Tryd.prog.underlying 2).isSome = true := by kernel_rfl
theorem am_un3 : Tryd.prog.underlying 3 = some (.int .i64) := by kernel_rfl
theorem am_us3 : (Tryd.prog.underlying 3).isSome = true := by kernel_rfl
theorem am_un4 : Tryd.prog.underlying 4 = some .bool := by kernel_rfl
theorem am_us4 : (Tryd.prog.underlying 4).isSome = true := by kernel_rfl
theorem am_un5 : Tryd.prog.underlying 5 = some (.int .u8) := by kernel_rfl
theorem am_us5 : (Tryd.prog.underlying 5).isSome = true := by kernel_rfl
theorem am_un6 : Tryd.prog.underlying 6 = some (.int .u8) := by kernel_rfl
theorem am_us6 : (Tryd.prog.underlying 6).isSome = true := by kernel_rfl
theorem am_un9 : Tryd.prog.underlying 9 = some .string := by kernel_rfl
theorem am_us9 : (Tryd.prog.underlying 9).isSome = true := by kernel_rfl
theorem am_un10 : Tryd.prog.underlying 10 = some .string := by kernel_rfl
theorem am_us10 : (Tryd.prog.underlying 10).isSome = true := by kernel_rfl
theorem am_un11 : Tryd.prog.underlying 11 = some .string := by kernel_rfl
theorem am_us11 : (Tryd.prog.underlying 11).isSome = true := by kernel_rfl
theorem am_un12 : Tryd.prog.underlying 12 = some (.int .u64) := by kernel_rfl
theorem am_us12 : (Tryd.prog.underlying 12).isSome = true := by kernel_rfl
theorem am_un21 : Tryd.prog.underlying 21 = some (.int .i32) := by kernel_rfl
theorem am_us21 : (Tryd.prog.underlying 21).isSome = true := by kernel_rfl
theorem am_un25 : Tryd.prog.underlying 25 = some (.int .i64) := by kernel_rfl
theorem am_us25 : (Tryd.prog.underlying 25).isSome = true := by kernel_rfl
theorem am_eq45 : EqT Tryd.prog 45 [(0, 3), (1, 3)] := ⟨⟨_, (by kernel_rfl : Tryd.prog.underlying 45 = some (.struct (Tryd.prog.fieldsOf 45))), by kernel_rfl, by kernel_rfl⟩, by kernel_rfl, by kernel_rfl⟩
theorem am_sq45 (a0 b0 : Int) (a1 b1 : Int) : eqG Tryd.prog [.lit (.int .i64 a0), .lit (.int .i64 a1)] [.lit (.int .i64 b0), .lit (.int .i64 b1)] [(0, 3), (1, 3)] = some (decide (a0 = b0) && (decide (a1 = b1) && true)) := by simp [eqG, scEq, am_ag3, am_un3]
theorem am_eq91 : EqT Tryd.prog 91 [(0, 3), (1, 3)] := ⟨⟨_, (by kernel_rfl : Tryd.prog.underlying 91 = some (.struct (Tryd.prog.fieldsOf 91))), by kernel_rfl, by kernel_rfl⟩, by kernel_rfl, by kernel_rfl⟩
theorem am_sq91 (a0 b0 : Int) (a1 b1 : Int) : eqG Tryd.prog [.lit (.int .i64 a0), .lit (.int .i64 a1)] [.lit (.int .i64 b0), .lit (.int .i64 b1)] [(0, 3), (1, 3)] = some (decide (a0 = b0) && (decide (a1 = b1) && true)) := by simp [eqG, scEq, am_ag3, am_un3]
theorem am_un96 : Tryd.prog.underlying 96 = some (.int .u64) := by kernel_rfl
theorem am_us96 : (Tryd.prog.underlying 96).isSome = true := by kernel_rfl
theorem am_un107 : Tryd.prog.underlying 107 = some (.int .i64) := by kernel_rfl
theorem am_us107 : (Tryd.prog.underlying 107).isSome = true := by kernel_rfl
theorem am_un115 : Tryd.prog.underlying 115 = some (.int .u32) := by kernel_rfl
theorem am_us115 : (Tryd.prog.underlying 115).isSome = true := by kernel_rfl
theorem am_un117 : Tryd.prog.underlying 117 = some (.int .u64) := by kernel_rfl
theorem am_us117 : (Tryd.prog.underlying 117).isSome = true := by kernel_rfl
theorem am_eq121 : EqT Tryd.prog 121 [(0, 3), (1, 5)] := ⟨⟨_, (by kernel_rfl : Tryd.prog.underlying 121 = some (.struct (Tryd.prog.fieldsOf 121))), by kernel_rfl, by kernel_rfl⟩, by kernel_rfl, by kernel_rfl⟩
theorem am_sq121 (a0 b0 : Int) (a1 b1 : Int) : eqG Tryd.prog [.lit (.int .i64 a0), .lit (.int .u8 a1)] [.lit (.int .i64 b0), .lit (.int .u8 b1)] [(0, 3), (1, 5)] = some (decide (a0 = b0) && (decide (a1 = b1) && true)) := by simp [eqG, scEq, am_ag3, am_un3, am_ag5, am_un5]
theorem am_un126 : Tryd.prog.underlying 126 = some (.int .u64) := by kernel_rfl
theorem am_us126 : (Tryd.prog.underlying 126).isSome = true := by kernel_rfl
theorem am_un152 : Tryd.prog.underlying 152 = some (.int .u8) := by kernel_rfl
theorem am_us152 : (Tryd.prog.underlying 152).isSome = true := by kernel_rfl
theorem am_un153 : Tryd.prog.underlying 153 = some (.int .u8) := by kernel_rfl
theorem am_us153 : (Tryd.prog.underlying 153).isSome = true := by kernel_rfl
theorem am_un155 : Tryd.prog.underlying 155 = some (.int .i32) := by kernel_rfl
theorem am_us155 : (Tryd.prog.underlying 155).isSome = true := by kernel_rfl
theorem am_un156 : Tryd.prog.underlying 156 = some (.int .i32) := by kernel_rfl
theorem am_us156 : (Tryd.prog.underlying 156).isSome = true := by kernel_rfl
end Go.Proofs.YtddogeicmhbidaaDoor
