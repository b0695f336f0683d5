/-
  More closed facts on the types of the program.
  Conditions: none.
-/
import Derived.Test.YtddogeicmhbidaaGreatDoorAmEq
import Derived.Test.YtddogeicmhbidaaGreatDoorAmFacts
namespace Go.Proofs.YtddogeicmhbidaaGreatDoor
open Go Go.AM
set_option linter.unusedSimpArgs false
theorem am_un2 : Tryz.prog.underlying 2 = some (.int .i64) := by kernel_rfl
theorem am_us2 : (Tryz.prog.underlying 2).isSome = true := by kernel_rfl
theorem am_un3 : Tryz.prog.underlying 3 = some (.int .i64) := by kernel_rfl
theorem am_us3 : (Tryz.prog.underlying 3).isSome = true := by kernel_rfl
theorem am_un4 : Tryz.prog.underlying 4 = some .bool := by kernel_rfl
theorem am_us4 : (Tryz.prog.underlying 4).isSome = true := by kernel_rfl
theorem am_un5 : Tryz.prog.underlying 5 = some (.int .u8) := by kernel_rfl
theorem am_us5 : (Tryz.prog.underlying 5).isSome = true := by kernel_rfl
theorem am_un6 : Tryz.prog.underlying 6 = some (.int .u8) := by kernel_rfl
theorem am_us6 : (Tryz.prog.underlying 6).isSome = true := by kernel_rfl
theorem am_un9 : Tryz.prog.underlying 9 = some .string := by kernel_rfl
theorem am_us9 : (Tryz.prog.underlying 9).isSome = true := by kernel_rfl
theorem am_un10 : Tryz.prog.underlying 10 = some .string := by kernel_rfl
theorem am_us10 : (Tryz.prog.underlying 10).isSome = true := by kernel_rfl
theorem am_un11 : Tryz.prog.underlying 11 = some .string := by kernel_rfl
theorem am_us11 : (Tryz.prog.underlying 11).isSome = true := by kernel_rfl
theorem am_un12 : Tryz.prog.underlying 12 = some (.int .u64) := by kernel_rfl
theorem am_us12 : (Tryz.prog.underlying 12).isSome = true := by kernel_rfl
theorem am_un21 : Tryz.prog.underlying 21 = some (.int .i32) := by kernel_rfl
theorem am_us21 : (Tryz.prog.underlying 21).isSome = true := by kernel_rfl
theorem am_un26 : Tryz.prog.underlying 26 = some (.int .i64) := by kernel_rfl
theorem am_us26 : (Tryz.prog.underlying 26).isSome = true := by kernel_rfl
theorem am_eq33 : EqT Tryz.prog 33 [(0, 3), (1, 3)] := ⟨⟨_, (by kernel_rfl : Tryz.prog.underlying 33 = some (.struct (Tryz.prog.fieldsOf 33))), by kernel_rfl, by kernel_rfl⟩, by kernel_rfl, by kernel_rfl⟩
theorem am_sq33 (a0 b0 : Int) (a1 b1 : Int) : eqG Tryz.prog [.lit (.int .i64 a0), .lit (.int .i64 a1)] [.lit (.int .i64 b0), .lit (.int .i64 b1)] [(0, 3), (1, 3)] = some (decide (a0 = b0) && (decide (a1 = b1) && true)) := by simp [eqG, scEq, am_ag3, am_un3]
theorem am_eq40 : EqT Tryz.prog 40 [(0, 3), (1, 3)] := ⟨⟨_, (by kernel_rfl : Tryz.prog.underlying 40 = some (.struct (Tryz.prog.fieldsOf 40))), by kernel_rfl, by kernel_rfl⟩, by kernel_rfl, by kernel_rfl⟩
theorem am_sq40 (a0 b0 : Int) (a1 b1 : Int) : eqG Tryz.prog [.lit (.int .i64 a0), .lit (.int .i64 a1)] [.lit (.int .i64 b0), .lit (.int .i64 b1)] [(0, 3), (1, 3)] = some (decide (a0 = b0) && (decide (a1 = b1) && true)) := by simp [eqG, scEq, am_ag3, am_un3]
theorem am_eq88 : EqT Tryz.prog 88 [(0, 3), (1, 3)] := ⟨⟨_, (by kernel_rfl : Tryz.prog.underlying 88 = some (.struct (Tryz.prog.fieldsOf 88))), by kernel_rfl, by kernel_rfl⟩, by kernel_rfl, by kernel_rfl⟩
theorem am_sq88 (a0 b0 : Int) (a1 b1 : Int) : eqG Tryz.prog [.lit (.int .i64 a0), .lit (.int .i64 a1)] [.lit (.int .i64 b0), .lit (.int .i64 b1)] [(0, 3), (1, 3)] = some (decide (a0 = b0) && (decide (a1 = b1) && true)) := by simp [eqG, scEq, am_ag3, am_un3]
theorem am_un93 : Tryz.prog.underlying 93 = some (.int .u64) := by kernel_rfl
theorem am_us93 : (Tryz.prog.underlying 93).isSome = true := by kernel_rfl
theorem am_un113 : Tryz.prog.underlying 113 = some (.int .i64) := by kernel_rfl
theorem am_us113 : (Tryz.prog.underlying 113).isSome = true := by kernel_rfl
theorem am_un120 : Tryz.prog.underlying 120 = some (.int .u32) := by kernel_rfl
theorem am_us120 : (Tryz.prog.underlying 120).isSome = true := by kernel_rfl
theorem am_un122 : Tryz.prog.underlying 122 = some (.int .u64) := by kernel_rfl
theorem am_us122 : (Tryz.prog.underlying 122).isSome = true := by kernel_rfl
theorem am_eq137 : EqT Tryz.prog 137 [(0, 3), (1, 5)] := ⟨⟨_, (by kernel_rfl : Tryz.prog.underlying 137 = some (.struct (Tryz.prog.fieldsOf 137))), by kernel_rfl, by kernel_rfl⟩, by kernel_rfl, by kernel_rfl⟩
theorem am_sq137 (a0 b0 : Int) (a1 b1 : Int) : eqG Tryz.prog [.lit (.int .i64 a0), .lit (.int .u8 a1)] [.lit (.int .i64 b0), .lit (.int .u8 b1)] [(0, 3), (1, 5)] = some (decide (a0 = b0) && (decide (a1 = b1) && true)) := by simp [eqG, scEq, am_ag3, am_un3, am_ag5, am_un5]
theorem am_un138 : Tryz.prog.underlying 138 = some (.int .u64) := by kernel_rfl
theorem am_us138 : (Tryz.prog.underlying 138).isSome = true := by kernel_rfl
theorem am_eq147 : EqT Tryz.prog 147 [(0, 3), (1, 3), (2, 3)] := ⟨⟨_, (by kernel_rfl : Tryz.prog.underlying 147 = some (.struct (Tryz.prog.fieldsOf 147))), by kernel_rfl, by kernel_rfl⟩, by kernel_rfl, by kernel_rfl⟩
theorem am_sq147 (a0 b0 : Int) (a1 b1 : Int) (a2 b2 : Int) : eqG Tryz.prog [.lit (.int .i64 a0), .lit (.int .i64 a1), .lit (.int .i64 a2)] [.lit (.int .i64 b0), .lit (.int .i64 b1), .lit (.int .i64 b2)] [(0, 3), (1, 3), (2, 3)] = some (decide (a0 = b0) && (decide (a1 = b1) && (decide (a2 = b2) && true))) := by simp [eqG, scEq, am_ag3, am_un3]
theorem am_un176 : Tryz.prog.underlying 176 = some (.int .i64) := by kernel_rfl
theorem am_us176 : (Tryz.prog.underlying 176).isSome = true := by kernel_rfl
theorem am_eq193 : EqT Tryz.prog 193 [(0, 5), (1, 5)] := ⟨⟨_, (by kernel_rfl : Tryz.prog.underlying 193 = some (.struct (Tryz.prog.fieldsOf 193))), by kernel_rfl, by kernel_rfl⟩, by kernel_rfl, by kernel_rfl⟩
theorem am_sq193 (a0 b0 : Int) (a1 b1 : Int) : eqG Tryz.prog [.lit (.int .u8 a0), .lit (.int .u8 a1)] [.lit (.int .u8 b0), .lit (.int .u8 b1)] [(0, 5), (1, 5)] = some (decide (a0 = b0) && (decide (a1 = b1) && true)) := by simp [eqG, scEq, am_ag5, am_un5]
theorem am_eq199 : EqT Tryz.prog 199 [(0, 9)] := ⟨⟨_, (by kernel_rfl : Tryz.prog.underlying 199 = some (.struct (Tryz.prog.fieldsOf 199))), by kernel_rfl, by kernel_rfl⟩, by kernel_rfl, by kernel_rfl⟩
theorem am_sq199 (a0 b0 : ByteArray) : eqG Tryz.prog [.lit (.string a0)] [.lit (.string b0)] [(0, 9)] = some (decide (a0 = b0) && true) := by simp [eqG, scEq, am_ag9, am_un9]
theorem am_un205 : Tryz.prog.underlying 205 = some (.int .u8) := by kernel_rfl
theorem am_us205 : (Tryz.prog.underlying 205).isSome = true := by kernel_rfl
theorem am_un206 : Tryz.prog.underlying 206 = some (.int .u8) := by kernel_rfl
theorem am_us206 : (Tryz.prog.underlying 206).isSome = true := by kernel_rfl
theorem am_un208 : Tryz.prog.underlying 208 = some (.int .i32) := by kernel_rfl
theorem am_us208 : (Tryz.prog.underlying 208).isSome = true := by kernel_rfl
theorem am_un209 : Tryz.prog.underlying 209 = some (.int .i32) := by kernel_rfl
theorem am_us209 : (Tryz.prog.underlying 209).isSome = true := by kernel_rfl
end Go.Proofs.YtddogeicmhbidaaGreatDoor
