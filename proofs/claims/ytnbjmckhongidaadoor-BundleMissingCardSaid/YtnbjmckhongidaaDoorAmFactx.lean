/-
  More closed facts on the types of the program.
  Conditions: none.
-/
import Derived.Test.YtnbjmckhongidaaDoorAmEq
import Derived.Test.YtnbjmckhongidaaDoorAmFacts
namespace Go.Proofs.YtnbjmckhongidaaDoor
open Go Go.AM
set_option linter.unusedSimpArgs false
theorem am_un2 : Tryd.prog.underlying 2 = some (.int .i64) := by kernel_rfl
theorem am_us2 : (Tryd.prog.underlying 2).isSome = true := by kernel_rfl
theorem am_un3 : Tryd.prog.underlying 3 = some (.int .i64) := by kernel_rfl
theorem am_us3 : (Tryd.prog.underlying 3).isSome = true := by kernel_rfl
theorem am_un4 : Tryd.prog.underlying 4 = some .bool := by kernel_rfl
theorem am_us4 : (Tryd.prog.underlying 4).isSome = true := by kernel_rfl
theorem am_un5 : Tryd.prog.underlying 5 = some (.int .u8) := by kernel_rfl
theorem am_us5 : (Tryd.prog.underlying 5).isSome = true := by kernel_rfl
theorem am_un6 : Tryd.prog.underlying 6 = some (.int .u8) := by kernel_rfl
theorem am_us6 : (Tryd.prog.underlying 6).isSome = true := by kernel_rfl
theorem am_un9 : Tryd.prog.underlying 9 = some .string := by kernel_rfl
theorem am_us9 : (Tryd.prog.underlying 9).isSome = true := by kernel_rfl
theorem am_un10 : Tryd.prog.underlying 10 = some .string := by kernel_rfl
theorem am_us10 : (Tryd.prog.underlying 10).isSome = true := by kernel_rfl
theorem am_un11 : Tryd.prog.underlying 11 = some .string := by kernel_rfl
theorem am_us11 : (Tryd.prog.underlying 11).isSome = true := by kernel_rfl
theorem am_un12 : Tryd.prog.underlying 12 = some (.int .u64) := by kernel_rfl
theorem am_us12 : (Tryd.prog.underlying 12).isSome = true := by kernel_rfl
theorem am_un21 : Tryd.prog.underlying 21 = some (.int .i32) := by kernel_rfl
theorem am_us21 : (Tryd.prog.underlying 21).isSome = true := by kernel_rfl
theorem am_un26 : Tryd.prog.underlying 26 = some (.int .i64) := by kernel_rfl
theorem am_us26 : (Tryd.prog.underlying 26).isSome = true := by kernel_rfl
theorem am_un33 : Tryd.prog.underlying 33 = some (.int .u32) := by kernel_rfl
theorem am_us33 : (Tryd.prog.underlying 33).isSome = true := by kernel_rfl
theorem am_eq46 : EqT Tryd.prog 46 [(0, 9), (1, 9), (2, 3), (3, 3)] := ⟨⟨_, (by kernel_rfl : Tryd.prog.underlying 46 = some (.struct (Tryd.prog.fieldsOf 46))), by kernel_rfl, by kernel_rfl⟩, by kernel_rfl, by kernel_rfl⟩
theorem am_sq46 (a0 b0 : ByteArray) (a1 b1 : ByteArray) (a2 b2 : Int) (a3 b3 : Int) : eqG Tryd.prog [.lit (.string a0), .lit (.string a1), .lit (.int .i64 a2), .lit (.int .i64 a3)] [.lit (.string b0), .lit (.string b1), .lit (.int .i64 b2), .lit (.int .i64 b3)] [(0, 9), (1, 9), (2, 3), (3, 3)] = some (decide (a0 = b0) && (decide (a1 = b1) && (decide (a2 = b2) && (decide (a3 = b3) && true)))) := by simp [eqG, scEq, am_ag3, am_un3, am_ag9, am_un9]
theorem am_eq57 : EqT Tryd.prog 57 [(0, 3), (1, 9)] := ⟨⟨_, (by kernel_rfl : Tryd.prog.underlying 57 = some (.struct (Tryd.prog.fieldsOf 57))), by kernel_rfl, by kernel_rfl⟩, by kernel_rfl, by kernel_rfl⟩
theorem am_sq57 (a0 b0 : Int) (a1 b1 : ByteArray) : eqG Tryd.prog [.lit (.int .i64 a0), .lit (.string a1)] [.lit (.int .i64 b0), .lit (.string b1)] [(0, 3), (1, 9)] = some (decide (a0 = b0) && (decide (a1 = b1) && true)) := by simp [eqG, scEq, am_ag3, am_un3, am_ag9, am_un9]
theorem am_eq65 : EqT Tryd.prog 65 [(0, 3), (1, 3)] := ⟨⟨_, (by kernel_rfl : Tryd.prog.underlying 65 = some (.struct (Tryd.prog.fieldsOf 65))), by kernel_rfl, by kernel_rfl⟩, by kernel_rfl, by kernel_rfl⟩
theorem am_sq65 (a0 b0 : Int) (a1 b1 : Int) : eqG Tryd.prog [.lit (.int .i64 a0), .lit (.int .i64 a1)] [.lit (.int .i64 b0), .lit (.int .i64 b1)] [(0, 3), (1, 3)] = some (decide (a0 = b0) && (decide (a1 = b1) && true)) := by simp [eqG, scEq, am_ag3, am_un3]
theorem am_eq102 : EqT Tryd.prog 102 [(0, 3), (1, 3)] := ⟨⟨_, (by kernel_rfl : Tryd.prog.underlying 102 = some (.struct (Tryd.prog.fieldsOf 102))), by kernel_rfl, by kernel_rfl⟩, by kernel_rfl, by kernel_rfl⟩
theorem am_sq102 (a0 b0 : Int) (a1 b1 : Int) : eqG Tryd.prog [.lit (.int .i64 a0), .lit (.int .i64 a1)] [.lit (.int .i64 b0), .lit (.int .i64 b1)] [(0, 3), (1, 3)] = some (decide (a0 = b0) && (decide (a1 = b1) && true)) := by simp [eqG, scEq, am_ag3, am_un3]
theorem am_un126 : Tryd.prog.underlying 126 = some (.int .u64) := by kernel_rfl
theorem am_us126 : (Tryd.prog.underlying 126).isSome = true := by kernel_rfl
theorem am_eq130 : EqT Tryd.prog 130 [(0, 3), (1, 5)] := ⟨⟨_, (by kernel_rfl : Tryd.prog.underlying 130 = some (.struct (Tryd.prog.fieldsOf 130))), by kernel_rfl, by kernel_rfl⟩, by kernel_rfl, by kernel_rfl⟩
theorem am_sq130 (a0 b0 : Int) (a1 b1 : Int) : eqG Tryd.prog [.lit (.int .i64 a0), .lit (.int .u8 a1)] [.lit (.int .i64 b0), .lit (.int .u8 b1)] [(0, 3), (1, 5)] = some (decide (a0 = b0) && (decide (a1 = b1) && true)) := by simp [eqG, scEq, am_ag3, am_un3, am_ag5, am_un5]
theorem am_un132 : Tryd.prog.underlying 132 = some (.int .u64) := by kernel_rfl
theorem am_us132 : (Tryd.prog.underlying 132).isSome = true := by kernel_rfl
theorem am_eq152 : EqT Tryd.prog 152 [(0, 3), (1, 3), (2, 3)] := ⟨⟨_, (by kernel_rfl : Tryd.prog.underlying 152 = some (.struct (Tryd.prog.fieldsOf 152))), by kernel_rfl, by kernel_rfl⟩, by kernel_rfl, by kernel_rfl⟩
theorem am_sq152 (a0 b0 : Int) (a1 b1 : Int) (a2 b2 : Int) : eqG Tryd.prog [.lit (.int .i64 a0), .lit (.int .i64 a1), .lit (.int .i64 a2)] [.lit (.int .i64 b0), .lit (.int .i64 b1), .lit (.int .i64 b2)] [(0, 3), (1, 3), (2, 3)] = some (decide (a0 = b0) && (decide (a1 = b1) && (decide (a2 = b2) && true))) := by simp [eqG, scEq, am_ag3, am_un3]
theorem am_un155 : Tryd.prog.underlying 155 = some (.int .i64) := by kernel_rfl
theorem am_us155 : (Tryd.prog.underlying 155).isSome = true := by kernel_rfl
theorem am_eq172 : EqT Tryd.prog 172 [(0, 5), (1, 5)] := ⟨⟨_, (by kernel_rfl : Tryd.prog.underlying 172 = some (.struct (Tryd.prog.fieldsOf 172))), by kernel_rfl, by kernel_rfl⟩, by kernel_rfl, by kernel_rfl⟩
theorem am_sq172 (a0 b0 : Int) (a1 b1 : Int) : eqG Tryd.prog [.lit (.int .u8 a0), .lit (.int .u8 a1)] [.lit (.int .u8 b0), .lit (.int .u8 b1)] [(0, 5), (1, 5)] = some (decide (a0 = b0) && (decide (a1 = b1) && true)) := by simp [eqG, scEq, am_ag5, am_un5]
theorem am_eq177 : EqT Tryd.prog 177 [(0, 9)] := ⟨⟨_, (by kernel_rfl : Tryd.prog.underlying 177 = some (.struct (Tryd.prog.fieldsOf 177))), by kernel_rfl, by kernel_rfl⟩, by kernel_rfl, by kernel_rfl⟩
theorem am_sq177 (a0 b0 : ByteArray) : eqG Tryd.prog [.lit (.string a0)] [.lit (.string b0)] [(0, 9)] = some (decide (a0 = b0) && true) := by simp [eqG, scEq, am_ag9, am_un9]
theorem am_un183 : Tryd.prog.underlying 183 = some (.int .u8) := by kernel_rfl
theorem am_us183 : (Tryd.prog.underlying 183).isSome = true := by kernel_rfl
theorem am_un184 : Tryd.prog.underlying 184 = some (.int .u8) := by kernel_rfl
theorem am_us184 : (Tryd.prog.underlying 184).isSome = true := by kernel_rfl
theorem am_un186 : Tryd.prog.underlying 186 = some (.int .i32) := by kernel_rfl
theorem am_us186 : (Tryd.prog.underlying 186).isSome = true := by kernel_rfl
theorem am_un187 : Tryd.prog.underlying 187 = some (.int .i32) := by kernel_rfl
theorem am_us187 : (Tryd.prog.underlying 187).isSome = true := by kernel_rfl
end Go.Proofs.YtnbjmckhongidaaDoor
