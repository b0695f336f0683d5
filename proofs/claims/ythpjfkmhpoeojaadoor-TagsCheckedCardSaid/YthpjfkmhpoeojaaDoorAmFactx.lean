/-
  More closed facts on the types of the program.
  Conditions: none.
-/
import Derived.Test.YthpjfkmhpoeojaaDoorAmEq
import Derived.Test.YthpjfkmhpoeojaaDoorAmFacts
namespace Go.Proofs.YthpjfkmhpoeojaaDoor
open Go Go.AM
set_option linter.unusedSimpArgs false
theorem am_un2 : Tryd.prog.underlying 2 = some (.int .i64) := by kernel_rfl
theorem am_us2 : (Tryd.prog.underlying 2).isSome = true := by kernel_rfl
theorem am_un3 : Tryd.prog.underlying 3 = some (.int .i64) := by kernel_rfl
theorem am_us3 : (Tryd.prog.underlying 3).isSome = true := by kernel_rfl
theorem am_un4 : Tryd.prog.underlying 4 = some .bool := by kernel_rfl
theorem am_us4 : (Tryd.prog.underlying 4).isSome = true := by kernel_rfl
theorem am_un5 : Tryd.prog.underlying 5 = some (.int .u8) := by kernel_rfl
theorem am_us5 : (Tryd.prog.underlying 5).isSome = true := by kernel_rfl
theorem am_un6 : Tryd.prog.underlying 6 = some (.int .u8) := by kernel_rfl
theorem am_us6 : (Tryd.prog.underlying 6).isSome = true := by kernel_rfl
theorem am_un9 : Tryd.prog.underlying 9 = some .string := by kernel_rfl
theorem am_us9 : (Tryd.prog.underlying 9).isSome = true := by kernel_rfl
theorem am_un10 : Tryd.prog.underlying 10 = some .string := by kernel_rfl
theorem am_us10 : (Tryd.prog.underlying 10).isSome = true := by kernel_rfl
theorem am_un11 : Tryd.prog.underlying 11 = some .string := by kernel_rfl
theorem am_us11 : (Tryd.prog.underlying 11).isSome = true := by kernel_rfl
theorem am_un12 : Tryd.prog.underlying 12 = some (.int .u64) := by kernel_rfl
theorem am_us12 : (Tryd.prog.underlying 12).isSome = true := by kernel_rfl
theorem am_un21 : Tryd.prog.underlying 21 = some (.int .i32) := by kernel_rfl
theorem am_us21 : (Tryd.prog.underlying 21).isSome = true := by kernel_rfl
theorem am_un33 : Tryd.prog.underlying 33 = some (.int .i64) := by kernel_rfl
theorem am_us33 : (Tryd.prog.underlying 33).isSome = true := by kernel_rfl
theorem am_eq38 : EqT Tryd.prog 38 [(0, 9), (1, 9), (2, 3), (3, 3)] := ⟨⟨_, (by kernel_rfl : Tryd.prog.underlying 38 = some (.struct (Tryd.prog.fieldsOf 38))), by kernel_rfl, by kernel_rfl⟩, by kernel_rfl, by kernel_rfl⟩
theorem am_sq38 (a0 b0 : ByteArray) (a1 b1 : ByteArray) (a2 b2 : Int) (a3 b3 : Int) : eqG Tryd.prog [.lit (.string a0), .lit (.string a1), .lit (.int .i64 a2), .lit (.int .i64 a3)] [.lit (.string b0), .lit (.string b1), .lit (.int .i64 b2), .lit (.int .i64 b3)] [(0, 9), (1, 9), (2, 3), (3, 3)] = some (decide (a0 = b0) && (decide (a1 = b1) && (decide (a2 = b2) && (decide (a3 = b3) && true)))) := by simp [eqG, scEq, am_ag3, am_un3, am_ag9, am_un9]
theorem am_eq96 : EqT Tryd.prog 96 [(0, 3), (1, 9)] := ⟨⟨_, (by kernel_rfl : Tryd.prog.underlying 96 = some (.struct (Tryd.prog.fieldsOf 96))), by kernel_rfl, by kernel_rfl⟩, by kernel_rfl, by kernel_rfl⟩
theorem am_sq96 (a0 b0 : Int) (a1 b1 : ByteArray) : eqG Tryd.prog [.lit (.int .i64 a0), .lit (.string a1)] [.lit (.int .i64 b0), .lit (.string b1)] [(0, 3), (1, 9)] = some (decide (a0 = b0) && (decide (a1 = b1) && true)) := by simp [eqG, scEq, am_ag3, am_un3, am_ag9, am_un9]
theorem am_un102 : Tryd.prog.underlying 102 = some (.int .u64) := by kernel_rfl
theorem am_us102 : (Tryd.prog.underlying 102).isSome = true := by kernel_rfl
theorem am_un114 : Tryd.prog.underlying 114 = some (.int .i64) := by kernel_rfl
theorem am_us114 : (Tryd.prog.underlying 114).isSome = true := by kernel_rfl
theorem am_un122 : Tryd.prog.underlying 122 = some (.int .u32) := by kernel_rfl
theorem am_us122 : (Tryd.prog.underlying 122).isSome = true := by kernel_rfl
theorem am_un124 : Tryd.prog.underlying 124 = some (.int .u64) := by kernel_rfl
theorem am_us124 : (Tryd.prog.underlying 124).isSome = true := by kernel_rfl
theorem am_eq130 : EqT Tryd.prog 130 [(0, 3), (1, 3)] := ⟨⟨_, (by kernel_rfl : Tryd.prog.underlying 130 = some (.struct (Tryd.prog.fieldsOf 130))), by kernel_rfl, by kernel_rfl⟩, by kernel_rfl, by kernel_rfl⟩
theorem am_sq130 (a0 b0 : Int) (a1 b1 : Int) : eqG Tryd.prog [.lit (.int .i64 a0), .lit (.int .i64 a1)] [.lit (.int .i64 b0), .lit (.int .i64 b1)] [(0, 3), (1, 3)] = some (decide (a0 = b0) && (decide (a1 = b1) && true)) := by simp [eqG, scEq, am_ag3, am_un3]
theorem am_un136 : Tryd.prog.underlying 136 = some (.int .u64) := by kernel_rfl
theorem am_us136 : (Tryd.prog.underlying 136).isSome = true := by kernel_rfl
theorem am_eq145 : EqT Tryd.prog 145 [(0, 3), (1, 5)] := ⟨⟨_, (by kernel_rfl : Tryd.prog.underlying 145 = some (.struct (Tryd.prog.fieldsOf 145))), by kernel_rfl, by kernel_rfl⟩, by kernel_rfl, by kernel_rfl⟩
theorem am_sq145 (a0 b0 : Int) (a1 b1 : Int) : eqG Tryd.prog [.lit (.int .i64 a0), .lit (.int .u8 a1)] [.lit (.int .i64 b0), .lit (.int .u8 b1)] [(0, 3), (1, 5)] = some (decide (a0 = b0) && (decide (a1 = b1) && true)) := by simp [eqG, scEq, am_ag3, am_un3, am_ag5, am_un5]
theorem am_un172 : Tryd.prog.underlying 172 = some (.int .u8) := by kernel_rfl
theorem am_us172 : (Tryd.prog.underlying 172).isSome = true := by kernel_rfl
theorem am_un173 : Tryd.prog.underlying 173 = some (.int .u8) := by kernel_rfl
theorem am_us173 : (Tryd.prog.underlying 173).isSome = true := by kernel_rfl
theorem am_un176 : Tryd.prog.underlying 176 = some (.int .i32) := by kernel_rfl
theorem am_us176 : (Tryd.prog.underlying 176).isSome = true := by kernel_rfl
theorem am_un177 : Tryd.prog.underlying 177 = some (.int .i32) := by kernel_rfl
theorem am_us177 : (Tryd.prog.underlying 177).isSome = true := by kernel_rfl
end Go.Proofs.YthpjfkmhpoeojaaDoor
