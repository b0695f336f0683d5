/-
  More closed facts on the types of the program.
  Conditions: none.
-/
import Derived.Test.YtnomiafjeiijkaaDoorAmEq
import Derived.Test.YtnomiafjeiijkaaDoorAmFacts
namespace Go.Proofs.YtnomiafjeiijkaaDoor
open Go Go.AM
set_option linter.unusedSimpArgs false
theorem am_un2 : Tryd.prog.underlying 2 = some (.int .i64) := by kernel_rfl
theorem am_us2 : (Tryd.prog.underlying 2).isSome = true := by kernel_rfl
theorem am_un3 : Tryd.prog.underlying 3 = some (.int .i64) := by kernel_rfl
theorem am_us3 : (Tryd.prog.underlying 3).isSome = true := by kernel_rfl
theorem am_un4 : Tryd.prog.underlying 4 = some .bool := by kernel_rfl
theorem am_us4 : (Tryd.prog.underlying 4).isSome = true := by kernel_rfl
theorem am_un5 : Tryd.prog.underlying 5 = some (.int .u8) := by kernel_rfl
theorem am_us5 : (Tryd.prog.underlying 5).isSome = true := by kernel_rfl
theorem am_un6 : Tryd.prog.underlying 6 = some (.int .u8) := by kernel_rfl
theorem am_us6 : (Tryd.prog.underlying 6).isSome = true := by kernel_rfl
theorem am_un9 : Tryd.prog.underlying 9 = some .string := by kernel_rfl
theorem am_us9 : (Tryd.prog.underlying 9).isSome = true := by kernel_rfl
theorem am_un10 : Tryd.prog.underlying 10 = some .string := by kernel_rfl
theorem am_us10 : (Tryd.prog.underlying 10).isSome = true := by kernel_rfl
theorem am_un11 : Tryd.prog.underlying 11 = some .string := by kernel_rfl
theorem am_us11 : (Tryd.prog.underlying 11).isSome = true := by kernel_rfl
theorem am_un12 : Tryd.prog.underlying 12 = some (.int .u64) := by kernel_rfl
theorem am_us12 : (Tryd.prog.underlying 12).isSome = true := by kernel_rfl
theorem am_un21 : Tryd.prog.underlying 21 = some (.int .i32) := by kernel_rfl
theorem am_us21 : (Tryd.prog.underlying 21).isSome = true := by kernel_rfl
theorem am_eq23 : EqT Tryd.prog 23 [(0, 3), (1, 3), (2, 3)] := ⟨⟨_, (by kernel_rfl : Tryd.prog.underlying 23 = some (.struct (Tryd.prog.fieldsOf 23))), by kernel_rfl, by kernel_rfl⟩, by kernel_rfl, by kernel_rfl⟩
theorem am_sq23 (a0 b0 : Int) (a1 b1 : Int) (a2 b2 : Int) : eqG Tryd.prog [.lit (.int .i64 a0), .lit (.int .i64 a1), .lit (.int .i64 a2)] [.lit (.int .i64 b0), .lit (.int .i64 b1), .lit (.int .i64 b2)] [(0, 3), (1, 3), (2, 3)] = some (decide (a0 = b0) && (decide (a1 = b1) && (decide (a2 = b2) && true))) := by simp [eqG, scEq, am_ag3, am_un3]
theorem am_eq25 : EqT Tryd.prog 25 [(0, 23), (3, 23)] := ⟨⟨_, (by kernel_rfl : Tryd.prog.underlying 25 = some (.struct (Tryd.prog.fieldsOf 25))), by kernel_rfl, by kernel_rfl⟩, by kernel_rfl, by kernel_rfl⟩
theorem am_un31 : Tryd.prog.underlying 31 = some (.int .i64) := by kernel_rfl
theorem am_us31 : (Tryd.prog.underlying 31).isSome = true := by kernel_rfl
theorem am_un43 : Tryd.prog.underlying 43 = some (.int .i16) := by kernel_rfl
theorem am_us43 : (Tryd.prog.underlying 43).isSome = true := by kernel_rfl
theorem am_un55 : Tryd.prog.underlying 55 = some (.int .u16) := by kernel_rfl
theorem am_us55 : (Tryd.prog.underlying 55).isSome = true := by kernel_rfl
theorem am_eq70 : EqT Tryd.prog 70 [(0, 3), (1, 3)] := ⟨⟨_, (by kernel_rfl : Tryd.prog.underlying 70 = some (.struct (Tryd.prog.fieldsOf 70))), by kernel_rfl, by kernel_rfl⟩, by kernel_rfl, by kernel_rfl⟩
theorem am_sq70 (a0 b0 : Int) (a1 b1 : Int) : eqG Tryd.prog [.lit (.int .i64 a0), .lit (.int .i64 a1)] [.lit (.int .i64 b0), .lit (.int .i64 b1)] [(0, 3), (1, 3)] = some (decide (a0 = b0) && (decide (a1 = b1) && true)) := by simp [eqG, scEq, am_ag3, am_un3]
theorem am_un111 : Tryd.prog.underlying 111 = some (.int .u64) := by kernel_rfl
theorem am_us111 : (Tryd.prog.underlying 111).isSome = true := by kernel_rfl
theorem am_un116 : Tryd.prog.underlying 116 = some (.int .u64) := by kernel_rfl
theorem am_us116 : (Tryd.prog.underlying 116).isSome = true := by kernel_rfl
theorem am_un123 : Tryd.prog.underlying 123 = some (.int .i64) := by kernel_rfl
theorem am_us123 : (Tryd.prog.underlying 123).isSome = true := by kernel_rfl
theorem am_un131 : Tryd.prog.underlying 131 = some (.int .u32) := by kernel_rfl
theorem am_us131 : (Tryd.prog.underlying 131).isSome = true := by kernel_rfl
theorem am_un139 : Tryd.prog.underlying 139 = some (.int .u64) := by kernel_rfl
theorem am_us139 : (Tryd.prog.underlying 139).isSome = true := by kernel_rfl
theorem am_eq150 : EqT Tryd.prog 150 [(0, 5), (1, 5)] := ⟨⟨_, (by kernel_rfl : Tryd.prog.underlying 150 = some (.struct (Tryd.prog.fieldsOf 150))), by kernel_rfl, by kernel_rfl⟩, by kernel_rfl, by kernel_rfl⟩
theorem am_sq150 (a0 b0 : Int) (a1 b1 : Int) : eqG Tryd.prog [.lit (.int .u8 a0), .lit (.int .u8 a1)] [.lit (.int .u8 b0), .lit (.int .u8 b1)] [(0, 5), (1, 5)] = some (decide (a0 = b0) && (decide (a1 = b1) && true)) := by simp [eqG, scEq, am_ag5, am_un5]
theorem am_un163 : Tryd.prog.underlying 163 = some (.int .u8) := by kernel_rfl
theorem am_us163 : (Tryd.prog.underlying 163).isSome = true := by kernel_rfl
theorem am_un164 : Tryd.prog.underlying 164 = some (.int .u8) := by kernel_rfl
theorem am_us164 : (Tryd.prog.underlying 164).isSome = true := by kernel_rfl
theorem am_un167 : Tryd.prog.underlying 167 = some (.int .i32) := by kernel_rfl
theorem am_us167 : (Tryd.prog.underlying 167).isSome = true := by kernel_rfl
theorem am_un168 : Tryd.prog.underlying 168 = some (.int .i32) := by kernel_rfl
theorem am_us168 : (Tryd.prog.underlying 168).isSome = true := by kernel_rfl
end Go.Proofs.YtnomiafjeiijkaaDoor
