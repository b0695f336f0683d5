/-
  More closed facts on the types of the program.
  Conditions: none.
-/
import Derived.Test.YtdegjlhcchimbaaDoorAmEq
import Derived.Test.YtdegjlhcchimbaaDoorAmFacts
namespace Go.Proofs.YtdegjlhcchimbaaDoor
open Go Go.AM
set_option linter.unusedSimpArgs false
theorem am_un2 : Tryd.prog.underlying 2 = some (.int .i64) := by kernel_rfl
theorem am_us2 : (Tryd.prog.underlying 2).isSome = true := by kernel_rfl
theorem am_un3 : Tryd.prog.underlying 3 = some (.int .i64) := by kernel_rfl
theorem am_us3 : (Tryd.prog.underlying 3).isSome = true := by kernel_rfl
theorem am_un4 : Tryd.prog.underlying 4 = some .bool := by kernel_rfl
theorem am_us4 : (Tryd.prog.underlying 4).isSome = true := by kernel_rfl
theorem am_un5 : Tryd.prog.underlying 5 = some (.int .u8) := by kernel_rfl
theorem am_us5 : (Tryd.prog.underlying 5).isSome = true := by kernel_rfl
theorem am_un6 : Tryd.prog.underlying 6 = some (.int .u8) := by kernel_rfl
theorem am_us6 : (Tryd.prog.underlying 6).isSome = true := by kernel_rfl
theorem am_un9 : Tryd.prog.underlying 9 = some .string := by kernel_rfl
theorem am_us9 : (Tryd.prog.underlying 9).isSome = true := by kernel_rfl
theorem am_un10 : Tryd.prog.underlying 10 = some .string := by kernel_rfl
theorem am_us10 : (Tryd.prog.underlying 10).isSome = true := by kernel_rfl
theorem am_un11 : Tryd.prog.underlying 11 = some .string := by kernel_rfl
theorem am_us11 : (Tryd.prog.underlying 11).isSome = true := by kernel_rfl
theorem am_un12 : Tryd.prog.underlying 12 = some (.int .u64) := by kernel_rfl
theorem am_us12 : (Tryd.prog.underlying 12).isSome = true := by kernel_rfl
theorem am_un21 : Tryd.prog.underlying 21 = some (.int .i32) := by kernel_rfl
theorem am_us21 : (Tryd.prog.underlying 21).isSome = true := by kernel_rfl
theorem am_eq24 : EqT Tryd.prog 24 [(0, 3), (1, 3), (2, 3)] := ⟨⟨_, (by kernel_rfl : Tryd.prog.underlying 24 = some (.struct (Tryd.prog.fieldsOf 24))), by kernel_rfl, by kernel_rfl⟩, by kernel_rfl, by kernel_rfl⟩
theorem am_sq24 (a0 b0 : Int) (a1 b1 : Int) (a2 b2 : Int) : eqG Tryd.prog [.lit (.int .i64 a0), .lit (.int .i64 a1), .lit (.int .i64 a2)] [.lit (.int .i64 b0), .lit (.int .i64 b1), .lit (.int .i64 b2)] [(0, 3), (1, 3), (2, 3)] = some (decide (a0 = b0) && (decide (a1 = b1) && (decide (a2 = b2) && true))) := by simp [eqG, scEq, am_ag3, am_un3]
theorem am_eq26 : EqT Tryd.prog 26 [(0, 24), (3, 24)] := ⟨⟨_, (by kernel_rfl : Tryd.prog.underlying 26 = some (.struct (Tryd.prog.fieldsOf 26))), by kernel_rfl, by kernel_rfl⟩, by kernel_rfl, by kernel_rfl⟩
theorem am_un30 : Tryd.prog.underlying 30 = some (.int .i64) := by kernel_rfl
theorem am_us30 : (Tryd.prog.underlying 30).isSome = true := by kernel_rfl
theorem am_eq39 : EqT Tryd.prog 39 [(0, 3), (1, 3)] := ⟨⟨_, (by kernel_rfl : Tryd.prog.underlying 39 = some (.struct (Tryd.prog.fieldsOf 39))), by kernel_rfl, by kernel_rfl⟩, by kernel_rfl, by kernel_rfl⟩
theorem am_sq39 (a0 b0 : Int) (a1 b1 : Int) : eqG Tryd.prog [.lit (.int .i64 a0), .lit (.int .i64 a1)] [.lit (.int .i64 b0), .lit (.int .i64 b1)] [(0, 3), (1, 3)] = some (decide (a0 = b0) && (decide (a1 = b1) && true)) := by simp [eqG, scEq, am_ag3, am_un3]
theorem am_un87 : Tryd.prog.underlying 87 = some (.int .u64) := by kernel_rfl
theorem am_us87 : (Tryd.prog.underlying 87).isSome = true := by kernel_rfl
theorem am_un96 : Tryd.prog.underlying 96 = some (.int .i64) := by kernel_rfl
theorem am_us96 : (Tryd.prog.underlying 96).isSome = true := by kernel_rfl
theorem am_un104 : Tryd.prog.underlying 104 = some (.int .u32) := by kernel_rfl
theorem am_us104 : (Tryd.prog.underlying 104).isSome = true := by kernel_rfl
theorem am_un106 : Tryd.prog.underlying 106 = some (.int .u64) := by kernel_rfl
theorem am_us106 : (Tryd.prog.underlying 106).isSome = true := by kernel_rfl
theorem am_un109 : Tryd.prog.underlying 109 = some (.int .u64) := by kernel_rfl
theorem am_us109 : (Tryd.prog.underlying 109).isSome = true := by kernel_rfl
theorem am_un134 : Tryd.prog.underlying 134 = some (.int .u8) := by kernel_rfl
theorem am_us134 : (Tryd.prog.underlying 134).isSome = true := by kernel_rfl
theorem am_un135 : Tryd.prog.underlying 135 = some (.int .u8) := by kernel_rfl
theorem am_us135 : (Tryd.prog.underlying 135).isSome = true := by kernel_rfl
theorem am_un138 : Tryd.prog.underlying 138 = some (.int .i32) := by kernel_rfl
theorem am_us138 : (Tryd.prog.underlying 138).isSome = true := by kernel_rfl
theorem am_un139 : Tryd.prog.underlying 139 = some (.int .i32) := by kernel_rfl
theorem am_us139 : (Tryd.prog.underlying 139).isSome = true := by kernel_rfl
end Go.Proofs.YtdegjlhcchimbaaDoor
