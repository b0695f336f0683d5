/-
  More closed facts on the types of the program.
  Conditions: none.
-/
import Derived.Test.YtccddakkegelkaaGreatDoorAmEq
import Derived.Test.YtccddakkegelkaaGreatDoorAmFacts
namespace Go.Proofs.YtccddakkegelkaaGreatDoor
open Go Go.AM
set_option linter.unusedSimpArgs false
theorem am_un3 : Tryz.prog.underlying 3 = some (.int .i64) := by kernel_rfl
theorem am_un5 : Tryz.prog.underlying 5 = some (.int .u8) := by kernel_rfl
theorem am_us5 : (Tryz.prog.underlying 5).isSome = true := by kernel_rfl
theorem am_un9 : Tryz.prog.underlying 9 = some .string := by kernel_rfl
end Go.Proofs.YtccddakkegelkaaGreatDoor
