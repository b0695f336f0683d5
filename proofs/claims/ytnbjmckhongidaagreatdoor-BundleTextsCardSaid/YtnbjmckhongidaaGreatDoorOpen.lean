/-
  Readings of the arguments of laws.
  Conditions: none.
-/
import Derived.Test.YtnbjmckhongidaaGreatDoorAmFactl
import Derived.Test.YtnbjmckhongidaaGreatDoorAmLaw
import Derived.Test.YtnbjmckhongidaaGreatDoorAmStr
import Derived.Test.YtnbjmckhongidaaGreatDoorSteel
namespace Go.Proofs.YtnbjmckhongidaaGreatDoor
open Go Go.AM
set_option linter.unusedSimpArgs false
set_option linter.unusedVariables false
set_option maxRecDepth 100000
open Go.ChangeShapes Go.WideShapes Go.RowKit
theorem open_string {row : List AV} (h : WT Tryz.prog 9 row) : ∃ s : List UInt8, row = [.lit (str s)] ∧ s.length ≤ 140737488355328 := by
  obtain ⟨s, rfl, hs⟩ := h.string_inv am_un9
  refine ⟨s.data.toList, by rw [str, ← bytes_eta], ?_⟩
  have e : s.data.toList.length = s.size := Array.length_toList
  simp only [reachBytes] at hs
  omega
end Go.Proofs.YtnbjmckhongidaaGreatDoor
