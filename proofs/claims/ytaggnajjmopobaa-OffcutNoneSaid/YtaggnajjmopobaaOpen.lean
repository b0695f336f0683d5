/-
  Readings of the arguments of laws.
  Conditions: none.
-/
import Derived.Test.YtaggnajjmopobaaAmFactl
import Derived.Test.YtaggnajjmopobaaAmLaw
import Derived.Test.YtaggnajjmopobaaAmStr
import Derived.Test.YtaggnajjmopobaaBase
namespace Go.Proofs.Ytaggnajjmopobaa
open Go Go.AM
set_option linter.unusedSimpArgs false
set_option linter.unusedVariables false
set_option maxRecDepth 100000
open Go.ChangeShapes Go.WideShapes Go.RowKit
theorem open_pieces {row : List AV} (h : WT Try.prog 28 row) : ∃ l : List (Int × Int), row = [.sh 2 (l.map pairC)] ∧ l.length ≤ 140737488355328 := by
  obtain ⟨rows, rfl, h1, h2⟩ := h.slice_inv am_el28
  obtain ⟨l, rfl, _⟩ := rows_map (f := pairC) (q := fun _ => True) (rows := rows) (fun r hr => by
    obtain ⟨r1, r2, rfl, k1, k2⟩ := ((h2 r hr).struct_inv am_ft52).cons_inv
    obtain ⟨r3, r4, rfl, k3, k4⟩ := k2.cons_inv
    obtain rfl := k4.nil_inv
    obtain ⟨a, rfl, _⟩ := k1.int_inv am_un3
    obtain ⟨b, rfl, _⟩ := k3.int_inv am_un3
    exact ⟨(a, b), rfl, trivial⟩)
  refine ⟨l, by rw [am_cl52], ?_⟩
  rw [am_by52, List.length_map] at h1
  simp only [reachBytes] at h1
  omega
end Go.Proofs.Ytaggnajjmopobaa
