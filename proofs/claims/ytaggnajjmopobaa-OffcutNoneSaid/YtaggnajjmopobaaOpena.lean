/-
  The reading of acts.
  Conditions: none.
-/
import Derived.Test.YtaggnajjmopobaaOpen
import Derived.Test.YtaggnajjmopobaaOf6
namespace Go.Proofs.Ytaggnajjmopobaa
open Go Go.AM
set_option linter.unusedSimpArgs false
set_option linter.unusedVariables false
set_option maxRecDepth 100000
open Go.ChangeShapes Go.WideShapes Go.RowKit
theorem open_acts {row : List AV} (h : WT Try.prog 22 row) : ∃ l : List Act, row = [.sh 4 (l.map Act.c)] ∧ l.length ≤ 140737488355328 ∧ ∀ x ∈ l, x.w := by
  obtain ⟨rows, rfl, h1, h2⟩ := h.slice_inv am_el22
  obtain ⟨l, rfl, hq⟩ := rows_map (f := Act.c) (q := Act.w) (rows := rows) (fun r hr => by
    obtain ⟨r1, q1, rfl, k1, g1⟩ := ((h2 r hr).struct_inv am_ft33).cons_inv
    obtain ⟨r2, q2, rfl, k2, g2⟩ := g1.cons_inv
    obtain ⟨r3, q3, rfl, k3, g3⟩ := g2.cons_inv
    obtain ⟨r4, q4, rfl, k4, g4⟩ := g3.cons_inv
    obtain rfl := g4.nil_inv
    obtain ⟨a, rfl, _⟩ := k1.int_inv am_un3
    obtain ⟨b, rfl, _⟩ := k2.int_inv am_un3
    obtain ⟨c, rfl, _⟩ := k3.int_inv am_un3
    obtain ⟨d, rfl, hd⟩ := open_pieces k4
    exact ⟨⟨a, b, c, d⟩, rfl, hd⟩)
  refine ⟨l, by rw [am_cl33], ?_, hq⟩
  rw [am_by33, List.length_map] at h1
  simp only [reachBytes] at h1
  omega
end Go.Proofs.Ytaggnajjmopobaa
