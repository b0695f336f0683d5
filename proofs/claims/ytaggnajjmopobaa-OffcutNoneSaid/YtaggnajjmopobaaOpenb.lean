/-
  The reading of an act.
  Conditions: none.
-/
import Derived.Test.YtaggnajjmopobaaOpena
namespace Go.Proofs.Ytaggnajjmopobaa
open Go Go.AM
set_option linter.unusedSimpArgs false
set_option linter.unusedVariables false
set_option maxRecDepth 100000
open Go.ChangeShapes Go.WideShapes Go.RowKit
theorem open_act1 {row : List AV} (h : WT Try.prog 33 row) : ∃ x : Act, row = x.c ∧ x.w := by
  obtain ⟨r1, q1, rfl, k1, g1⟩ := (h.struct_inv am_ft33).cons_inv
  obtain ⟨r2, q2, rfl, k2, g2⟩ := g1.cons_inv
  obtain ⟨r3, q3, rfl, k3, g3⟩ := g2.cons_inv
  obtain ⟨r4, q4, rfl, k4, g4⟩ := g3.cons_inv
  obtain rfl := g4.nil_inv
  obtain ⟨a, rfl, _⟩ := k1.int_inv am_un3
  obtain ⟨b, rfl, _⟩ := k2.int_inv am_un3
  obtain ⟨c, rfl, _⟩ := k3.int_inv am_un3
  obtain ⟨d, rfl, hd⟩ := open_pieces k4
  exact ⟨⟨a, b, c, d⟩, rfl, hd⟩
end Go.Proofs.Ytaggnajjmopobaa
