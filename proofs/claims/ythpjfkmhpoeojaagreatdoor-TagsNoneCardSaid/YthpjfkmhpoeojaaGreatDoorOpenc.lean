/-
  The reading of an act.
  Conditions: none.
-/
import Derived.Test.YthpjfkmhpoeojaaGreatDoorOpena
namespace Go.Proofs.YthpjfkmhpoeojaaGreatDoor
open Go Go.AM
set_option linter.unusedSimpArgs false
set_option linter.unusedVariables false
set_option maxRecDepth 100000
open Go.ChangeShapes Go.WideShapes Go.RowKit
theorem open_act1 {row : List AV} (h : WT Tryz.prog 34 row) : ∃ x : Act, row = x.c ∧ x.w := by
  obtain ⟨r1, q1, rfl, k1, g1⟩ := (h.struct_inv am_ft34).cons_inv; obtain ⟨r2, q2, rfl, k2, g2⟩ := g1.cons_inv; obtain ⟨r3, q3, rfl, k3, g3⟩ := g2.cons_inv; obtain ⟨r4, q4, rfl, k4, g4⟩ := g3.cons_inv; obtain ⟨r5, q5, rfl, k5, g5⟩ := g4.cons_inv; obtain ⟨r6, q6, rfl, k6, g6⟩ := g5.cons_inv; obtain rfl := g6.nil_inv; obtain ⟨a, rfl, _⟩ := k1.int_inv am_un3; obtain ⟨b, rfl, _⟩ := k2.int_inv am_un3; obtain ⟨t, rfl, ht⟩ := open_string k3; obtain ⟨u, rfl, hu⟩ := open_buns k4; obtain ⟨c, rfl, hc, _⟩ := open_bars k5; obtain ⟨d, rfl, hd, _⟩ := open_bars k6; exact ⟨⟨a, b, t, u, c, d⟩, rfl, ht, hu, hc, hd⟩
end Go.Proofs.YthpjfkmhpoeojaaGreatDoor
