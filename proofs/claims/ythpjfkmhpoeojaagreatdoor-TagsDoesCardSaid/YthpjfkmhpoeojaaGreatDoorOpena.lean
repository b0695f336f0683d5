/-
  Tags: the book and its methods, what they answer.
  Conditions: none.
-/
import Derived.Test.YthpjfkmhpoeojaaGreatDoorOpen
import Derived.Test.YthpjfkmhpoeojaaGreatDoorBd3
import Derived.Test.YthpjfkmhpoeojaaGreatDoorTgh

namespace Go.Proofs.YthpjfkmhpoeojaaGreatDoor
open Go Go.AM
set_option linter.unusedSimpArgs false
set_option linter.unusedVariables false
set_option maxRecDepth 100000
open Go.ChangeShapes Go.WideShapes Go.RowKit
theorem open_buns {row : List AV} (h : WT Tryz.prog 27 row) : ∃ l : List Bundle, row = [.sh 4 (l.map Bundle.c)] ∧ l.length ≤ 140737488355328 := by
  obtain ⟨rows, rfl, h1, h2⟩ := h.slice_inv am_el27
  obtain ⟨l, rfl, hq⟩ := rows_map (f := Bundle.c) (q := Bundle.w) (rows := rows) (fun r hr => by
    obtain ⟨r1, q1, rfl, k1, g1⟩ := ((h2 r hr).struct_inv am_ft53).cons_inv; obtain ⟨r2, q2, rfl, k2, g2⟩ := g1.cons_inv; obtain ⟨r3, q3, rfl, k3, g3⟩ := g2.cons_inv; obtain ⟨r4, q4, rfl, k4, g4⟩ := g3.cons_inv; obtain rfl := g4.nil_inv; obtain ⟨s, rfl, hs⟩ := open_string k1; obtain ⟨t, rfl, ht⟩ := open_string k2; obtain ⟨b, rfl, _⟩ := k3.int_inv am_un3; obtain ⟨c, rfl, _⟩ := k4.int_inv am_un3
    exact ⟨⟨s, t, b, c⟩, rfl, hs, ht⟩)
  refine ⟨l, by rw [am_cl53], ?_⟩; rw [am_by53, List.length_map] at h1; simp only [reachBytes] at h1; omega
end Go.Proofs.YthpjfkmhpoeojaaGreatDoor
namespace Go.Proofs.YthpjfkmhpoeojaaGreatDoor
open Go Go.AM
set_option linter.unusedSimpArgs false
set_option linter.unusedVariables false
set_option maxRecDepth 100000
open Go.ChangeShapes Go.WideShapes Go.RowKit
theorem open_acts {row : List AV} (h : WT Tryz.prog 22 row) : ∃ l : List Act, row = [.sh 6 (l.map Act.c)] ∧ l.length ≤ 140737488355328 ∧ ∀ x ∈ l, x.w := by
  obtain ⟨rows, rfl, h1, h2⟩ := h.slice_inv am_el22
  obtain ⟨l, rfl, hq⟩ := rows_map (f := Act.c) (q := Act.w) (rows := rows) (fun r hr => by
    obtain ⟨r1, q1, rfl, k1, g1⟩ := ((h2 r hr).struct_inv am_ft34).cons_inv; obtain ⟨r2, q2, rfl, k2, g2⟩ := g1.cons_inv; obtain ⟨r3, q3, rfl, k3, g3⟩ := g2.cons_inv; obtain ⟨r4, q4, rfl, k4, g4⟩ := g3.cons_inv; obtain ⟨r5, q5, rfl, k5, g5⟩ := g4.cons_inv; obtain ⟨r6, q6, rfl, k6, g6⟩ := g5.cons_inv; obtain rfl := g6.nil_inv; obtain ⟨a, rfl, _⟩ := k1.int_inv am_un3; obtain ⟨b, rfl, _⟩ := k2.int_inv am_un3; obtain ⟨t, rfl, ht⟩ := open_string k3; obtain ⟨u, rfl, hu⟩ := open_buns k4; obtain ⟨c, rfl, hc, _⟩ := open_bars k5; obtain ⟨d, rfl, hd, _⟩ := open_bars k6
    exact ⟨⟨a, b, t, u, c, d⟩, rfl, ht, hu, hc, hd⟩)
  refine ⟨l, by rw [am_cl34], ?_, hq⟩; rw [am_by34, List.length_map] at h1; simp only [reachBytes] at h1; omega
end Go.Proofs.YthpjfkmhpoeojaaGreatDoor
