/-
  The reading of bundles.
  Conditions: none.
-/
import Derived.Test.YtnbjmckhongidaaGreatDoorOpen
import Derived.Test.YtnbjmckhongidaaGreatDoorBd1
namespace Go.Proofs.YtnbjmckhongidaaGreatDoor
open Go Go.AM
set_option linter.unusedSimpArgs false
set_option linter.unusedVariables false
set_option maxRecDepth 100000
open Go.ChangeShapes Go.WideShapes Go.RowKit
theorem open_buns {row : List AV} (h : WT Tryz.prog 22 row) : ∃ l : List Bundle, row = [.sh 4 (l.map Bundle.c)] ∧ l.length ≤ 140737488355328 := by
  obtain ⟨rows, rfl, h1, h2⟩ := h.slice_inv am_el22
  obtain ⟨l, rfl, hq⟩ := rows_map (f := Bundle.c) (q := Bundle.w) (rows := rows) (fun r hr => by
    obtain ⟨r1, q1, rfl, k1, g1⟩ := ((h2 r hr).struct_inv am_ft46).cons_inv
    obtain ⟨r2, q2, rfl, k2, g2⟩ := g1.cons_inv
    obtain ⟨r3, q3, rfl, k3, g3⟩ := g2.cons_inv
    obtain ⟨r4, q4, rfl, k4, g4⟩ := g3.cons_inv
    obtain rfl := g4.nil_inv
    obtain ⟨s, rfl, hs⟩ := open_string k1
    obtain ⟨t, rfl, ht⟩ := open_string k2
    obtain ⟨b, rfl, _⟩ := k3.int_inv am_un3
    obtain ⟨c, rfl, _⟩ := k4.int_inv am_un3
    exact ⟨⟨s, t, b, c⟩, rfl, hs, ht⟩)
  refine ⟨l, by rw [am_cl46], ?_⟩
  rw [am_by46, List.length_map] at h1
  simp only [reachBytes] at h1
  omega
end Go.Proofs.YtnbjmckhongidaaGreatDoor
