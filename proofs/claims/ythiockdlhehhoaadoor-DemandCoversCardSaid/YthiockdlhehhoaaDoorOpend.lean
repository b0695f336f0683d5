/-
  The reading of demands.
  Conditions: none.
-/
import Derived.Test.YthiockdlhehhoaaDoorOpen
import Derived.Test.YthiockdlhehhoaaDoorDm2
namespace Go.Proofs.YthiockdlhehhoaaDoor
open Go Go.AM
set_option linter.unusedSimpArgs false
set_option linter.unusedVariables false
set_option maxRecDepth 100000
open Go.ChangeShapes Go.WideShapes Go.RowKit

theorem open_box {row : List AV} (h : WT Tryd.prog 26 row) : ∃ b : Bx, row = b.c := by
  obtain ⟨r1, q1, rfl, k1, g1⟩ := (h.struct_inv am_ft26).cons_inv
  obtain ⟨r2, q2, rfl, k2, g2⟩ := g1.cons_inv
  obtain rfl := g2.nil_inv
  obtain ⟨a1, b1, rfl, j1, i1⟩ := (k1.struct_inv am_ft24).cons_inv
  obtain ⟨a2, b2, rfl, j2, i2⟩ := i1.cons_inv
  obtain ⟨a3, b3, rfl, j3, i3⟩ := i2.cons_inv
  obtain rfl := i3.nil_inv
  obtain ⟨c1, d1, rfl, l1, m1⟩ := (k2.struct_inv am_ft24).cons_inv
  obtain ⟨c2, d2, rfl, l2, m2⟩ := m1.cons_inv
  obtain ⟨c3, d3, rfl, l3, m3⟩ := m2.cons_inv
  obtain rfl := m3.nil_inv
  obtain ⟨x1, rfl, _⟩ := j1.int_inv am_un3
  obtain ⟨x2, rfl, _⟩ := j2.int_inv am_un3
  obtain ⟨x3, rfl, _⟩ := j3.int_inv am_un3
  obtain ⟨y1, rfl, _⟩ := l1.int_inv am_un3
  obtain ⟨y2, rfl, _⟩ := l2.int_inv am_un3
  obtain ⟨y3, rfl, _⟩ := l3.int_inv am_un3
  exact ⟨⟨x1, x2, x3, y1, y2, y3⟩, rfl⟩
theorem open_dem {row : List AV} (h : WT Tryd.prog 42 row) : ∃ d : Dem, row = d.c ∧ d.w := by
  obtain ⟨r1, q1, rfl, k1, g1⟩ := (h.struct_inv am_ft42).cons_inv
  obtain ⟨r2, q2, rfl, k2, g2⟩ := g1.cons_inv
  obtain ⟨r3, q3, rfl, k3, g3⟩ := g2.cons_inv
  obtain rfl := g3.nil_inv
  obtain ⟨s, rfl, hs⟩ := open_string k1
  obtain ⟨⟨x1, x2, x3, y1, y2, y3⟩, rfl⟩ := open_box k2
  obtain ⟨t, rfl, ht⟩ := open_steps k3
  exact ⟨⟨s, ⟨x1, x2, x3, y1, y2, y3⟩, t⟩, rfl, hs, ht⟩
theorem open_dems {row : List AV} (h : WT Tryd.prog 22 row) : ∃ l : List Dem, row = [.sh 8 (l.map Dem.c)] ∧ l.length ≤ 140737488355328 ∧ demW l := by
  obtain ⟨rows, rfl, h1, h2⟩ := h.slice_inv am_el22
  obtain ⟨l, rfl, hq⟩ := rows_map (f := Dem.c) (q := Dem.w) (rows := rows) (fun r hr => open_dem (h2 r hr))
  refine ⟨l, by rw [am_cl42], ?_, hq⟩
  rw [am_by42, List.length_map] at h1
  simp only [reachBytes] at h1
  omega
end Go.Proofs.YthiockdlhehhoaaDoor
