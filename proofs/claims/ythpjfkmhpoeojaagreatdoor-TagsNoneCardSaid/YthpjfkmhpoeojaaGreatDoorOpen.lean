/-
  Readings of the arguments of laws.
  Conditions: none.
-/
import Derived.Test.YthpjfkmhpoeojaaGreatDoorAmFactl
import Derived.Test.YthpjfkmhpoeojaaGreatDoorAmLaw
import Derived.Test.YthpjfkmhpoeojaaGreatDoorAmStr
import Derived.Test.YthpjfkmhpoeojaaGreatDoorSched
namespace Go.Proofs.YthpjfkmhpoeojaaGreatDoor
open Go Go.AM
set_option linter.unusedSimpArgs false
set_option linter.unusedVariables false
set_option maxRecDepth 100000
open Go.ChangeShapes Go.WideShapes Go.RowKit
theorem open_string {row : List AV} (h : WT Tryz.prog 9 row) : ∃ s : List UInt8, row = [.lit (str s)] ∧ s.length ≤ 140737488355328 := by
  obtain ⟨s, rfl, hs⟩ := h.string_inv am_un9; refine ⟨s.data.toList, by rw [str, ← bytes_eta], ?_⟩; have e : s.data.toList.length = s.size := Array.length_toList; simp only [reachBytes] at hs; omega
theorem open_ints {row : List AV} (h : WT Tryz.prog 54 row) : ∃ l : List Int, row = [.sh 1 (l.map intC)] ∧ l.length ≤ 140737488355328 := by
  obtain ⟨rows, rfl, h1, h2⟩ := h.slice_inv am_el54
  obtain ⟨l, rfl, _⟩ := rows_map (f := intC) (q := fun _ => True) (rows := rows) (fun r hr => by
    obtain ⟨a, rfl, _⟩ := (h2 r hr).int_inv am_un3
    exact ⟨a, rfl, trivial⟩)
  refine ⟨l, by rw [am_cl3], ?_⟩; rw [am_by3, List.length_map] at h1; simp only [reachBytes] at h1; omega
theorem open_bars {row : List AV} (h : WT Tryz.prog 32 row) : ∃ l : List Bar, row = [.sh 5 (l.map Bar.c)] ∧ l.length ≤ 140737488355328 ∧ schedW l := by
  obtain ⟨rows, rfl, h1, h2⟩ := h.slice_inv am_el32
  obtain ⟨l, rfl, hq⟩ := rows_map (f := Bar.c) (q := Bar.w) (rows := rows) (fun r hr => by
    obtain ⟨r1, q1, rfl, k1, g1⟩ := ((h2 r hr).struct_inv am_ft56).cons_inv; obtain ⟨r2, q2, rfl, k2, g2⟩ := g1.cons_inv; obtain ⟨r3, q3, rfl, k3, g3⟩ := g2.cons_inv; obtain ⟨r4, q4, rfl, k4, g4⟩ := g3.cons_inv; obtain ⟨r5, q5, rfl, k5, g5⟩ := g4.cons_inv; obtain rfl := g5.nil_inv; obtain ⟨s, rfl, hs⟩ := open_string k1; obtain ⟨a, rfl, _⟩ := k2.int_inv am_un3; obtain ⟨b, rfl, _⟩ := k3.int_inv am_un3; obtain ⟨c, rfl, _⟩ := k4.int_inv am_un3; obtain ⟨d, rfl, hd⟩ := open_ints k5
    exact ⟨⟨s, a, b, c, d⟩, rfl, hs, hd⟩)
  refine ⟨l, by rw [am_cl56], ?_, hq⟩; rw [am_by56, List.length_map] at h1; simp only [reachBytes] at h1; omega
end Go.Proofs.YthpjfkmhpoeojaaGreatDoor
