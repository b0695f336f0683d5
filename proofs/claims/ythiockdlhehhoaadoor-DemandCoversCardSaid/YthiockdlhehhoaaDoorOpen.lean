/-
  Readings of the arguments of laws.
  Conditions: none.
-/
import Derived.Test.YthiockdlhehhoaaDoorAmFactl
import Derived.Test.YthiockdlhehhoaaDoorAmLaw
import Derived.Test.YthiockdlhehhoaaDoorAmStr
import Derived.Test.YthiockdlhehhoaaDoorBase
namespace Go.Proofs.YthiockdlhehhoaaDoor
open Go Go.AM
set_option linter.unusedSimpArgs false
set_option linter.unusedVariables false
set_option maxRecDepth 100000
open Go.ChangeShapes Go.WideShapes Go.RowKit
theorem open_string {row : List AV} (h : WT Tryd.prog 9 row) : ∃ s : List UInt8, row = [.lit (str s)] ∧ s.length ≤ 140737488355328 := by
  obtain ⟨s, rfl, hs⟩ := h.string_inv am_un9
  refine ⟨s.data.toList, by rw [str, ← bytes_eta], ?_⟩
  have e : s.data.toList.length = s.size := Array.length_toList
  simp only [reachBytes] at hs
  omega
theorem open_steps {row : List AV} (h : WT Tryd.prog 31 row) : ∃ l : List (Int × Int), row = [.sh 2 (l.map pairC)] ∧ l.length ≤ 140737488355328 := by
  obtain ⟨rows, rfl, h1, h2⟩ := h.slice_inv am_el31
  obtain ⟨l, rfl, _⟩ := rows_map (f := pairC) (q := fun _ => True) (rows := rows) (fun r hr => by
    obtain ⟨r1, r2, rfl, k1, k2⟩ := ((h2 r hr).struct_inv am_ft40).cons_inv
    obtain ⟨r3, r4, rfl, k3, k4⟩ := k2.cons_inv
    obtain rfl := k4.nil_inv
    obtain ⟨a, rfl, _⟩ := k1.int_inv am_un3
    obtain ⟨b, rfl, _⟩ := k3.int_inv am_un3
    exact ⟨(a, b), rfl, trivial⟩)
  refine ⟨l, by rw [am_cl40], ?_⟩
  rw [am_by40, List.length_map] at h1
  simp only [reachBytes] at h1
  omega
end Go.Proofs.YthiockdlhehhoaaDoor
