/-
  Readings of the arguments of laws.
  Conditions: none.
-/
import Derived.Test.YtckahagagfmpbaaAmFactl
import Derived.Test.YtckahagagfmpbaaAmLaw
import Derived.Test.YtckahagagfmpbaaAmStr
import Derived.Test.YtckahagagfmpbaaBase
namespace Go.Proofs.Ytckahagagfmpbaa
open Go Go.AM
set_option linter.unusedSimpArgs false
set_option linter.unusedVariables false
set_option maxRecDepth 100000
open Go.ChangeShapes Go.WideShapes Go.RowKit
theorem open_pieces {row : List AV} (h : WT Try.prog 23 row) : ∃ l : List (Int × Int), row = [.sh 2 (l.map pairC)] ∧ l.length ≤ 140737488355328 := by
  obtain ⟨rows, rfl, h1, h2⟩ := h.slice_inv am_el23
  obtain ⟨l, rfl, _⟩ := rows_map (f := pairC) (q := fun _ => True) (rows := rows) (fun r hr => by
    obtain ⟨r1, r2, rfl, k1, k2⟩ := ((h2 r hr).struct_inv am_ft40).cons_inv
    obtain ⟨r3, r4, rfl, k3, k4⟩ := k2.cons_inv
    obtain rfl := k4.nil_inv
    obtain ⟨a, rfl, _⟩ := k1.int_inv am_un3
    obtain ⟨b, rfl, _⟩ := k3.int_inv am_un3
    exact ⟨(a, b), rfl, trivial⟩)
  refine ⟨l, by rw [am_cl40], ?_⟩
  rw [am_by40, List.length_map] at h1
  simp only [reachBytes] at h1
  omega
theorem open_stocks {row : List AV} (h : WT Try.prog 22 row) : ∃ l : List (Int × Int), row = [.sh 2 (l.map pairC)] ∧ l.length ≤ 140737488355328 := by
  obtain ⟨rows, rfl, h1, h2⟩ := h.slice_inv am_el22
  obtain ⟨l, rfl, _⟩ := rows_map (f := pairC) (q := fun _ => True) (rows := rows) (fun r hr => by
    obtain ⟨r1, r2, rfl, k1, k2⟩ := ((h2 r hr).struct_inv am_ft37).cons_inv
    obtain ⟨r3, r4, rfl, k3, k4⟩ := k2.cons_inv
    obtain rfl := k4.nil_inv
    obtain ⟨a, rfl, _⟩ := k1.int_inv am_un3
    obtain ⟨b, rfl, _⟩ := k3.int_inv am_un3
    exact ⟨(a, b), rfl, trivial⟩)
  refine ⟨l, by rw [am_cl37], ?_⟩
  rw [am_by37, List.length_map] at h1
  simp only [reachBytes] at h1
  omega
end Go.Proofs.Ytckahagagfmpbaa
