/-
  Readings of the arguments of laws: changes.
  Conditions: none.
-/
import Derived.Test.YtccddakkegelkaaOpen
import Derived.Test.YtccddakkegelkaaRev1
namespace Go.Proofs.Ytccddakkegelkaa
open Go Go.AM
set_option linter.unusedSimpArgs false
set_option linter.unusedVariables false
set_option maxRecDepth 100000
open Go.ChangeShapes Go.WideShapes Go.RowKit
theorem open_chgs {row : List AV} (h : WT Try.prog 25 row) : ∃ l : List Chg, row = [.sh 2 (l.map findC)] ∧ l.length ≤ 140737488355328 := by
  obtain ⟨rows, rfl, h1, h2⟩ := h.slice_inv am_el25
  obtain ⟨l, rfl, _⟩ := rows_map (f := findC) (q := fun _ => True) (rows := rows) (fun r hr => by
    obtain ⟨r1, r2, rfl, k1, k2⟩ := ((h2 r hr).struct_inv am_ft36).cons_inv
    obtain ⟨r3, r4, rfl, k3, k4⟩ := k2.cons_inv
    obtain rfl := k4.nil_inv
    obtain ⟨a, rfl, _⟩ := k1.int_inv am_un3
    obtain ⟨s, rfl, hs⟩ := open_string k3
    exact ⟨(a, s), rfl, trivial⟩)
  refine ⟨l, by rw [am_cl36], ?_⟩
  rw [am_by36, List.length_map] at h1
  simp only [reachBytes] at h1
  omega
end Go.Proofs.Ytccddakkegelkaa
