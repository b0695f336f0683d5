/-
  Readings of the arguments of laws: patterns.
  Conditions: none.
-/
import Derived.Test.YtappnbebcjmlbaaOpen
import Derived.Test.YtappnbebcjmlbaaYl1
namespace Go.Proofs.Ytappnbebcjmlbaa
open Go Go.AM
set_option linter.unusedSimpArgs false
set_option linter.unusedVariables false
set_option maxRecDepth 100000
open Go.ChangeShapes Go.WideShapes Go.RowKit
theorem open_pats {row : List AV} (h : WT Try.prog 47 row) : ∃ l : List Pat, row = [.sh 3 (l.map patC)] ∧ l.length ≤ 140737488355328 := by
  obtain ⟨rows, rfl, h1, h2⟩ := h.slice_inv am_el47
  obtain ⟨l, rfl, _⟩ := rows_map (f := patC) (q := fun _ => True) (rows := rows) (fun r hr => by
    obtain ⟨r1, r2, rfl, k1, k2⟩ := ((h2 r hr).struct_inv am_ft50).cons_inv
    obtain ⟨r3, r4, rfl, k3, k4⟩ := k2.cons_inv
    obtain ⟨r5, r6, rfl, k5, k6⟩ := k4.cons_inv
    obtain rfl := k6.nil_inv
    obtain ⟨a, rfl, _⟩ := k1.int_inv am_un3
    obtain ⟨q, rfl, _⟩ := open_ints k3
    obtain ⟨b, rfl, _⟩ := k5.int_inv am_un3
    exact ⟨(a, q, b), rfl, trivial⟩)
  refine ⟨l, by rw [am_cl50], ?_⟩
  rw [am_by50, List.length_map] at h1
  simp only [reachBytes] at h1
  omega
end Go.Proofs.Ytappnbebcjmlbaa
