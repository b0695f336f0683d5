/-
  slices.Reverse.
  Conditions: none.
-/
import Derived.Test.YtappnbebcjmlbaaQ2
import Derived.Test.YtappnbebcjmlbaaAmLib
import Derived.Ground.SlgnProg
namespace Go.Proofs.Ytappnbebcjmlbaa
open Go Go.AM
set_option linter.unusedSimpArgs false
set_option linter.unusedVariables false
set_option maxRecDepth 100000

open Go.Shelf in
shelf_lay_g SlLaysE0.n35 Slgn 35 at Try 16 as reverseBarLay
theorem reverse_fun (l : List Bar) (hlen : l.length ≤ 1000) : FunR Try.prog 16 [.als 0 0 l.length] [(0, ⟨true, 40, 5, l.map Bar.c, true⟩)] 1 (Ret (.tup []) [(0, ⟨true, 40, 5, l.reverse.map Bar.c, true⟩)]) := by
  have h := reverse_R reverseBarLay (el := 40) (sz := 5) ⟨_, Try.func16, rfl, rfl⟩ (fun w => run_isAgg am_ag40 w) (fun w => run_cells am_in40 am_cl40 w) (by decide) (l.map Bar.c) (by rw [List.length_map]; omega)
  rw [List.length_map] at h
  rw [List.map_reverse]
  exact h
end Go.Proofs.Ytappnbebcjmlbaa
