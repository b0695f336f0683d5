/-
  Chapter 23: Same, walked.
  Conditions: none.
-/
import Derived.Test.YthiockdlhehhoaaDoorDm2
namespace Go.Proofs.YthiockdlhehhoaaDoor
open Go Go.AM
set_option linter.unusedSimpArgs false
set_option linter.unusedVariables false
set_option maxRecDepth 100000
set_option maxHeartbeats 1000000

instance : DecidableEq Bx := fun a b => decidable_of_iff (a.lx = b.lx ∧ a.ly = b.ly ∧ a.lz = b.lz ∧ a.hx = b.hx ∧ a.hy = b.hy ∧ a.hz = b.hz) (by cases a; cases b; simp)
instance : DecidableEq Dem := fun a b => decidable_of_iff (a.name = b.name ∧ a.zone = b.zone ∧ a.steps = b.steps) (by cases a; cases b; simp)
end Go.Proofs.YthiockdlhehhoaaDoor
