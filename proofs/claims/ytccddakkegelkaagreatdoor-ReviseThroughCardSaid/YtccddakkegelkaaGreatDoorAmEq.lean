/-
  The abstract machine, continued: two structs of plain cells held against each other.
  Conditions: none; generic over the program.
-/
import Derived.Test.YtccddakkegelkaaGreatDoorAmMem
import Derived.Laws.StructEq
namespace Go.AM
set_option linter.unusedVariables false
set_option linter.unusedSimpArgs false
set_option linter.unusedSectionVars false

/-- Two cells of a plain type, held against each other. -/
def scEq (P : Program) (t : TypeId) : Value → Value → Option Bool
  | .int k a, .int k' b => match P.underlying t with
    | some (.int _) => if k = k' then some (decide (a = b)) else none
    | _ => none
  | .bool a, .bool b => match P.underlying t with
    | some .bool => some (a == b)
    | _ => none
  | .string a, .string b => match P.underlying t with
    | some .string => some (decide (a = b))
    | _ => none
  | _, _ => none

def eqF (P : Program) (xs ys : Array Value) : List Field → Option Bool
  | [] => some true
  | f :: fs => if f.name = "_" ∨ isAggT P f.type ≠ some false then none else
    match xs[f.offset]?, ys[f.offset]? with
    | some a, some b => match scEq P f.type a b, eqF P xs ys fs with
      | some r, some s => some (r && s)
      | _, _ => none
    | _, _ => none

/-- All that the program says of the type 't', whose fields are 'fs'. -/
structure EqT (P : Program) (t : TypeId) (fs : List (Nat × Nat)) : Prop where
  u : ∃ fa : Array Field, P.underlying t = some (.struct fa) ∧ (fa.toList.map fun f => (f.offset, f.type)) = fs ∧ (fa.toList.all fun f => f.name != "_") = true
  p : P.stoodInHeld t = false
  m : P.eqGuardType P.depth t = false

def eqG (P : Program) (xs ys : List AV) : List (Nat × Nat) → Option Bool
  | [] => some true
  | f :: fs => if isAggT P f.2 ≠ some false then none else
    match xs[f.1]?, ys[f.1]? with
    | some (.lit a), some (.lit b) => match scEq P f.2 a b, eqG P xs ys fs with
      | some r, some s => some (r && s)
      | _, _ => none
    | _, _ => none

section rules
variable {P : Program} {s : List (Nat × AV)} {b : List (Nat × Obj)} {n t e id : Nat} {d ty : Nat} {x y : Operand} {xs ys : List AV} {vs ws : List Value} {fs : List (Nat × Nat)} {r : Bool}
end rules
end Go.AM
