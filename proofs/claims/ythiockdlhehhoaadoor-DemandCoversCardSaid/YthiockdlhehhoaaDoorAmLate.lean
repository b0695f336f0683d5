/-
  The abstract machine, continued: a region whose order is drawn, with one late store: behind all but operations that make nothing and do not see what is stored into.
  Conditions: none; generic over the program.
-/
import Derived.Test.YthiockdlhehhoaaDoorAmDraw
namespace Go.AM
set_option linter.unusedVariables false
set_option linter.unusedSimpArgs false
set_option linter.unusedSectionVars false
set_option linter.unnecessarySimpa false

/-- The state with an object renewed. -/
def St.over (σ : St) (r : Nat) (o : Obj) : St := { σ with objs := (r, o) :: σ.objs }

section late
variable {P : Program} {l : List Oper} {T : List (List Bool)} {K : Nat}

end late

/-- All that is asked of a region with a late store at 'K', but for the operations' own steps. -/
def drawOkL (l : List Oper) (T : List (List Bool)) (σ : St) (K : Nat) : Bool :=
  chk l T (K + 1) && Nat.ble (K + 1) l.length && (let ds := dstsL (l.take K); disj ds σ.slots && decide ds.Nodup && ds.all (fun d => Nat.blt d σ.nt))

/-- The late store may be carried out in each state that holds what stands before it, and the rest goes on from there. -/
def LateOk (P : Program) (l : List Oper) (T : List (List Bool)) (σ : St) (nx K : Nat) (Q : St → Prop) (rest : List Oper) (R : List Res) : Prop :=
  ∃ oK rest' r0 o0, rest = oK :: rest' ∧ oK.guard = none ∧ σ.next ≤ r0 ∧ (∀ i, i < K → bit T K i = false → find (objsM ((T[i]?).getD []) R) r0 = none ∧ ∀ q, R[i]? = some q → q.new = []) ∧
    (∀ bs : List Bool, (∀ j, bit T K j = true → bs[j]? = some true) → Writer P (stD σ nx bs R) oK ((stD σ nx bs R).over r0 o0)) ∧ SeqL P ⟨l⟩ rest' ((stAll σ nx R).over r0 o0) Q

end Go.AM
