/-
  The abstract machine, continued: functions of the library that change a slice in place, by the kit's contracts.
  Conditions: none; generic over the program.
-/
import Derived.Test.YtkbpignlggahaaaGreatDoorAmRes
import Derived.Shelf.SlicesQ.Reverse
namespace Go.AM
open Go.Proofs Go.Lib Go.Sort
set_option linter.unusedVariables false
set_option linter.unusedSimpArgs false
set_option linter.unusedSectionVars false
abbrev CV (k : Nat) : Type := {l : List Value // l.length = k ∧ ∀ v ∈ l, v.oneCell' = true}
instance (k : Nat) : Inhabited (CV k) := ⟨⟨List.replicate k (.bool false), by simp, fun v hv => by rw [List.eq_of_mem_replicate hv]; rfl⟩⟩
def ZR (E : Env) (sz : Nat) : List (List AV) → List (CV sz) → Prop
  | [], [] => True
  | r :: rs, c :: cs => (r.length = sz ∧ FVc E r c.1) ∧ ZR E sz rs cs
  | _, _ => False
theorem ZR.length {E : Env} {sz : Nat} : ∀ {rows : List (List AV)} {cs : List (CV sz)}, ZR E sz rows cs → cs.length = rows.length
  | [], [], _ => rfl
  | _ :: rs, _ :: cs, h => by simp [ZR.length h.2]
end Go.AM
