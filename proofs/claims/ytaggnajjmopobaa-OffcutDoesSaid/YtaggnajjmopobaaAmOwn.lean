/-
  The abstract machine, continued: variables that lead to memory of the call's own; rows of bytes.
  Conditions: none; generic over the program.
-/
import Derived.Test.YtaggnajjmopobaaAmMap
import Derived.Lib.AppendStr
namespace Go.AM
set_option linter.unusedVariables false
set_option linter.unusedSimpArgs false
set_option linter.unusedSectionVars false

theorem belowL {l : List (Nat × Obj)} {n n' : Nat} (h : (l.all fun p => Nat.blt p.1 n') = true) (h2 : Nat.ble n n' = true) : (∀ r ob, find l r = some ob → r < n') ∧ n ≤ n' := by
  refine ⟨?_, Nat.le_of_ble_eq_true h2⟩
  induction l with
  | nil => intro r ob hf; simp [find] at hf
  | cons p l ih =>
    simp only [List.all_cons, Bool.and_eq_true] at h
    intro r ob hf
    obtain ⟨k, v⟩ := p
    rw [find_cons] at hf
    split at hf
    · rename_i e
      subst e
      exact Nat.le_of_ble_eq_true h.1
    · exact ih h.2 r ob hf
theorem leadsB {k : Nat} {ks : List Nat} (h : ((List.range k).all fun i => match ks[i]? with | some j => Nat.beq j i | none => false) = true) : leads k ks := by
  intro i hi
  have h1 := List.all_eq_true.1 h i (List.mem_range.2 hi)
  revert h1
  cases ks[i]? with
  | none => intro h1; simp at h1
  | some j => intro h1; rw [Nat.beq_eq] at h1; rw [h1]
section
variable {P : Program} {s : List (Nat × AV)} {b : List (Nat × Obj)} {n t e k : Nat}
theorem FVc.setCell {E : Env} : ∀ {row : List AV} {xs : List Value} {j : Nat} {u v : AV}, FVc E row xs → row[j]? = some u → (∀ x, FV E u x → FV E v x) → FVc E (row.set j v) xs
  | [], _, _, _, _, _, h, _ => by simp at h
  | c :: cs, xs, 0, u, v, h, hj, hv => by
    simp only [List.getElem?_cons_zero, Option.some.injEq] at hj
    subst hj
    simp only [FVc] at h
    obtain ⟨y, ys, rfl, h0, h1, h2⟩ := h
    simp only [List.set_cons_zero, FVc]
    exact ⟨y, ys, rfl, h0, hv y h1, h2⟩
  | c :: cs, xs, j + 1, u, v, h, hj, hv => by
    simp only [List.getElem?_cons_succ] at hj
    simp only [FVc] at h
    obtain ⟨y, ys, rfl, h0, h1, h2⟩ := h
    simp only [List.set_cons_succ, FVc]
    exact ⟨y, ys, rfl, h0, h1, FVc.setCell h2 hj hv⟩

/-! ### Rows of bytes -/

def byteC (x : UInt8) : List AV := [.lit (.int .u8 (x.toNat : Int))]

variable {ops : Array Oper} {rest : List Oper} {Q : St → Prop} {d ty : Nat} {pos : String} {aft : Array Edge} {g : Option (Nat × Bool)} {x y : Operand} {u : AV}
end
end Go.AM
