/-
  The abstract machine, continued: strings, told by the lists of their bytes.
  Conditions: none; generic over the program.
-/
import Derived.Test.YtaggnajjmopobaaAmAuto
namespace Go.AM
set_option linter.unusedVariables false
set_option linter.unusedSimpArgs false
set_option linter.unusedSectionVars false

/-- A string by its bytes. -/
abbrev str (l : List UInt8) : Value := .string ⟨l.toArray⟩

section rules
variable {P : Program} {s : List (Nat × AV)} {b : List (Nat × Obj)} {n t e id : Nat} {d ty : Nat} {x y : Operand} {l m : List UInt8} {k : IntKind} {i : Int}

end rules
end Go.AM
namespace Go.AM
set_option linter.unusedVariables false
set_option linter.unusedSimpArgs false
set_option linter.unusedSectionVars false

theorem wrap_u64 {x : Int} (h : 0 ≤ x) (h' : x ≤ 18446744073709551615) : IntKind.u64.wrap x = x := by
  have e : IntKind.u64.wrap x = x % 18446744073709551616 := by simp [IntKind.wrap, IntKind.bits, IntKind.signed]
  rw [e]; omega
section rules
variable {P : Program} {s : List (Nat × AV)} {b : List (Nat × Obj)} {n t e id : Nat} {d ty : Nat} {x y : Operand} {k k' : IntKind} {i j : Int}

theorem q.cvu {sd dd : TypeId} (hd : P.underlying dd = some (.int .u64)) (hs : (P.underlying sd).isSome = true) (hx : opv s x = some (.lit (.int k i)) := by exact rfl) (h1 : 0 ≤ i := by first | omega | assumption) (h2 : i ≤ 18446744073709551615 := by first | omega | assumption) : stepQ P ⟨s, b, n, t, e⟩ id (.convert sd dd x) = some (.lit (.int .u64 i), []) := q_conv hd hs hx (wrap_u64 h1 h2)
end rules
end Go.AM
