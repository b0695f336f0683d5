/-
  The abstract machine, continued: strings, told by the lists of their bytes.
  Conditions: none; generic over the program.
-/
import Derived.Test.YtigjoaejncfmdaaAmAuto
namespace Go.AM
set_option linter.unusedVariables false
set_option linter.unusedSimpArgs false
set_option linter.unusedSectionVars false

/-- A string by its bytes. -/
abbrev str (l : List UInt8) : Value := .string ⟨l.toArray⟩

section rules
variable {P : Program} {s : List (Nat × AV)} {b : List (Nat × Obj)} {n t e id : Nat} {d ty : Nat} {x y : Operand} {l m : List UInt8} {k : IntKind} {i : Int}

end rules
end Go.AM
namespace Go.AM
set_option linter.unusedVariables false
set_option linter.unusedSimpArgs false
set_option linter.unusedSectionVars false

theorem wrap_u64 {x : Int} (h : 0 ≤ x) (h' : x ≤ 18446744073709551615) : IntKind.u64.wrap x = x := by
  have e : IntKind.u64.wrap x = x % 18446744073709551616 := by simp [IntKind.wrap, IntKind.bits, IntKind.signed]
  rw [e]; omega
section rules
variable {P : Program} {s : List (Nat × AV)} {b : List (Nat × Obj)} {n t e id : Nat} {d ty : Nat} {x y : Operand} {k k' : IntKind} {i j : Int}

theorem q.cvu {sd dd : TypeId} (hd : P.underlying dd = some (.int .u64)) (hs : (P.underlying sd).isSome = true) (hx : opv s x = some (.lit (.int k i)) := by exact rfl) (h1 : 0 ≤ i := by first | omega | assumption) (h2 : i ≤ 18446744073709551615 := by first | omega | assumption) : stepQ P ⟨s, b, n, t, e⟩ id (.convert sd dd x) = some (.lit (.int .u64 i), []) := q_conv hd hs hx (wrap_u64 h1 h2)
theorem bin_shr1 (P : Program) (t : TypeId) (x y : Operand) (k yk : IntKind) (a : Int) (ha : 0 ≤ a) : bin P .shr t x y (.int k a) (.int yk 1) = some (.int k (a / 2)) := by
  have hk : min (1 : Int).toNat k.bits = 1 := by cases k <;> rfl
  have : (Op.shift .shr k a yk 1) = pure (.int k (a / 2)) := by
    simp only [Op.shift, hk]
    rw [if_neg (by decide)]
    congr 2
    rw [Int.fdiv_eq_ediv_of_nonneg _ (by decide)]
    rfl
  simp [bin, pureOn_bind, eqGuard_at_int, binOp, this, pureOn_pure]
theorem q.shr1 {yk : IntKind} (hx : opv s x = some (.lit (.int k i)) := by exact rfl) (hy : opv s y = some (.lit (.int yk 1)) := by exact rfl) (h1 : 0 ≤ i := by first | omega | assumption) : stepQ P ⟨s, b, n, t, e⟩ id (.binOp .shr ty x y d) = some (.lit (.int k (i / 2)), []) := by
  simp only [stepQ, opv_ev hx, opv_ev hy, toVal, bin_shr1 _ _ _ _ _ _ _ h1, lits, Option.map_some]
end rules
end Go.AM
