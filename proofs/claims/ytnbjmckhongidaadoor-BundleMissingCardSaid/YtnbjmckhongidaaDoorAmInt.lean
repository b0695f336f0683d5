/-
  The abstract machine, continued: integers of other kinds, conversions between them, shifts.
  Conditions: none; generic over the program.
-/
import Derived.Test.YtnbjmckhongidaaDoorAmStr
namespace Go.AM
set_option linter.unusedVariables false
set_option linter.unusedSimpArgs false
set_option linter.unusedSectionVars false

theorem wrap_u64 {x : Int} (h : 0 ≤ x) (h' : x ≤ 18446744073709551615) : IntKind.u64.wrap x = x := by
  have e : IntKind.u64.wrap x = x % 18446744073709551616 := by simp [IntKind.wrap, IntKind.bits, IntKind.signed]
  rw [e]; omega
theorem wrap_u8 {x : Int} (h : 0 ≤ x) (h' : x ≤ 255) : IntKind.u8.wrap x = x := by
  have e : IntKind.u8.wrap x = x % 256 := by simp [IntKind.wrap, IntKind.bits, IntKind.signed]
  rw [e]; omega
theorem wrap_i32 {x : Int} (h : -2147483648 ≤ x) (h' : x ≤ 2147483647) : IntKind.i32.wrap x = x := by
  have e : IntKind.i32.wrap x = if x % 4294967296 ≥ 2147483648 then x % 4294967296 - 4294967296 else x % 4294967296 := by simp [IntKind.wrap, IntKind.bits, IntKind.signed]
  rw [e]; split <;> omega

section rules
variable {P : Program} {s : List (Nat × AV)} {b : List (Nat × Obj)} {n t e id : Nat} {d ty : Nat} {x y : Operand} {k k' : IntKind} {i j : Int}

theorem q.cvu {sd dd : TypeId} (hd : P.underlying dd = some (.int .u64)) (hs : (P.underlying sd).isSome = true) (hx : opv s x = some (.lit (.int k i)) := by exact rfl) (h1 : 0 ≤ i := by first | omega | assumption) (h2 : i ≤ 18446744073709551615 := by first | omega | assumption) : stepQ P ⟨s, b, n, t, e⟩ id (.convert sd dd x) = some (.lit (.int .u64 i), []) := q_conv hd hs hx (wrap_u64 h1 h2)
theorem q.cvb {sd dd : TypeId} (hd : P.underlying dd = some (.int .u8)) (hs : (P.underlying sd).isSome = true) (hx : opv s x = some (.lit (.int k i)) := by exact rfl) (h1 : 0 ≤ i := by first | omega | assumption) (h2 : i ≤ 255 := by first | omega | assumption) : stepQ P ⟨s, b, n, t, e⟩ id (.convert sd dd x) = some (.lit (.int .u8 i), []) := q_conv hd hs hx (wrap_u8 h1 h2)

theorem bin_shr1 (P : Program) (t : TypeId) (x y : Operand) (k yk : IntKind) (a : Int) (ha : 0 ≤ a) : bin P .shr t x y (.int k a) (.int yk 1) = some (.int k (a / 2)) := by
  have hk : min (1 : Int).toNat k.bits = 1 := by cases k <;> rfl
  have : (Op.shift .shr k a yk 1) = pure (.int k (a / 2)) := by
    simp only [Op.shift, hk]
    rw [if_neg (by decide)]
    congr 2
    rw [Int.fdiv_eq_ediv_of_nonneg _ (by decide)]
    rfl
  simp [bin, pureOn_bind, eqGuard_at_int, binOp, this, pureOn_pure]
theorem q.shr1 {yk : IntKind} (hx : opv s x = some (.lit (.int k i)) := by exact rfl) (hy : opv s y = some (.lit (.int yk 1)) := by exact rfl) (h1 : 0 ≤ i := by first | omega | assumption) : stepQ P ⟨s, b, n, t, e⟩ id (.binOp .shr ty x y d) = some (.lit (.int k (i / 2)), []) := by
  simp only [stepQ, opv_ev hx, opv_ev hy, toVal, bin_shr1 _ _ _ _ _ _ _ h1, lits, Option.map_some]
theorem q.addb (hx : opv s x = some (.lit (.int .u8 i)) := by exact rfl) (hy : opv s y = some (.lit (.int .u8 j)) := by exact rfl) (h1 : 0 ≤ i + j := by first | omega | assumption) (h2 : i + j ≤ 255 := by first | omega | assumption) : stepQ P ⟨s, b, n, t, e⟩ id (.binOp .add ty x y d) = some (.lit (.int .u8 (i + j)), []) := by simp only [stepQ, opv_ev hx, opv_ev hy, toVal, bin_add, lits, Option.map_some, wrap_u8 h1 h2]
theorem q.subb (hx : opv s x = some (.lit (.int .u8 i)) := by exact rfl) (hy : opv s y = some (.lit (.int .u8 j)) := by exact rfl) (h1 : 0 ≤ i - j := by first | omega | assumption) (h2 : i - j ≤ 255 := by first | omega | assumption) : stepQ P ⟨s, b, n, t, e⟩ id (.binOp .sub ty x y d) = some (.lit (.int .u8 (i - j)), []) := by simp only [stepQ, opv_ev hx, opv_ev hy, toVal, bin_sub, lits, Option.map_some, wrap_u8 h1 h2]
theorem bin_eqb (P : Program) (t : TypeId) (x y : Operand) (a b : Bool) (ht : P.underlying t = some .bool) : bin P .eql t x y (.bool a) (.bool b) = some (.bool (a == b)) := by
  have h : pureOn P (Op.equalIn (9999 + 1) t (.bool a) (.bool b)) = some (a == b) := pure_scEq (by simp only [scEq, ht])
  simp only [bin, pureOn_bind, eqGuard_at_bool, pureOn_pure, Option.bind_some, binOp, Op.equal, Op.maxDepth]
  simp only [Nat.reduceAdd] at h
  simp [pureOn_bind, h, pureOn_pure]
theorem bin_neb (P : Program) (t : TypeId) (x y : Operand) (a b : Bool) (ht : P.underlying t = some .bool) : bin P .neq t x y (.bool a) (.bool b) = some (.bool (!(a == b))) := by
  have h : pureOn P (Op.equalIn (9999 + 1) t (.bool a) (.bool b)) = some (a == b) := pure_scEq (by simp only [scEq, ht])
  simp only [bin, pureOn_bind, eqGuard_at_bool, pureOn_pure, Option.bind_some, binOp, Op.equal, Op.maxDepth]
  simp only [Nat.reduceAdd] at h
  simp [pureOn_bind, h, pureOn_pure]
theorem q.beql {p q : Bool} (ht : P.underlying ty = some .bool) (hx : opv s x = some (.lit (.bool p)) := by exact rfl) (hy : opv s y = some (.lit (.bool q)) := by exact rfl) : stepQ P ⟨s, b, n, t, e⟩ id (.binOp .eql ty x y d) = some (.lit (.bool (p == q)), []) := by
  simp only [stepQ, opv_ev hx, opv_ev hy, toVal, bin_eqb _ _ _ _ _ _ ht, lits, Option.map_some]
theorem q.bneq {p q : Bool} (ht : P.underlying ty = some .bool) (hx : opv s x = some (.lit (.bool p)) := by exact rfl) (hy : opv s y = some (.lit (.bool q)) := by exact rfl) : stepQ P ⟨s, b, n, t, e⟩ id (.binOp .neq ty x y d) = some (.lit (.bool (!(p == q))), []) := by
  simp only [stepQ, opv_ev hx, opv_ev hy, toVal, bin_neb _ _ _ _ _ _ ht, lits, Option.map_some]
end rules
end Go.AM
