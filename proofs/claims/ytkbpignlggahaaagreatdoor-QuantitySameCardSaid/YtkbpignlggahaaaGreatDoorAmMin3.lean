/-
  The abstract machine, continued: the greatest and the least of three integers.
  Conditions: none; generic over the program.
-/
import Derived.Test.YtkbpignlggahaaaGreatDoorAmAuto
namespace Go.AM
set_option linter.unusedVariables false
set_option linter.unusedSimpArgs false
section
variable {P : Program} {s : List (Nat × AV)} {b : List (Nat × Obj)} {n t e id : Nat} {x y z : Operand} {k : IntKind} {i j l : Int}
theorem maxV_int3 (ts : Array TypeId) (a b c : Int) : maxV P ts [.int k a, .int k b, .int k c] = some (.int k (max (max a b) c)) := by
  have h : ∀ u v : Int, (if u < v then v else u) = max u v := fun u v => by rw [Int.max_def]; split <;> split <;> omega
  simp [maxV, Builtin.max_, Builtin.max2, pureOn_bind, pureOn_pure, h]
theorem minV_int3 (ts : Array TypeId) (a b c : Int) : minV P ts [.int k a, .int k b, .int k c] = some (.int k (min (min a b) c)) := by
  have h : ∀ u v : Int, (if v < u then v else u) = min u v := fun u v => by rw [Int.min_def]; split <;> split <;> omega
  simp [minV, Builtin.min_, Builtin.min2, pureOn_bind, pureOn_pure, h]
theorem q.max3 {ts : Array TypeId} (hx : opv s x = some (.lit (.int k i)) := by exact rfl) (hy : opv s y = some (.lit (.int k j)) := by exact rfl) (hz : opv s z = some (.lit (.int k l)) := by exact rfl) : stepQ P ⟨s, b, n, t, e⟩ id (.call { callee := .builtin .max, args := #[x, y, z], argTypes := ts }) = some (.lit (.int k (Max.max (Max.max i j) l)), []) := by
  simp only [stepQ, stepBuiltin, List.map_cons, List.map_nil, opv_ev hx, opv_ev hy, opv_ev hz, toVals, toVal, Option.bind_some, maxV_int3, lits, Option.map_some]
theorem q.min3 {ts : Array TypeId} (hx : opv s x = some (.lit (.int k i)) := by exact rfl) (hy : opv s y = some (.lit (.int k j)) := by exact rfl) (hz : opv s z = some (.lit (.int k l)) := by exact rfl) : stepQ P ⟨s, b, n, t, e⟩ id (.call { callee := .builtin .min, args := #[x, y, z], argTypes := ts }) = some (.lit (.int k (Min.min (Min.min i j) l)), []) := by
  simp only [stepQ, stepBuiltin, List.map_cons, List.map_nil, opv_ev hx, opv_ev hy, opv_ev hz, toVals, toVal, Option.bind_some, minV_int3, lits, Option.map_some]
end
end Go.AM
