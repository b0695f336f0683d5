/-
  Part 10 of the proof: the abstract machine, proved sound over the model.
  Conditions: none.
-/
import Derived.Lib.AppendStr
import Derived.Test.YtlpgjlnkfgacbaaGreatDoorX9
set_option linter.unusedVariables false
set_option linter.unusedSimpArgs false
set_option linter.unusedSectionVars false
namespace Go.AM
theorem leadsB {k : Nat} {ks : List Nat} (h : ((List.range k).all fun i => match ks[i]? with | some j => Nat.beq j i | none => false) = true) : leads k ks := by
  intro i hi; have h1 := List.all_eq_true.1 h i (List.mem_range.2 hi)
  revert h1
  cases ks[i]? with
  | none => intro h1; simp at h1
  | some j => intro h1; rw [Nat.beq_eq] at h1; rw [h1]
section
variable {P : Program} {s : List (Nat × AV)} {b : List (Nat × Obj)} {n t e k : Nat}
def byteC (x : UInt8) : List AV := [.lit (.int .u8 (x.toNat : Int))]
variable {ops : Array Oper} {rest : List Oper} {Q : St → Prop} {d ty : Nat} {pos : String} {aft : Array Edge} {g : Option (Nat × Bool)} {x y : Operand} {u : AV}
end
section
variable {P : Program} {s : List (Nat × AV)} {b : List (Nat × Obj)} {n t e id : Nat} {x y z : Operand} {k : IntKind} {i j l : Int}
theorem maxV_int3 (ts : Array TypeId) (a b c : Int) : maxV P ts [.int k a, .int k b, .int k c] = some (.int k (max (max a b) c)) := by
  have h : ∀ u v : Int, (if u < v then v else u) = max u v := fun u v => by rw [Int.max_def]; split <;> split <;> omega
  simp [maxV, Builtin.max_, Builtin.max2, Bn, Bw, h]
theorem minV_int3 (ts : Array TypeId) (a b c : Int) : minV P ts [.int k a, .int k b, .int k c] = some (.int k (min (min a b) c)) := by
  have h : ∀ u v : Int, (if v < u then v else u) = min u v := fun u v => by rw [Int.min_def]; split <;> split <;> omega
  simp [minV, Builtin.min_, Builtin.min2, Bn, Bw, h]
theorem q.max3 {ts : Array TypeId} (hx : Ba s x = some (.lit (.int k i)) := by exact rfl) (hy : Ba s y = some (.lit (.int k j)) := by exact rfl) (hz : Ba s z = some (.lit (.int k l)) := by exact rfl) : Az P ⟨s, b, n, t, e⟩ id (.call { callee := .builtin .max, args := #[x, y, z], argTypes := ts }) = some (.lit (.int k (Max.max (Max.max i j) l)), []) := by
  simp only [Az, BT, List.map_cons, List.map_nil, AS hx, AS hy, AS hz, CU, Cq, Option.bind_some, maxV_int3, Db, Option.map_some]
theorem q.min3 {ts : Array TypeId} (hx : Ba s x = some (.lit (.int k i)) := by exact rfl) (hy : Ba s y = some (.lit (.int k j)) := by exact rfl) (hz : Ba s z = some (.lit (.int k l)) := by exact rfl) : Az P ⟨s, b, n, t, e⟩ id (.call { callee := .builtin .min, args := #[x, y, z], argTypes := ts }) = some (.lit (.int k (Min.min (Min.min i j) l)), []) := by
  simp only [Az, BT, List.map_cons, List.map_nil, AS hx, AS hy, AS hz, CU, Cq, Option.bind_some, minV_int3, Db, Option.map_some]
theorem q.cap0 {st el : Nat} (hel : AX P st = some el) (hx : Ba s x = some (.lit (.slice none 0 0)) := by exact rfl) : Az P ⟨s, b, n, t, e⟩ id (.call { callee := .builtin .cap, args := #[x], argTypes := #[st] }) = some (.lit (.int .i64 0), []) := by
  simp only [Az, BT, hel, AS hx, capAV]
end
end Go.AM
