/-
  The abstract machine, continued: strings, told by the lists of their bytes.
  Conditions: none; generic over the program.
-/
import Derived.Test.YtkbpignlggahaaaGreatDoorAmAuto
namespace Go.AM
set_option linter.unusedVariables false
set_option linter.unusedSimpArgs false
set_option linter.unusedSectionVars false
abbrev str (l : List UInt8) : Value := .string ⟨l.toArray⟩
theorem bytes_list (l : List UInt8) : (⟨l.toArray⟩ : ByteArray).toList = l := by rw [ByteArray.toList_eq]
theorem bytes_size (l : List UInt8) : (⟨l.toArray⟩ : ByteArray).size = l.length := by simp [ByteArray.size]
theorem bytes_eta (s : ByteArray) : s = ⟨s.data.toList.toArray⟩ := by cases s; simp
theorem bytes_get (l : List UInt8) (i : Nat) : (⟨l.toArray⟩ : ByteArray)[i]? = l[i]? := by
  by_cases h : i < l.length
  · have h' : i < (⟨l.toArray⟩ : ByteArray).size := by rw [bytes_size]; exact h
    rw [getElem?_pos _ i h', List.getElem?_eq_getElem h]; rfl
  · have h' : ¬ i < (⟨l.toArray⟩ : ByteArray).size := by rw [bytes_size]; exact h
    rw [getElem?_neg _ i h', List.getElem?_eq_none (by omega)]
theorem bytes_inj {a b : List UInt8} : (⟨a.toArray⟩ : ByteArray) = ⟨b.toArray⟩ ↔ a = b := by
  constructor
  · intro h; have := congrArg (fun s : ByteArray => s.data.toList) h
    simpa using this
  · intro h; rw [h]
theorem lbeq (a b : List UInt8) : (a == b) = decide (a = b) := by
  by_cases h : a = b <;> simp [h]
section rules
variable {P : Program} {s : List (Nat × AV)} {b : List (Nat × Obj)} {n t e id : Nat} {d ty : Nat} {x y : Operand} {l m : List UInt8} {k : IntKind} {i : Int}
theorem bin_str (op : BinOp) (ty : TypeId) (x y : Operand) {v : Value} (h : pureOn P (Op.stringOp op ⟨l.toArray⟩ ⟨m.toArray⟩) = some v) : bin P op ty x y (str l) (str m) = some v := by
  have hg : pureOn P (eqGuard op ty x y (str l) (str m)) = some () := by rw [eqGuard_at_string]; rfl
  simp only [bin, pureOn_bind, hg, Option.bind_some]
  cases op <;> exact h
theorem q.seqs (hx : opv s x = some (.lit (str l)) := by exact rfl) (hy : opv s y = some (.lit (str m)) := by exact rfl) : stepQ P ⟨s, b, n, t, e⟩ id (.binOp .eql ty x y d) = some (.lit (.bool (decide (l = m))), []) := by
  have : bin P .eql ty x y (str l) (str m) = some (.bool (decide (l = m))) := bin_str _ _ _ _ (by simp only [Op.stringOp, bytes_list, pureOn_pure]; congr 2; exact lbeq _ _); simp only [stepQ, opv_ev hx, opv_ev hy, toVal, this, lits, Option.map_some]
theorem q.snes (hx : opv s x = some (.lit (str l)) := by exact rfl) (hy : opv s y = some (.lit (str m)) := by exact rfl) : stepQ P ⟨s, b, n, t, e⟩ id (.binOp .neq ty x y d) = some (.lit (.bool (!decide (l = m))), []) := by
  have : bin P .neq ty x y (str l) (str m) = some (.bool (!decide (l = m))) := bin_str _ _ _ _ (by simp only [Op.stringOp, bytes_list, pureOn_pure]; congr 3; exact lbeq _ _); simp only [stepQ, opv_ev hx, opv_ev hy, toVal, this, lits, Option.map_some]
theorem q.sadd (hx : opv s x = some (.lit (str l)) := by exact rfl) (hy : opv s y = some (.lit (str m)) := by exact rfl) (h : l.length + m.length ≤ 9223372036854775807 := by first | omega | (simp only [List.length_append, List.length_cons, List.length_nil]; omega)) : stepQ P ⟨s, b, n, t, e⟩ id (.binOp .add ty x y d) = some (.lit (str (l ++ m)), []) := by
  have : bin P .add ty x y (str l) (str m) = some (str (l ++ m)) := bin_str _ _ _ _ (by
    simp only [Op.stringOp, bytes_size]; have hm : IntKind.i64.max = 9223372036854775807 := rfl; rw [if_neg (by rw [hm]; omega), pureOn_pure]
    first | rfl | (congr 2; apply ByteArray.ext; simp [ByteArray.append]))
  simp only [stepQ, opv_ev hx, opv_ev hy, toVal, this, lits, Option.map_some]
theorem q.slen {st : Nat} (he : elemOfSlice P st = none) (hu : P.underlying st = some .string) (hx : opv s x = some (.lit (str l)) := by exact rfl) : stepQ P ⟨s, b, n, t, e⟩ id (.call { callee := .builtin .len, args := #[x], argTypes := #[st] }) = some (.lit (.int .i64 (l.length : Int)), []) := by
  have : lenV P #[st] [str l] = some (.int .i64 (l.length : Int)) := by
    simp only [lenV, Builtin.len_, pureOn_bind]; simp only [List.getElem?_toArray, List.getElem?_cons_zero, pureOn_bind, pureOn_underlying hu, Option.bind_some, pureOn_pure, goInt, bytes_size]
  simp only [stepQ, stepBuiltin, he, List.map_cons, List.map_nil, opv_ev hx, mapRows, toVals, toVal, Option.bind_some, this, lits, Option.map_some]
theorem q.six {st : Nat} {c : UInt8} (hu : P.underlying st = some .string) (hx : opv s x = some (.lit (str l)) := by exact rfl) (hy : opv s y = some (.lit (.int k i)) := by exact rfl) (hl : 0 ≤ i ∧ l[i.toNat]? = some c := by assumption) : stepQ P ⟨s, b, n, t, e⟩ id (.index st x y) = some (.lit (.int .u8 (c.toNat : Int)), []) := by
  have : idx P st (str l) (.int k i) = some (.int .u8 (c.toNat : Int)) := by
    have ha : pureOn P (asIntOf (.int k i)) = some (k, i) := rfl; simp only [idx, Instr.index, pureOn_bind, ha, Option.bind_some, pureOn_underlying hu, hl.1, if_true, bytes_get, hl.2, pureOn_pure]
  simp only [stepQ, opv_ev hx, opv_ev hy, toVal, this, lits, Option.map_some]
end rules
end Go.AM
namespace Go.AM
set_option linter.unusedVariables false
set_option linter.unusedSimpArgs false
set_option linter.unusedSectionVars false
section rules
variable {P : Program} {s : List (Nat × AV)} {b : List (Nat × Obj)} {n t e id : Nat} {d ty : Nat} {x y : Operand} {k k' : IntKind} {i j : Int}
end rules
end Go.AM
