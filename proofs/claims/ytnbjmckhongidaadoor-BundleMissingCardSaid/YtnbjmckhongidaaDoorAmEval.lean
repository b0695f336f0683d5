/-
  The abstract machine, continued: the rules by which a step is reckoned.
  Conditions: none; generic over the program.
-/
import Derived.Test.YtnbjmckhongidaaDoorAmStep
namespace Go.AM
set_option linter.unusedVariables false
set_option linter.unusedSimpArgs false
set_option linter.unusedSectionVars false

theorem beq_dec (m n : Nat) : Nat.beq m n = decide (m = n) := by
  by_cases h : m = n
  · subst h; simp [Nat.beq_refl]
  · cases hb : Nat.beq m n
    · simp [h]
    · rw [Nat.beq_eq] at hb; exact absurd hb h
theorem ble_dec (m n : Nat) : Nat.ble m n = decide (m ≤ n) := by
  by_cases h : m ≤ n
  · simp [h, Nat.ble_eq]
  · cases hb : Nat.ble m n
    · simp [h]
    · exact absurd (Nat.le_of_ble_eq_true hb) h
theorem blt_dec (m n : Nat) : Nat.blt m n = decide (m < n) := by
  unfold Nat.blt
  rw [ble_dec]
  rfl

theorem find_nil {α : Type} (n : Nat) : find ([] : List (Nat × α)) n = none := rfl
theorem del_nil {α : Type} (n : Nat) : del ([] : List (Nat × α)) n = [] := rfl
theorem del_cons {α : Type} (k : Nat) (v : α) (l : List (Nat × α)) (n : Nat) : del ((k, v) :: l) n = if k = n then del l n else (k, v) :: del l n := by
  simp only [del, beq_dec]
  by_cases h : k = n <;> simp [h]
theorem pos_nil (i r : Nat) : pos [] i r = none := rfl
theorem pos_cons (k : Nat) (ks : List Nat) (i r : Nat) : pos (k :: ks) i r = if k = r then some i else pos ks (i + 1) r := by
  simp only [pos, beq_dec]
  by_cases h : k = r <;> simp [h]

theorem pureOn_underlying {P : Program} {t : TypeId} {d : TypeDesc} (h : P.underlying t = some d) : pureOn P (underlying t) = some d := by
  simp only [underlying, pureOn_bind]
  have : pureOn P program = some P := rfl
  rw [this, Option.bind_some, h]
  rfl

section
variable (P : Program) (t : TypeId) (x y : Operand) (k : IntKind) (a b : Int)
theorem bin_add : bin P .add t x y (.int k a) (.int k b) = some (.int k (k.wrap (a + b))) := by simp [bin, pureOn_bind, eqGuard, binOp, Op.intArith, pureOn_pure]
theorem bin_sub : bin P .sub t x y (.int k a) (.int k b) = some (.int k (k.wrap (a - b))) := by simp [bin, pureOn_bind, eqGuard, binOp, Op.intArith, pureOn_pure]
theorem bin_mul : bin P .mul t x y (.int k a) (.int k b) = some (.int k (k.wrap (a * b))) := by simp [bin, pureOn_bind, eqGuard, binOp, Op.intArith, pureOn_pure]
theorem bin_quo (h : b ≠ 0) : bin P .quo t x y (.int k a) (.int k b) = some (.int k (k.wrap (a.tdiv b))) := by simp [bin, pureOn_bind, eqGuard, binOp, Op.intDiv, pureOn_pure, h]
theorem bin_rem (h : b ≠ 0) : bin P .rem t x y (.int k a) (.int k b) = some (.int k (a.tmod b)) := by simp [bin, pureOn_bind, eqGuard, binOp, Op.intDiv, pureOn_pure, h]
theorem bin_eql : bin P .eql t x y (.int k a) (.int k b) = some (.bool (decide (a = b))) := by
  simp [bin, pureOn_bind, eqGuard_at_int, binOp, Op.intCmp, pureOn_pure]
  rfl
theorem bin_neq : bin P .neq t x y (.int k a) (.int k b) = some (.bool (!decide (a = b))) := by
  simp [bin, pureOn_bind, eqGuard_at_int, binOp, Op.intCmp, pureOn_pure]
  rfl
theorem bin_lss : bin P .lss t x y (.int k a) (.int k b) = some (.bool (decide (a < b))) := by simp [bin, pureOn_bind, eqGuard, binOp, Op.intCmp, pureOn_pure]
theorem bin_leq : bin P .leq t x y (.int k a) (.int k b) = some (.bool (decide (a ≤ b))) := by simp [bin, pureOn_bind, eqGuard, binOp, Op.intCmp, pureOn_pure]
theorem bin_gtr : bin P .gtr t x y (.int k a) (.int k b) = some (.bool (decide (b < a))) := by simp [bin, pureOn_bind, eqGuard, binOp, Op.intCmp, pureOn_pure]
theorem bin_geq : bin P .geq t x y (.int k a) (.int k b) = some (.bool (decide (b ≤ a))) := by simp [bin, pureOn_bind, eqGuard, binOp, Op.intCmp, pureOn_pure]
theorem una_not (c : Bool) : una P .not (.bool c) = some (.bool (!c)) := rfl
theorem una_neg : una P .neg (.int k a) = some (.int k (k.wrap (0 - a))) := rfl
theorem maxV_int (ts : Array TypeId) : maxV P ts [.int k a, .int k b] = some (.int k (max a b)) := by
  have : (if b > a then b else a) = max a b := by rw [Int.max_def]; split <;> split <;> omega
  simp [maxV, Builtin.max_, Builtin.max2, pureOn_bind, pureOn_pure, this]
theorem minV_int (ts : Array TypeId) : minV P ts [.int k a, .int k b] = some (.int k (min a b)) := by
  have : (if b < a then b else a) = min a b := by rw [Int.min_def]; split <;> split <;> omega
  simp [minV, Builtin.min_, Builtin.min2, pureOn_bind, pureOn_pure, this]
theorem conv_int (s d : TypeId) (k' : IntKind) (hd : P.underlying d = some (.int k')) (hs : (P.underlying s).isSome = true) : conv P s d (.int k a) = some (.int k' (k'.wrap a)) := by
  obtain ⟨u, hu⟩ := Option.isSome_iff_exists.1 hs
  have h1 := pureOn_underlying hu
  have h2 := pureOn_underlying hd
  simp only [conv, convert, pureOn_bind, h1, h2, Option.bind_some]
  cases u <;> rfl
end

theorem wrap_i64 {x : Int} (h : -9223372036854775808 ≤ x) (h' : x ≤ 9223372036854775807) : IntKind.i64.wrap x = x := by
  have e : IntKind.i64.wrap x = if x % 18446744073709551616 ≥ 9223372036854775808 then x % 18446744073709551616 - 18446744073709551616 else x % 18446744073709551616 := by
    simp [IntKind.wrap, IntKind.bits, IntKind.signed]
  rw [e]
  split <;> omega

theorem tdiv_nn {a b : Int} (h : 0 ≤ a) : a.tdiv b = a / b := Int.tdiv_eq_ediv_of_nonneg h
theorem tmod_nn {a b : Int} (h : 0 ≤ a) : a.tmod b = a % b := Int.tmod_eq_emod_of_nonneg h

/-- The continuation of a region behind a variable. -/
theorem Ev.region_F {P : Program} {σ : St} {Q : Exit → St → Prop} {id : Nat} {l : List Oper} (h : ∀ K : St → Prop, (∀ σ', Q .normal σ' → K σ') → seqF P ⟨l⟩ (dstsOf ⟨l⟩) l σ K) : Ev P (.region id ⟨l⟩ false) σ Q :=
  Ev.region_k fun K hK => SeqL.of_F (h K hK)

theorem Fun.of {P : Program} {f : FuncId} {fn : Func} {c : Code} {args : List AV} {Post : AV → List (Nat × Obj) → Prop} {nt : Nat} {rs : List ResultVar} (hf : P.funcs[f]? = some fn) (hb : fn.body = some c) (ht : fn.ntmps = nt)
    (hr : fn.results.toList = rs) (hnm : (fn.name == "runtime.NumGoroutine") = false) (hn : Nat.ble args.length nt = true) (h : Ev P c ⟨argSlots 0 args, [], 0, nt, 0⟩ (endP P rs Post)) : Fun P f args Post :=
  Fun.of_body hf hb hnm (by rw [ht]; exact ble_le hn) (by rw [ht, hr]; exact h)

end Go.AM
