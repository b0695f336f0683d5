/-
  The abstract machine, continued: an element of an array's value.
  Conditions: none; generic over the program.
-/
import Derived.Test.YthiockdlhehhoaaDoorAmStr
import Derived.Test.YthiockdlhehhoaaDoorAmDraw
import Derived.Test.YthiockdlhehhoaaDoorAmEq
import Derived.Test.YthiockdlhehhoaaDoorAmRes
namespace Go.AM
set_option linter.unusedVariables false
set_option linter.unusedSimpArgs false
set_option linter.unusedSectionVars false
theorem pureOn_isAgg {P : Program} {t : TypeId} {b : Bool} (h : isAggT P t = some b) : pureOn P (isAgg t) = some b := by
  unfold isAggT at h
  cases hu : P.underlying t with
  | none => simp [hu] at h
  | some d =>
    simp only [hu, Option.map_some, Option.some.injEq] at h
    subst h
    simp only [isAgg, pureOn_bind, pureOn_underlying hu, Option.bind_some]
    cases d <;> rfl
theorem pureOn_sizeOf {P : Program} {t : TypeId} {c : Nat} (h : P.cellsOf t = c) (hc : c ≠ 0) : pureOn P (sizeOf t) = some c := by
  cases hi : P.info? t with
  | none => simp [Program.cellsOf, hi] at h; omega
  | some i =>
    have := cellsOf_info hi
    have hp : pureOn P program = some P := rfl
    simp only [sizeOf, typeInfo, pureOn_bind, hp, Option.bind_some, hi, pureOn_pure]
    rw [← h, this]
section rules
variable {P : Program} {s : List (Nat × AV)} {b : List (Nat × Obj)} {n t e id : Nat} {x y : Operand} {k : IntKind} {i : Int}
theorem q.ixg {st el len : Nat} {cs : List AV} {xs : List Value} {v : Value} (har : arrOf P st = some (len, el)) (hag : isAggT P el = some false) (hcl : P.cellsOf el = 1) (hx : opv s x = some (.agg cs) := by exact rfl) (hy : opv s y = some (.lit (.int k i)) := by exact rfl) (hxs : toVals cs = some xs := by exact rfl)
    (h0 : 0 ≤ i ∧ i < (len : Int) := by first | decide | omega) (hv : xs[i.toNat]? = some v := by exact rfl) : stepQ P ⟨s, b, n, t, e⟩ id (.index st x y) = some (.lit v, []) := by
  have hu := arrOf_eq har
  have ha : pureOn P (asIntOf (.int k i)) = some (k, i) := rfl
  have : idx P st (.agg xs.toArray) (.int k i) = some v := by
    simp only [idx, Instr.index, pureOn_bind, ha, Option.bind_some, pureOn_underlying hu, h0, and_self, if_true, pureOn_sizeOf hcl (by decide), part, pureOn_isAgg hag, Nat.mul_one, List.getElem?_toArray, hv, Bool.false_eq_true, if_false, pureOn_pure]
  simp only [stepQ, opv_ev hx, opv_ev hy, toVal, hxs, Option.map_some, this, lits]
/-- Slots forgotten. -/
theorem Wk.forget {b : List (Nat × Obj)} (ds : List Nat) : Wk ⟨s, b, n, t, e⟩ ⟨hide ds s, b, n, t, e⟩ :=
  Wk.sub (fun j v hv => by
    simp only [find_hide] at hv
    split at hv
    · cases hv
    · exact hv) (fun _ _ h => h) (Nat.le_refl _) rfl rfl
/-- A result that leads to memory of the call's own. -/
theorem Ev.retg {b : List (Nat × Obj)} {rs : List ResultVar} {Post : AV → List (Nat × Obj) → Prop} {vs : List AV} {v : AV} {objs : List (Nat × Obj)} (ks : List Nat) (hr : resAV P ⟨s, b, n, t, e⟩ rs = some vs) (h : Post v objs) (hv : renAV (pos ks 0) (packAV vs) = some v := by exact rfl) (ho : keepObjs ⟨s, b, n, t, e⟩ (pos ks 0) 0 ks = some objs := by exact rfl) (hnd : ks.Nodup := by decide) :
    endP P rs Post .ret ⟨s, b, n, t, e⟩ := ⟨ks, hnd, by simp only [retP, hr, hv, ho]; exact h⟩
end rules
end Go.AM
namespace Go.AM
set_option linter.unusedVariables false
set_option linter.unusedSimpArgs false
section rules
variable {P : Program} {s : List (Nat × AV)} {b : List (Nat × Obj)} {n t e id ty d : Nat} {x y : Operand}
end rules
end Go.AM
