/-
  The abstract machine, continued: two structs of plain cells held against each other.
  Conditions: none; generic over the program.
-/
import Derived.Test.YtkbpignlggahaaaGreatDoorAmMem
import Derived.Laws.StructEq
namespace Go.AM
set_option linter.unusedVariables false
set_option linter.unusedSimpArgs false
set_option linter.unusedSectionVars false
def scEq (P : Program) (t : TypeId) : Value → Value → Option Bool
  | .int k a, .int k' b => match P.underlying t with
    | some (.int _) => if k = k' then some (decide (a = b)) else none
    | _ => none
  | .bool a, .bool b => match P.underlying t with
    | some .bool => some (a == b)
    | _ => none
  | .string a, .string b => match P.underlying t with
    | some .string => some (decide (a = b))
    | _ => none
  | _, _ => none
def eqF (P : Program) (xs ys : Array Value) : List Field → Option Bool
  | [] => some true
  | f :: fs => if f.name = "_" ∨ isAggT P f.type ≠ some false then none else
    match xs[f.offset]?, ys[f.offset]? with
    | some a, some b => match scEq P f.type a b, eqF P xs ys fs with
      | some r, some s => some (r && s)
      | _, _ => none
    | _, _ => none
theorem ba_beq (a b : ByteArray) : (a == b) = decide (a = b) := by
  rw [Bool.eq_iff_iff, decide_eq_true_eq]; obtain ⟨x⟩ := a; obtain ⟨y⟩ := b
  show (x == y) = true ↔ _
  rw [beq_iff_eq, ByteArray.mk.injEq]
theorem pure_scEq {P : Program} {d : Nat} {t : TypeId} {a b : Value} {r : Bool} (h : scEq P t a b = some r) : pureOn P (Op.equalIn (d + 1) t a b) = some r := by
  unfold scEq at h
  split at h
  · split at h
    · rename_i k1 hu
      split at h
      · rename_i hk
        subst hk; simp only [Option.some.injEq] at h; subst h; simp only [Op.equalIn, pureOn_bind, pureOn_underlying hu, Option.bind_some, if_true, pureOn_pure]; rfl
      · cases h
    · cases h
  · split at h
    · rename_i hu
      simp only [Option.some.injEq] at h; subst h; simp only [Op.equalIn, pureOn_bind, pureOn_underlying hu, Option.bind_some, pureOn_pure]
    · cases h
  · split at h
    · rename_i hu
      simp only [Option.some.injEq] at h; subst h; simp only [Op.equalIn, pureOn_bind, pureOn_underlying hu, Option.bind_some, pureOn_pure, ba_beq]
    · cases h
  · cases h
theorem pure_part {P : Program} {t : TypeId} {cs : Array Value} {off : Nat} {v : Value} (ha : isAggT P t = some false) (hv : cs[off]? = some v) : pureOn P (part t cs off) = some v := by
  have ha' : pureOn P (isAgg t) = some false := by
    unfold isAggT at ha
    simp only [Option.map_eq_some_iff] at ha; obtain ⟨dd, h1, h2⟩ := ha; simp only [isAgg, pureOn_bind, pureOn_underlying h1, Option.bind_some]
    cases dd <;> first | rfl | (simp [isAggD] at h2)
  simp only [part, pureOn_bind, ha', Option.bind_some, Bool.false_eq_true, if_false, hv, pureOn_pure]
theorem pure_eqFields {P : Program} {d : Nat} {xs ys : Array Value} : ∀ {fs : List Field} {r : Bool}, eqF P xs ys fs = some r → pureOn P (Op.eqFields (d + 1) xs ys fs) = some r
  | [], r, h => by
    simp only [eqF, Option.some.injEq] at h; subst h; rfl
  | f :: fs, r, h => by
    simp only [eqF] at h
    split at h
    · cases h
    · rename_i hc
      simp only [not_or, Decidable.not_not] at hc
      split at h
      · rename_i a b ha hb
        split at h
        · rename_i r1 s1 h1 h2
          simp only [Option.some.injEq] at h; subst h; have := pure_eqFields (d := d) h2; simp only [Op.eqFields, ne_eq, hc.1, not_false_eq_true, if_true, pureOn_bind, pure_part hc.2 ha, pure_part hc.2 hb, Option.bind_some, pure_scEq h1]
          cases r1
          · simp [pureOn_pure]
          · simpa using this
        · cases h
      · cases h
theorem pure_struct {P : Program} (d : Nat) (t : TypeId) (xs ys : Array Value) {fs : Array Field} (ht : P.underlying t = some (.struct fs)) (hp : P.stoodInHeld t = false) :
    pureOn P (Op.equalIn (d + 1) t (.agg xs) (.agg ys)) = pureOn P (Op.eqFields d xs ys fs.toList) := by
  have hpr : pureOn P program = some P := rfl; simp only [Op.equalIn, pureOn_bind, pureOn_underlying ht, Option.bind_some, hpr, hp, Bool.false_eq_true, if_false]; rw [← Array.forIn_toList]
  generalize fs.toList = fs
  clear ht
  induction fs with
  | nil => simp [Op.eqFields, pureOn_pure]
  | cons f fs ih =>
    simp only [List.forIn_cons, Op.eqFields, pureOn_bind]
    split
    · simp only [pureOn_bind]
      generalize pureOn P (part f.type xs f.offset) = r1
      cases r1 with
      | none => rfl
      | some a =>
        simp only [Option.bind_some]
        generalize pureOn P (part f.type ys f.offset) = r2
        cases r2 with
        | none => rfl
        | some b =>
          simp only [Option.bind_some]
          generalize pureOn P (Op.equalIn d f.type a b) = r3
          cases r3 with
          | none => rfl
          | some r =>
            cases r
            · simp only [Option.bind_some, Bool.not_false, if_true, pureOn_pure]
            · simp only [Option.bind_some, Bool.not_true, Bool.false_eq_true, if_false, pureOn_pure]; exact ih
    · simp only [pureOn_pure, Option.bind_some]; exact ih
theorem pure_eqGuard {P : Program} (op : BinOp) (t : TypeId) (x y : Operand) (xs ys : Array Value) (hm : P.eqGuardType P.depth t = false) : pureOn P (eqGuard op t x y (.agg xs) (.agg ys)) = some () := by
  have hpr : pureOn P program = some P := rfl
  cases op <;> simp [eqGuard, pureOn_bind, hpr, hm, pureOn_pure]
theorem bin_seq {P : Program} {t : TypeId} {x y : Operand} {xs ys : Array Value} {fs : Array Field} {r : Bool} (ht : P.underlying t = some (.struct fs)) (hp : P.stoodInHeld t = false) (hm : P.eqGuardType P.depth t = false) (he : eqF P xs ys fs.toList = some r) :
    bin P .eql t x y (.agg xs) (.agg ys) = some (.bool r) ∧ bin P .neq t x y (.agg xs) (.agg ys) = some (.bool (!r)) := by
  have h1 : pureOn P (Op.equalIn (9998 + 1 + 1) t (.agg xs) (.agg ys)) = some r := by rw [pure_struct _ _ _ _ ht hp]; exact pure_eqFields he
  constructor
  · simp only [bin, pureOn_bind, pure_eqGuard _ _ _ _ _ _ hm, Option.bind_some, binOp, Op.equal, Op.maxDepth]; have := h1; simp only [Nat.reduceAdd] at this
    simp [pureOn_bind, this, pureOn_pure]
  · simp only [bin, pureOn_bind, pure_eqGuard _ _ _ _ _ _ hm, Option.bind_some, binOp, Op.equal, Op.maxDepth]; have := h1; simp only [Nat.reduceAdd] at this
    simp [pureOn_bind, this, pureOn_pure]
structure EqT (P : Program) (t : TypeId) (fs : List (Nat × Nat)) : Prop where
  u : ∃ fa : Array Field, P.underlying t = some (.struct fa) ∧ (fa.toList.map fun f => (f.offset, f.type)) = fs ∧ (fa.toList.all fun f => f.name != "_") = true
  p : P.stoodInHeld t = false
  m : P.eqGuardType P.depth t = false
def eqG (P : Program) (xs ys : List AV) : List (Nat × Nat) → Option Bool
  | [] => some true
  | f :: fs => if isAggT P f.2 ≠ some false then none else
    match xs[f.1]?, ys[f.1]? with
    | some (.lit a), some (.lit b) => match scEq P f.2 a b, eqG P xs ys fs with
      | some r, some s => some (r && s)
      | _, _ => none
    | _, _ => none
theorem toVals_get : ∀ {cs : List AV} {vs : List Value}, toVals cs = some vs → ∀ (i : Nat) (a : Value), cs[i]? = some (.lit a) → vs[i]? = some a
  | [], vs, h, i, a, hi => by simp at hi
  | c :: cs, vs, h, i, a, hi => by
    simp only [toVals] at h
    split at h
    · rename_i x xs h1 h2
      simp only [Option.some.injEq] at h; subst h
      cases i with
      | zero =>
        simp at hi
        subst hi; simp only [toVal, Option.some.injEq] at h1
        simp [h1]
      | succ i => simpa using toVals_get h2 i a (by simpa using hi)
    · cases h
theorem eqF_of_G {P : Program} {xs ys : List AV} {vs ws : List Value} (h1 : toVals xs = some vs) (h2 : toVals ys = some ws) : ∀ {fs : List Field} {r : Bool}, (fs.all fun f => f.name != "_") = true → eqG P xs ys (fs.map fun f => (f.offset, f.type)) = some r → eqF P vs.toArray ws.toArray fs = some r
  | [], r, _, h => h
  | f :: fs, r, hn, h => by
    simp only [List.all_cons, Bool.and_eq_true, bne_iff_ne] at hn; simp only [List.map_cons, eqG] at h
    split at h
    · cases h
    · rename_i hc
      split at h
      · rename_i a b ha hb
        split at h
        · rename_i r1 s1 g1 g2
          simp only [eqF, hn.1, false_or, hc, if_false, List.getElem?_toArray, toVals_get h1 _ _ ha, toVals_get h2 _ _ hb, g1, eqF_of_G h1 h2 hn.2 g2]; exact h
        · cases h
      · cases h
section rules
variable {P : Program} {s : List (Nat × AV)} {b : List (Nat × Obj)} {n t e id : Nat} {d ty : Nat} {x y : Operand} {xs ys : List AV} {vs ws : List Value} {fs : List (Nat × Nat)} {r : Bool}
theorem q.seql (hT : EqT P ty fs) (hr : eqG P xs ys fs = some r) (hx : opv s x = some (.agg xs) := by exact rfl) (hy : opv s y = some (.agg ys) := by exact rfl) (h1 : toVals xs = some vs := by exact rfl) (h2 : toVals ys = some ws := by exact rfl) : stepQ P ⟨s, b, n, t, e⟩ id (.binOp .eql ty x y d) = some (.lit (.bool r), []) := by
  obtain ⟨⟨fa, g1, g2, g3⟩, g4, g5⟩ := hT; subst g2; have := (bin_seq (x := x) (y := y) (xs := vs.toArray) (ys := ws.toArray) g1 g4 g5 (eqF_of_G h1 h2 g3 hr)).1; simp only [stepQ, opv_ev hx, opv_ev hy, toVal, h1, h2, Option.map_some, this, lits]
theorem q.sneq (hT : EqT P ty fs) (hr : eqG P xs ys fs = some r) (hx : opv s x = some (.agg xs) := by exact rfl) (hy : opv s y = some (.agg ys) := by exact rfl) (h1 : toVals xs = some vs := by exact rfl) (h2 : toVals ys = some ws := by exact rfl) : stepQ P ⟨s, b, n, t, e⟩ id (.binOp .neq ty x y d) = some (.lit (.bool (!r)), []) := by
  obtain ⟨⟨fa, g1, g2, g3⟩, g4, g5⟩ := hT; subst g2; have := (bin_seq (x := x) (y := y) (xs := vs.toArray) (ys := ws.toArray) g1 g4 g5 (eqF_of_G h1 h2 g3 hr)).2; simp only [stepQ, opv_ev hx, opv_ev hy, toVal, h1, h2, Option.map_some, this, lits]
end rules
end Go.AM
