/-
  The abstract machine, continued: an element of an array's value.
  Conditions: none; generic over the program.
-/
import Derived.Test.YtaggnajjmopobaaAmStr
import Derived.Test.YtaggnajjmopobaaAmDraw
import Derived.Test.YtaggnajjmopobaaAmEq
import Derived.Test.YtaggnajjmopobaaAmRes
namespace Go.AM
set_option linter.unusedVariables false
set_option linter.unusedSimpArgs false
set_option linter.unusedSectionVars false
theorem pureOn_isAgg {P : Program} {t : TypeId} {b : Bool} (h : isAggT P t = some b) : pureOn P (isAgg t) = some b := by
  unfold isAggT at h
  cases hu : P.underlying t with
  | none => simp [hu] at h
  | some d =>
    simp only [hu, Option.map_some, Option.some.injEq] at h
    subst h
    simp only [isAgg, pureOn_bind, pureOn_underlying hu, Option.bind_some]
    cases d <;> rfl
theorem pureOn_sizeOf {P : Program} {t : TypeId} {c : Nat} (h : P.cellsOf t = c) (hc : c ≠ 0) : pureOn P (sizeOf t) = some c := by
  cases hi : P.info? t with
  | none => simp [Program.cellsOf, hi] at h; omega
  | some i =>
    have := cellsOf_info hi
    have hp : pureOn P program = some P := rfl
    simp only [sizeOf, typeInfo, pureOn_bind, hp, Option.bind_some, hi, pureOn_pure]
    rw [← h, this]
section rules
variable {P : Program} {s : List (Nat × AV)} {b : List (Nat × Obj)} {n t e id : Nat} {x y : Operand} {k : IntKind} {i : Int}
theorem q.ixg {st el len : Nat} {cs : List AV} {xs : List Value} {v : Value} (har : arrOf P st = some (len, el)) (hag : isAggT P el = some false) (hcl : P.cellsOf el = 1) (hx : opv s x = some (.agg cs) := by exact rfl) (hy : opv s y = some (.lit (.int k i)) := by exact rfl) (hxs : toVals cs = some xs := by exact rfl)
    (h0 : 0 ≤ i ∧ i < (len : Int) := by first | decide | omega) (hv : xs[i.toNat]? = some v := by exact rfl) : stepQ P ⟨s, b, n, t, e⟩ id (.index st x y) = some (.lit v, []) := by
  have hu := arrOf_eq har
  have ha : pureOn P (asIntOf (.int k i)) = some (k, i) := rfl
  have : idx P st (.agg xs.toArray) (.int k i) = some v := by
    simp only [idx, Instr.index, pureOn_bind, ha, Option.bind_some, pureOn_underlying hu, h0, and_self, if_true, pureOn_sizeOf hcl (by decide), part, pureOn_isAgg hag, Nat.mul_one, List.getElem?_toArray, hv, Bool.false_eq_true, if_false, pureOn_pure]
  simp only [stepQ, opv_ev hx, opv_ev hy, toVal, hxs, Option.map_some, this, lits]
/-- Slots forgotten. -/
theorem Wk.forget {b : List (Nat × Obj)} (ds : List Nat) : Wk ⟨s, b, n, t, e⟩ ⟨hide ds s, b, n, t, e⟩ :=
  Wk.sub (fun j v hv => by
    simp only [find_hide] at hv
    split at hv
    · cases hv
    · exact hv) (fun _ _ h => h) (Nat.le_refl _) rfl rfl
/-- A result that leads to memory of the call's own. -/
theorem Ev.retg {b : List (Nat × Obj)} {rs : List ResultVar} {Post : AV → List (Nat × Obj) → Prop} {vs : List AV} {v : AV} {objs : List (Nat × Obj)} (ks : List Nat) (hr : resAV P ⟨s, b, n, t, e⟩ rs = some vs) (h : Post v objs) (hv : renAV (pos ks 0) (packAV vs) = some v := by exact rfl) (ho : keepObjs ⟨s, b, n, t, e⟩ (pos ks 0) 0 ks = some objs := by exact rfl) (hnd : ks.Nodup := by decide) :
    endP P rs Post .ret ⟨s, b, n, t, e⟩ := ⟨ks, hnd, by simp only [retP, hr, hv, ho]; exact h⟩
/-- A call that hands back a value with one row of its own. -/
theorem S.c1g {b : List (Nat × Obj)} {ops : Array Oper} {rest : List Oper} {Q : St → Prop} {d ty : Nat} {pos' : String} {aft : Array Edge} {g : Option (Nat × Bool)} {as_ : Array Operand} {ts : Array TypeId} {f : FuncId} {first caps : List AV} {vs : List AV} {o : Obj} {v v' : AV} (hc : calleeOf (St.ev ⟨s, b, n, t, e⟩ x) = some (f, first, caps) := by exact rfl) (hv : viewL ⟨s, b, n, t, e⟩ (first ++ (as_.toList.map (St.ev ⟨s, b, n, t, e⟩) ++ caps)) = some vs := by exact rfl) (hF : Fun P f vs (Ret v [(0, o)])) (hl : liftAV n v = some v' := by exact rfl)
    (hm : closedL (first ++ (as_.toList.map (St.ev ⟨s, b, n, t, e⟩) ++ caps)) = true := by exact rfl) (ho : o.cl = true := by exact rfl)
    (hg : guardGo (dstsOf ops) ⟨s, b, n, t, e⟩ g = some true := by exact rfl) (hd : Nat.blt d t = true := by exact rfl) (h : SeqL P ops rest ⟨(d, v') :: s, (n, o) :: b, n + 1, t, e⟩ Q) :
    SeqL P ops (⟨some d, .call { callee := .value x, args := as_, argTypes := ts }, ty, pos', aft, g⟩ :: rest) ⟨s, b, n, t, e⟩ Q := by
  refine SeqL.call hg rfl hc hv hF (.inl hm) (fun d' h' => by cases h'; exact Nat.le_of_ble_eq_true hd) ?_
  rintro u l ⟨rfl, rfl⟩
  refine ⟨v', [(n, o)], n + 1, hl, ?_, fun r ob h => fresh1 h, Nat.le_succ _, h⟩
  simp only [liftObjs, renObj, ho, Nat.zero_add]
end rules
end Go.AM
namespace Go.AM
set_option linter.unusedVariables false
set_option linter.unusedSimpArgs false
theorem pure_partA {P : Program} {u c : Nat} (ha : isAggT P u = some true) (hcl : P.cellsOf u = c) (hc : c ≠ 0) (cs : Array Value) (off : Nat) : pureOn P (part u cs off) = some (.agg (cs.extract off (off + c))) := by
  simp only [part, pureOn_bind, pureOn_isAgg ha, Option.bind_some, if_true, pureOn_sizeOf hcl hc, pureOn_pure]
theorem pure_eqT {P : Program} {u : Nat} {gs : List (Nat × Nat)} {xs ys : List AV} {vs ws : List Value} {r : Bool} (D : Nat) (hU : EqT P u gs) (h1 : toVals xs = some vs) (h2 : toVals ys = some ws) (hr : eqG P xs ys gs = some r) : pureOn P (Op.equalIn (D + 1 + 1) u (.agg vs.toArray) (.agg ws.toArray)) = some r := by
  obtain ⟨fa, hu, hfs, hall⟩ := hU.u
  rw [pure_struct _ _ _ _ hu hU.p]
  exact pure_eqFields (eqF_of_G h1 h2 hall (by rw [hfs]; exact hr))
theorem pure_eqT2 {P : Program} {t u c : Nat} {gs : List (Nat × Nat)} {xa xb ya yb : List AV} {va vb wa wb : List Value} {r1 r2 : Bool} (D : Nat) (hT : EqT P t [(0, u), (c, u)]) (hU : EqT P u gs) (ha : isAggT P u = some true) (hcl : P.cellsOf u = c) (hc : c ≠ 0)
    (h1 : toVals xa = some va) (h2 : toVals xb = some vb) (k1 : toVals ya = some wa) (k2 : toVals yb = some wb) (l1 : va.length = c) (l2 : vb.length = c) (m1 : wa.length = c) (m2 : wb.length = c) (hr1 : eqG P xa ya gs = some r1) (hr2 : eqG P xb yb gs = some r2) :
    pureOn P (Op.equalIn (D + 1 + 1 + 1) t (.agg (va ++ vb).toArray) (.agg (wa ++ wb).toArray)) = some (r1 && r2) := by
  obtain ⟨fa, hu, hfs, hall⟩ := hT.u
  rw [pure_struct _ _ _ _ hu hT.p]
  have e1 := pure_eqT D hU h1 k1 hr1
  have e2 := pure_eqT D hU h2 k2 hr2
  generalize fa.toList = fl at hfs hall
  rcases fl with _ | ⟨f1, _ | ⟨f2, _ | ⟨f3, fl⟩⟩⟩
  · simp at hfs
  · simp at hfs
  · simp only [List.map_cons, List.map_nil, List.cons.injEq, Prod.mk.injEq, and_true] at hfs
    obtain ⟨⟨o1, t1⟩, o2, t2⟩ := hfs
    simp only [List.all_cons, List.all_nil, Bool.and_true, Bool.and_eq_true, bne_iff_ne] at hall
    have x1 : ((va ++ vb).toArray).extract 0 (0 + c) = va.toArray := by apply Array.ext'; simp [← l1]
    have x2 : ((va ++ vb).toArray).extract c (c + c) = vb.toArray := by apply Array.ext'; simp [← l1]; rw [List.take_of_length_le]; omega
    have y1 : ((wa ++ wb).toArray).extract 0 (0 + c) = wa.toArray := by apply Array.ext'; simp [← m1]
    have y2 : ((wa ++ wb).toArray).extract c (c + c) = wb.toArray := by apply Array.ext'; simp [← m1]; rw [List.take_of_length_le]; omega
    simp only [Op.eqFields, ne_eq, hall.1, hall.2, not_false_eq_true, if_true, pureOn_bind, o1, t1, o2, t2, pure_partA ha hcl hc, Option.bind_some, x1, y1, x2, y2, e1, e2]
    cases r1
    · simp [pureOn_pure]
    · cases r2 <;> simp [pureOn_bind, pure_partA ha hcl hc, x2, y2, e2, pureOn_pure]
  · simp at hfs
section rules
variable {P : Program} {s : List (Nat × AV)} {b : List (Nat × Obj)} {n t e id ty d : Nat} {x y : Operand}
theorem q.s2neq {u c : Nat} {gs : List (Nat × Nat)} {xa xb ya yb : List AV} {va vb wa wb : List Value} {r1 r2 : Bool} (hT : EqT P ty [(0, u), (c, u)]) (hU : EqT P u gs) (ha : isAggT P u = some true) (hcl : P.cellsOf u = c) (hr1 : eqG P xa ya gs = some r1) (hr2 : eqG P xb yb gs = some r2)
    (hx : opv s x = some (.agg (xa ++ xb)) := by exact rfl) (hy : opv s y = some (.agg (ya ++ yb)) := by exact rfl) (h1 : toVals xa = some va := by exact rfl) (h2 : toVals xb = some vb := by exact rfl) (k1 : toVals ya = some wa := by exact rfl) (k2 : toVals yb = some wb := by exact rfl)
    (hx2 : toVals (xa ++ xb) = some (va ++ vb) := by exact rfl) (hy2 : toVals (ya ++ yb) = some (wa ++ wb) := by exact rfl) (l1 : va.length = c := by exact rfl) (l2 : vb.length = c := by exact rfl) (m1 : wa.length = c := by exact rfl) (m2 : wb.length = c := by exact rfl) (hc : c ≠ 0 := by decide) :
    stepQ P ⟨s, b, n, t, e⟩ id (.binOp .neq ty x y d) = some (.lit (.bool (!(r1 && r2))), []) := by
  have hb : bin P .neq ty x y (.agg (va ++ vb).toArray) (.agg (wa ++ wb).toArray) = some (.bool (!(r1 && r2))) := by
    have h0 := pure_eqT2 9997 hT hU ha hcl hc h1 h2 k1 k2 l1 l2 m1 m2 hr1 hr2
    simp only [bin, pureOn_bind, pure_eqGuard _ _ _ _ _ _ hT.m, Option.bind_some, binOp, Op.equal, Op.maxDepth]
    simp only [Nat.reduceAdd] at h0
    simp [pureOn_bind, h0, pureOn_pure]
  simp only [stepQ, opv_ev hx, opv_ev hy, toVal, hx2, hy2, Option.map_some, hb, lits]
end rules
end Go.AM
