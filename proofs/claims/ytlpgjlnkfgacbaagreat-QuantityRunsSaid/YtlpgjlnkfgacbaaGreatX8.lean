/-
  Part 8 of the proof: the abstract machine, proved sound over the model.
  Conditions: none.
-/
import Derived.Laws.StructEq
import Derived.Test.YtlpgjlnkfgacbaaGreatX7
set_option linter.unusedVariables false
set_option linter.unusedSimpArgs false
set_option linter.unusedSectionVars false
namespace Go.AM
def scEq (P : Program) (t : TypeId) : Value → Value → Option Bool
  | .int k a, .int k' b => match P.underlying t with
    | some (.int _) => if k = k' then some (decide (a = b)) else none
    | _ => none
  | .bool a, .bool b => match P.underlying t with
    | some .bool => some (a == b)
    | _ => none
  | .string a, .string b => match P.underlying t with
    | some .string => some (decide (a = b))
    | _ => none
  | _, _ => none
def eqF (P : Program) (xs ys : Array Value) : List Field → Option Bool
  | [] => some true
  | f :: fs => if f.name = "_" ∨ isAggT P f.type ≠ some false then none else
    match xs[f.offset]?, ys[f.offset]? with
    | some a, some b => match scEq P f.type a b, eqF P xs ys fs with
      | some r, some s => some (r && s)
      | _, _ => none
    | _, _ => none
theorem ba_beq (a b : ByteArray) : (a == b) = decide (a = b) := by
  rw [Bool.eq_iff_iff, decide_eq_true_eq]; obtain ⟨x⟩ := a; obtain ⟨y⟩ := b
  show (x == y) = true ↔ _
  rw [beq_iff_eq, ByteArray.mk.injEq]
theorem pure_scEq {P : Program} {d : Nat} {t : TypeId} {a b : Value} {r : Bool} (h : scEq P t a b = some r) : pureOn P (Op.equalIn (d + 1) t a b) = some r := by
  unfold scEq at h
  split at h
  · split at h
    · rename_i k1 hu
      split at h
      · rename_i hk
        subst hk; simp only [Option.some.injEq] at h; subst h; simp only [Op.equalIn, pureOn_bind, pureOn_underlying hu, Option.bind_some, if_true, pureOn_pure]; rfl
      · cases h
    · cases h
  · split at h
    · rename_i hu
      simp only [Option.some.injEq] at h; subst h; simp only [Op.equalIn, pureOn_bind, pureOn_underlying hu, Option.bind_some, pureOn_pure]
    · cases h
  · split at h
    · rename_i hu
      simp only [Option.some.injEq] at h; subst h; simp only [Op.equalIn, pureOn_bind, pureOn_underlying hu, Option.bind_some, pureOn_pure, ba_beq]
    · cases h
  · cases h
theorem pure_part {P : Program} {t : TypeId} {cs : Array Value} {off : Nat} {v : Value} (ha : isAggT P t = some false) (hv : cs[off]? = some v) : pureOn P (part t cs off) = some v := by
  have ha' : pureOn P (isAgg t) = some false := by
    unfold isAggT at ha
    simp only [Option.map_eq_some_iff] at ha; obtain ⟨dd, h1, h2⟩ := ha; simp only [isAgg, pureOn_bind, pureOn_underlying h1, Option.bind_some]
    cases dd <;> first | rfl | (simp [isAggD] at h2)
  simp only [part, pureOn_bind, ha', Option.bind_some, Bool.false_eq_true, if_false, hv, pureOn_pure]
theorem pure_eqFields {P : Program} {d : Nat} {xs ys : Array Value} : ∀ {fs : List Field} {r : Bool}, eqF P xs ys fs = some r → pureOn P (Op.eqFields (d + 1) xs ys fs) = some r
  | [], r, h => by
    simp only [eqF, Option.some.injEq] at h; subst h; rfl
  | f :: fs, r, h => by
    simp only [eqF] at h
    split at h
    · cases h
    · rename_i hc
      simp only [not_or, Decidable.not_not] at hc
      split at h
      · rename_i a b ha hb
        split at h
        · rename_i r1 s1 h1 h2
          simp only [Option.some.injEq] at h; subst h; have := pure_eqFields (d := d) h2; simp only [Op.eqFields, ne_eq, hc.1, not_false_eq_true, if_true, pureOn_bind, pure_part hc.2 ha, pure_part hc.2 hb, Option.bind_some, pure_scEq h1]
          cases r1
          · simp [pureOn_pure]
          · simpa using this
        · cases h
      · cases h
theorem pure_struct {P : Program} (d : Nat) (t : TypeId) (xs ys : Array Value) {fs : Array Field} (ht : P.underlying t = some (.struct fs)) (hp : P.stoodInHeld t = false) :
    pureOn P (Op.equalIn (d + 1) t (.agg xs) (.agg ys)) = pureOn P (Op.eqFields d xs ys fs.toList) := by
  have hpr : pureOn P program = some P := rfl; simp only [Op.equalIn, pureOn_bind, pureOn_underlying ht, Option.bind_some, hpr, hp, Bool.false_eq_true, if_false]; rw [← Array.forIn_toList]
  generalize fs.toList = fs
  clear ht
  induction fs with
  | nil => simp [Op.eqFields, pureOn_pure]
  | cons f fs ih =>
    simp only [List.forIn_cons, Op.eqFields, pureOn_bind]
    split
    · simp only [pureOn_bind]
      generalize pureOn P (part f.type xs f.offset) = r1
      cases r1 with
      | none => rfl
      | some a =>
        simp only [Option.bind_some]
        generalize pureOn P (part f.type ys f.offset) = r2
        cases r2 with
        | none => rfl
        | some b =>
          simp only [Option.bind_some]
          generalize pureOn P (Op.equalIn d f.type a b) = r3
          cases r3 with
          | none => rfl
          | some r =>
            cases r
            · simp only [Option.bind_some, Bool.not_false, if_true, pureOn_pure]
            · simp only [Option.bind_some, Bool.not_true, Bool.false_eq_true, if_false, pureOn_pure]; exact ih
    · simp only [pureOn_pure, Option.bind_some]; exact ih
theorem pure_eqGuard {P : Program} (op : BinOp) (t : TypeId) (x y : Operand) (xs ys : Array Value) (hm : P.eqGuardType P.depth t = false) : pureOn P (eqGuard op t x y (.agg xs) (.agg ys)) = some () := by
  have hpr : pureOn P program = some P := rfl
  cases op <;> simp [eqGuard, pureOn_bind, hpr, hm, pureOn_pure]
theorem bin_seq {P : Program} {t : TypeId} {x y : Operand} {xs ys : Array Value} {fs : Array Field} {r : Bool} (ht : P.underlying t = some (.struct fs)) (hp : P.stoodInHeld t = false) (hm : P.eqGuardType P.depth t = false) (he : eqF P xs ys fs.toList = some r) :
    bin P .eql t x y (.agg xs) (.agg ys) = some (.bool r) ∧ bin P .neq t x y (.agg xs) (.agg ys) = some (.bool (!r)) := by
  have h1 : pureOn P (Op.equalIn (9998 + 1 + 1) t (.agg xs) (.agg ys)) = some r := by rw [pure_struct _ _ _ _ ht hp]; exact pure_eqFields he
  constructor
  · simp only [bin, pureOn_bind, pure_eqGuard _ _ _ _ _ _ hm, Option.bind_some, binOp, Op.equal, Op.maxDepth]; have := h1; simp only [Nat.reduceAdd] at this
    simp [pureOn_bind, this, pureOn_pure]
  · simp only [bin, pureOn_bind, pure_eqGuard _ _ _ _ _ _ hm, Option.bind_some, binOp, Op.equal, Op.maxDepth]; have := h1; simp only [Nat.reduceAdd] at this
    simp [pureOn_bind, this, pureOn_pure]
structure EqT (P : Program) (t : TypeId) (fs : List (Nat × Nat)) : Prop where
  u : ∃ fa : Array Field, P.underlying t = some (.struct fa) ∧ (fa.toList.map fun f => (f.offset, f.type)) = fs ∧ (fa.toList.all fun f => f.name != "_") = true
  p : P.stoodInHeld t = false
  m : P.eqGuardType P.depth t = false
def eqG (P : Program) (xs ys : List AV) : List (Nat × Nat) → Option Bool
  | [] => some true
  | f :: fs => if isAggT P f.2 ≠ some false then none else
    match xs[f.1]?, ys[f.1]? with
    | some (.lit a), some (.lit b) => match scEq P f.2 a b, eqG P xs ys fs with
      | some r, some s => some (r && s)
      | _, _ => none
    | _, _ => none
theorem toVals_get : ∀ {cs : List AV} {vs : List Value}, toVals cs = some vs → ∀ (i : Nat) (a : Value), cs[i]? = some (.lit a) → vs[i]? = some a
  | [], vs, h, i, a, hi => by simp at hi
  | c :: cs, vs, h, i, a, hi => by
    simp only [toVals] at h
    split at h
    · rename_i x xs h1 h2
      simp only [Option.some.injEq] at h; subst h
      cases i with
      | zero =>
        simp at hi
        subst hi; simp only [toVal, Option.some.injEq] at h1
        simp [h1]
      | succ i => simpa using toVals_get h2 i a (by simpa using hi)
    · cases h
theorem eqF_of_G {P : Program} {xs ys : List AV} {vs ws : List Value} (h1 : toVals xs = some vs) (h2 : toVals ys = some ws) : ∀ {fs : List Field} {r : Bool}, (fs.all fun f => f.name != "_") = true → eqG P xs ys (fs.map fun f => (f.offset, f.type)) = some r → eqF P vs.toArray ws.toArray fs = some r
  | [], r, _, h => h
  | f :: fs, r, hn, h => by
    simp only [List.all_cons, Bool.and_eq_true, bne_iff_ne] at hn; simp only [List.map_cons, eqG] at h
    split at h
    · cases h
    · rename_i hc
      split at h
      · rename_i a b ha hb
        split at h
        · rename_i r1 s1 g1 g2
          simp only [eqF, hn.1, false_or, hc, if_false, List.getElem?_toArray, toVals_get h1 _ _ ha, toVals_get h2 _ _ hb, g1, eqF_of_G h1 h2 hn.2 g2]; exact h
        · cases h
      · cases h
section rules
variable {P : Program} {s : List (Nat × AV)} {b : List (Nat × Obj)} {n t e id : Nat} {d ty : Nat} {x y : Operand} {xs ys : List AV} {vs ws : List Value} {fs : List (Nat × Nat)} {r : Bool}
theorem q.seql (hT : EqT P ty fs) (hr : eqG P xs ys fs = some r) (hx : opv s x = some (.agg xs) := by exact rfl) (hy : opv s y = some (.agg ys) := by exact rfl) (h1 : toVals xs = some vs := by exact rfl) (h2 : toVals ys = some ws := by exact rfl) : stepQ P ⟨s, b, n, t, e⟩ id (.binOp .eql ty x y d) = some (.lit (.bool r), []) := by
  obtain ⟨⟨fa, g1, g2, g3⟩, g4, g5⟩ := hT; subst g2; have := (bin_seq (x := x) (y := y) (xs := vs.toArray) (ys := ws.toArray) g1 g4 g5 (eqF_of_G h1 h2 g3 hr)).1; simp only [stepQ, opv_ev hx, opv_ev hy, toVal, h1, h2, Option.map_some, this, lits]
theorem q.sneq (hT : EqT P ty fs) (hr : eqG P xs ys fs = some r) (hx : opv s x = some (.agg xs) := by exact rfl) (hy : opv s y = some (.agg ys) := by exact rfl) (h1 : toVals xs = some vs := by exact rfl) (h2 : toVals ys = some ws := by exact rfl) : stepQ P ⟨s, b, n, t, e⟩ id (.binOp .neq ty x y d) = some (.lit (.bool (!r)), []) := by
  obtain ⟨⟨fa, g1, g2, g3⟩, g4, g5⟩ := hT; subst g2; have := (bin_seq (x := x) (y := y) (xs := vs.toArray) (ys := ws.toArray) g1 g4 g5 (eqF_of_G h1 h2 g3 hr)).2; simp only [stepQ, opv_ev hx, opv_ev hy, toVal, h1, h2, Option.map_some, this, lits]
end rules
end Go.AM
namespace Go.AM
section rules
variable {P : Program} {ops : Array Oper} {rest : List Oper} {s : List (Nat × AV)} {b : List (Nat × Obj)} {n t e id : Nat} {Q : St → Prop} {d ty : Nat} {pos : String} {aft : Array Edge} {g : Option (Nat × Bool)} {op : Op}
variable {x y z : Operand} {u v w : AV} {k k' : IntKind} {i j : Int}
theorem at_ {T : Type} {l : List T} {m ri : Nat} {q : T} (h : l[m]? = some q) (e : ri = m) : l[ri]? = some q := by rw [e]; exact h
theorem ati {T : Type} {l : List T} {m : Nat} {i : Int} {q : T} (h : l[m]? = some q) (e : i = (m : Int)) : 0 ≤ i ∧ l[i.toNat]? = some q := by subst e; exact ⟨Int.natCast_nonneg _, by simpa using h⟩
theorem S.o (hq : stepQ P ⟨s, b, n, t, e⟩ n op = some (v, [])) (h : SeqL P ops rest ⟨(d, v) :: s, b, n, t, e⟩ Q) (hg : guardGo (dstsOf ops) ⟨s, b, n, t, e⟩ g = some true := by exact rfl) (hd : Nat.blt d t = true := by exact rfl) :
    SeqL P ops (⟨some d, op, ty, pos, aft, g⟩ :: rest) ⟨s, b, n, t, e⟩ Q := S.q hg hd hq h
theorem S.bb {c : Bool} (hq : stepQ P ⟨s, b, n, t, e⟩ n op = some (.lit (.bool c), [])) (ht : c = true → SeqL P ops rest ⟨(d, .lit (.bool true)) :: s, b, n, t, e⟩ Q) (hf : c = false → SeqL P ops rest ⟨(d, .lit (.bool false)) :: s, b, n, t, e⟩ Q)
    (hg : guardGo (dstsOf ops) ⟨s, b, n, t, e⟩ g = some true := by exact rfl) (hd : Nat.blt d t = true := by exact rfl) : SeqL P ops (⟨some d, op, ty, pos, aft, g⟩ :: rest) ⟨s, b, n, t, e⟩ Q := by
  cases c
  · exact S.q hg hd hq (hf rfl)
  · exact S.q hg hd hq (ht rfl)
theorem S.bd {p : Prop} [Decidable p] (hq : stepQ P ⟨s, b, n, t, e⟩ n op = some (.lit (.bool (decide p)), [])) (ht : p → SeqL P ops rest ⟨(d, .lit (.bool true)) :: s, b, n, t, e⟩ Q) (hf : ¬ p → SeqL P ops rest ⟨(d, .lit (.bool false)) :: s, b, n, t, e⟩ Q)
    (hg : guardGo (dstsOf ops) ⟨s, b, n, t, e⟩ g = some true := by exact rfl) (hd : Nat.blt d t = true := by exact rfl) : SeqL P ops (⟨some d, op, ty, pos, aft, g⟩ :: rest) ⟨s, b, n, t, e⟩ Q :=
  S.bb hq (fun h => ht (of_decide_eq_true h)) (fun h => hf (of_decide_eq_false h)) hg hd
theorem S.bn {p : Prop} [Decidable p] (hq : stepQ P ⟨s, b, n, t, e⟩ n op = some (.lit (.bool (!decide p)), [])) (ht : ¬ p → SeqL P ops rest ⟨(d, .lit (.bool true)) :: s, b, n, t, e⟩ Q) (hf : p → SeqL P ops rest ⟨(d, .lit (.bool false)) :: s, b, n, t, e⟩ Q)
    (hg : guardGo (dstsOf ops) ⟨s, b, n, t, e⟩ g = some true := by exact rfl) (hd : Nat.blt d t = true := by exact rfl) : SeqL P ops (⟨some d, op, ty, pos, aft, g⟩ :: rest) ⟨s, b, n, t, e⟩ Q :=
  S.bb hq (fun h => ht (by simpa using h)) (fun h => hf (by simpa using h)) hg hd
theorem S.nn {o : Obj} (hq : stepQ P ⟨s, b, n, t, e⟩ n op = some (v, [(n, o)])) (h : SeqL P ops rest ⟨(d, v) :: s, (n, o) :: b, n + 1, t, e⟩ Q) (hg : guardGo (dstsOf ops) ⟨s, b, n, t, e⟩ g = some true := by exact rfl) (hd : Nat.blt d t = true := by exact rfl) :
    SeqL P ops (⟨some d, op, ty, pos, aft, g⟩ :: rest) ⟨s, b, n, t, e⟩ Q := S.new hq hg hd h
theorem S.sk (h : SeqL P ops rest ⟨(d, .lit undef) :: s, b, n, t, e⟩ Q) (hg : guardGo (dstsOf ops) ⟨s, b, n, t, e⟩ g = some false := by exact rfl) (hd : Nat.blt d t = true := by exact rfl) : SeqL P ops (⟨some d, op, ty, pos, aft, g⟩ :: rest) ⟨s, b, n, t, e⟩ Q := S.skip hg hd h
theorem S.sv {r rj c st : Nat} {slc : Bool} {el sz : Nat} {cl : Bool} {row cs : List AV} (row' : List AV) (cl' : Bool) (b' : List (Nat × Obj)) (hin : (P.info? st).isSome = true) (hcl : P.cellsOf st = c)
    (hx : opv s x = some (.adr r 0 rj) := by exact rfl) (hy : opv s y = some u := by exact rfl) (ho : find b r = some ⟨slc, el, sz, [row], cl⟩ := by exact rfl) (hc : cellsAV u = some cs := by exact rfl)
    (hchk : (Nat.ble (rj + cs.length) row.length && Nat.beq cs.length c) = true := by exact rfl) (hsp : splice row rj cs = row' := by exact rfl) (hcl' : (cl && closedL cs) = cl' := by exact rfl) (hdel : del b r = b' := by exact rfl)
    (hg : guardGo (dstsOf ops) ⟨s, b, n, t, e⟩ g = some true := by exact rfl) (h : SeqL P ops rest ⟨s, (r, ⟨slc, el, sz, [row'], cl'⟩) :: b', n, t, e⟩ Q) : SeqL P ops (⟨none, .store st x y, ty, pos, aft, g⟩ :: rest) ⟨s, b, n, t, e⟩ Q :=
  S.st hg hin hcl hx hy ho rfl hc hchk hsp rfl hcl' hdel h
theorem S.sx {T : Type} {f : T → List AV} {l : List T} {qq : T} {r ri rj c st : Nat} {slc : Bool} {el sz : Nat} {cs : List AV} (qq' : T) (b' : List (Nat × Obj)) (hin : (P.info? st).isSome = true) (hcl : P.cellsOf st = c)
    (hx : opv s x = some (.adr r ri rj) := by exact rfl) (hy : opv s y = some u := by exact rfl) (ho : find b r = some ⟨slc, el, sz, l.map f, true⟩ := by exact rfl) (hl : l[ri]? = some qq := by assumption) (hc : cellsAV u = some cs := by exact rfl)
    (hchk : (Nat.ble (rj + cs.length) (f qq).length && Nat.beq cs.length c) = true := by exact rfl) (hsp : splice (f qq) rj cs = f qq' := by exact rfl) (hcl' : closedL cs = true := by exact rfl) (hdel : del b r = b' := by exact rfl)
    (hg : guardGo (dstsOf ops) ⟨s, b, n, t, e⟩ g = some true := by exact rfl) (h : SeqL P ops rest ⟨s, (r, ⟨slc, el, sz, (l.set ri qq').map f, true⟩) :: b', n, t, e⟩ Q) : SeqL P ops (⟨none, .store st x y, ty, pos, aft, g⟩ :: rest) ⟨s, b, n, t, e⟩ Q := by
  exact S.st (row := f qq) hg hin hcl hx hy ho (by rw [List.getElem?_map, hl]; rfl) hc hchk hsp (by rw [List.map_set]) (by simpa using hcl') hdel h
theorem head_own' {T : Type} {f : T → List AV} {l : List T} {r el c m : Nat} (ho : find b r = some ⟨true, el, c, l.map f, true⟩ := by exact rfl) (hm : l.length = m := by first | exact rfl | simp) : headAV ⟨s, b, n, t, e⟩ el c (.als r 0 m) = some (some r, l.map f, true) := head_own ho (by rw [List.length_map, hm])
structure RowsW (σ : St) (v : AV) (c : Nat) (rows : List (List AV)) : Prop where
  r : rowsAV σ v = some (c, rows, true)
  w : withinB σ v = true
theorem rows_own' {T : Type} {f : T → List AV} {l : List T} {slc : Bool} {r el c m : Nat} (ho : find b r = some ⟨slc, el, c, l.map f, true⟩ := by exact rfl) (hm : l.length = m := by first | exact rfl | simp) : RowsW ⟨s, b, n, t, e⟩ (.als r 0 m) c (l.map f) := ⟨rows_own ho (by rw [List.length_map, hm]), within_own ho (by rw [List.length_map, hm])⟩
theorem rows_lit {T : Type} {f : T → List AV} (l : List T) {rows : List (List AV)} {slc : Bool} {r el c m : Nat} (ho : find b r = some ⟨slc, el, c, rows, true⟩ := by exact rfl) (hr : rows = l.map f := by exact rfl) (hm : l.length = m := by first | exact rfl | simp) : RowsW ⟨s, b, n, t, e⟩ (.als r 0 m) c (l.map f) := by
  subst hr; exact rows_own' ho hm
theorem rows_sh {T : Type} {f : T → List AV} {l : List T} {c : Nat} : RowsW ⟨s, b, n, t, e⟩ (.sh c (l.map f)) c (l.map f) := ⟨rfl, rfl⟩
theorem S.ap' {T : Type} {f : T → List AV} {l1 l2 : List T} {st el c : Nat} {zs : List AV} {hr0 : Option Nat} {by' : Nat} (b' : List (Nat × Obj)) (hel : elemOfSlice P st = some el) (hze : zeroCellsAV P el = some zs) (hcl : P.cellsOf el = c) (hby : P.bytesOf el = by')
    (hx : opv s x = some u := by exact rfl) (hy : opv s y = some v := by exact rfl) (hh : headAV ⟨s, b, n, t, e⟩ el c u = some (hr0, l1.map f, true)) (hr : RowsW ⟨s, b, n, t, e⟩ v c (l2.map f))
    (hz : (Nat.beq zs.length c && !Nat.beq c 0) = true := by exact rfl)
    (hm1 : (l1.length + l2.length) * by' ≤ 140737488355328 := by (try simp only [List.length_append, List.length_cons, List.length_nil, List.length_map]); omega) (hm2 : l1.length + l2.length ≤ 140737488355328 := by (try simp only [List.length_append, List.length_cons, List.length_nil, List.length_map]); omega)
    (hb' : St.drop1 ⟨s, b, n, t, e⟩ hr0 = b' := by exact rfl) (hg : guardGo (dstsOf ops) ⟨s, b, n, t, e⟩ g = some true := by exact rfl) (hd : Nat.blt d t = true := by exact rfl) (h : SeqL P ops rest ⟨(d, .als n 0 (l1 ++ l2).length) :: s, (n, ⟨true, el, c, (l1 ++ l2).map f, true⟩) :: b', n + 1, t, e⟩ Q) :
    SeqL P ops (⟨some d, .call { callee := .builtin .append, args := #[x, y], argTypes := #[st, st] }, ty, pos, aft, g⟩ :: rest) ⟨s, b, n, t, e⟩ Q :=
  S.ap (cl' := true) (m := (l1 ++ l2).length) hg hd hel hze hcl hby hz hx hy hh hr.r hr.w (by simp) (by simpa using hm1) (by simpa using hm2) (by simp) rfl hb' h
theorem S.c0 {as : Array Operand} {ts : Array TypeId} {f : FuncId} {first caps : List AV} {vs : List AV} {v v' : AV} (hc : calleeOf (St.ev ⟨s, b, n, t, e⟩ x) = some (f, first, caps) := by exact rfl) (hv : viewL ⟨s, b, n, t, e⟩ (first ++ (as.toList.map (St.ev ⟨s, b, n, t, e⟩) ++ caps)) = some vs := by exact rfl) (hF : Fun P f vs (Ret v []))
    (hm : closedL (first ++ (as.toList.map (St.ev ⟨s, b, n, t, e⟩) ++ caps)) = true ∨ noShAV v = true := by first | exact .inl rfl | exact .inr rfl) (hl : liftAV n v = some v' := by exact rfl)
    (hg : guardGo (dstsOf ops) ⟨s, b, n, t, e⟩ g = some true := by exact rfl) (hd : Nat.blt d t = true := by exact rfl) (h : SeqL P ops rest ⟨(d, v') :: s, b, n, t, e⟩ Q) :
    SeqL P ops (⟨some d, .call { callee := .value x, args := as, argTypes := ts }, ty, pos, aft, g⟩ :: rest) ⟨s, b, n, t, e⟩ Q := by
  refine SeqL.call hg rfl hc hv hF ?_ (fun d' h' => by cases h'; exact Nat.le_of_ble_eq_true hd) ?_
  · rcases hm with hm | hm
    · exact .inl hm
    · refine .inr ?_; rintro u l ⟨rfl, rfl⟩; exact ⟨hm, fun r ob h => by simp [find] at h⟩
  · rintro u l ⟨rfl, rfl⟩; exact ⟨v', [], n, hl, rfl, fun r ob h => by simp [find] at h, Nat.le_refl _, h⟩
theorem S.c1 {as : Array Operand} {ts : Array TypeId} {f : FuncId} {first caps : List AV} {vs : List AV} {o : Obj} {m : Nat} (hc : calleeOf (St.ev ⟨s, b, n, t, e⟩ x) = some (f, first, caps) := by exact rfl) (hv : viewL ⟨s, b, n, t, e⟩ (first ++ (as.toList.map (St.ev ⟨s, b, n, t, e⟩) ++ caps)) = some vs := by exact rfl) (hF : Fun P f vs (Ret (.als 0 0 m) [(0, o)]))
    (hm : closedL (first ++ (as.toList.map (St.ev ⟨s, b, n, t, e⟩) ++ caps)) = true := by exact rfl) (ho : o.cl = true := by exact rfl)
    (hg : guardGo (dstsOf ops) ⟨s, b, n, t, e⟩ g = some true := by exact rfl) (hd : Nat.blt d t = true := by exact rfl) (h : SeqL P ops rest ⟨(d, .als n 0 m) :: s, (n, o) :: b, n + 1, t, e⟩ Q) :
    SeqL P ops (⟨some d, .call { callee := .value x, args := as, argTypes := ts }, ty, pos, aft, g⟩ :: rest) ⟨s, b, n, t, e⟩ Q := by
  refine SeqL.call hg rfl hc hv hF (.inl hm) (fun d' h' => by cases h'; exact Nat.le_of_ble_eq_true hd) ?_; rintro u l ⟨rfl, rfl⟩; refine ⟨.als n 0 m, [(n, o)], n + 1, by simp [liftAV, renAV], ?_, fun r ob h => fresh1 h, Nat.le_succ _, h⟩; simp only [liftObjs, renObj, ho, Nat.zero_add]
section draws
variable {l : List Oper} {gs : List (Option Nat)} {nx K c : Nat}
end draws
theorem q.mv (hx : opv s x = some v := by exact rfl) : stepQ P ⟨s, b, n, t, e⟩ id (.move x) = some (v, []) := q_move hx
theorem q.as (hx : opv s x = some v := by exact rfl) : stepQ P ⟨s, b, n, t, e⟩ id (.assign x) = some (v, []) := q_assign hx
theorem q.pt (hz : opv s z = some (.lit (.bool true)) := by exact rfl) (hx : opv s x = some v := by exact rfl) : stepQ P ⟨s, b, n, t, e⟩ id (.pick z x y) = some (v, []) := q_pick_t hz hx
theorem q.pf (hz : opv s z = some (.lit (.bool false)) := by exact rfl) (hy : opv s y = some v := by exact rfl) : stepQ P ⟨s, b, n, t, e⟩ id (.pick z x y) = some (v, []) := q_pick_f hz hy
theorem q.lss (hx : opv s x = some (.lit (.int k i)) := by exact rfl) (hy : opv s y = some (.lit (.int k j)) := by exact rfl) : stepQ P ⟨s, b, n, t, e⟩ id (.binOp .lss ty x y d) = some (.lit (.bool (decide (i < j))), []) := q_lss hx hy
theorem q.leq (hx : opv s x = some (.lit (.int k i)) := by exact rfl) (hy : opv s y = some (.lit (.int k j)) := by exact rfl) : stepQ P ⟨s, b, n, t, e⟩ id (.binOp .leq ty x y d) = some (.lit (.bool (decide (i ≤ j))), []) := q_leq hx hy
theorem q.gtr (hx : opv s x = some (.lit (.int k i)) := by exact rfl) (hy : opv s y = some (.lit (.int k j)) := by exact rfl) : stepQ P ⟨s, b, n, t, e⟩ id (.binOp .gtr ty x y d) = some (.lit (.bool (decide (j < i))), []) := q_gtr hx hy
theorem q.geq (hx : opv s x = some (.lit (.int k i)) := by exact rfl) (hy : opv s y = some (.lit (.int k j)) := by exact rfl) : stepQ P ⟨s, b, n, t, e⟩ id (.binOp .geq ty x y d) = some (.lit (.bool (decide (j ≤ i))), []) := q_geq hx hy
theorem q.eql (hx : opv s x = some (.lit (.int k i)) := by exact rfl) (hy : opv s y = some (.lit (.int k j)) := by exact rfl) : stepQ P ⟨s, b, n, t, e⟩ id (.binOp .eql ty x y d) = some (.lit (.bool (decide (i = j))), []) := q_eql hx hy
theorem q.neq (hx : opv s x = some (.lit (.int k i)) := by exact rfl) (hy : opv s y = some (.lit (.int k j)) := by exact rfl) : stepQ P ⟨s, b, n, t, e⟩ id (.binOp .neq ty x y d) = some (.lit (.bool (!decide (i = j))), []) := q_neq hx hy
theorem q.add (hx : opv s x = some (.lit (.int .i64 i)) := by exact rfl) (hy : opv s y = some (.lit (.int .i64 j)) := by exact rfl) (h1 : -9223372036854775808 ≤ i + j := by first | omega | assumption) (h2 : i + j ≤ 9223372036854775807 := by first | omega | assumption) : stepQ P ⟨s, b, n, t, e⟩ id (.binOp .add ty x y d) = some (.lit (.int .i64 (i + j)), []) := q_add hx hy h1 h2
theorem q.sub (hx : opv s x = some (.lit (.int .i64 i)) := by exact rfl) (hy : opv s y = some (.lit (.int .i64 j)) := by exact rfl) (h1 : -9223372036854775808 ≤ i - j := by first | omega | assumption) (h2 : i - j ≤ 9223372036854775807 := by first | omega | assumption) : stepQ P ⟨s, b, n, t, e⟩ id (.binOp .sub ty x y d) = some (.lit (.int .i64 (i - j)), []) := q_sub hx hy h1 h2
theorem q.mul (hx : opv s x = some (.lit (.int .i64 i)) := by exact rfl) (hy : opv s y = some (.lit (.int .i64 j)) := by exact rfl) (h1 : -9223372036854775808 ≤ i * j := by first | omega | assumption) (h2 : i * j ≤ 9223372036854775807 := by first | omega | assumption) : stepQ P ⟨s, b, n, t, e⟩ id (.binOp .mul ty x y d) = some (.lit (.int .i64 (i * j)), []) := q_mul hx hy h1 h2
theorem q.quo (hx : opv s x = some (.lit (.int .i64 i)) := by exact rfl) (hy : opv s y = some (.lit (.int .i64 j)) := by exact rfl) (h1 : 0 ≤ i := by first | omega | assumption) (h2 : i ≤ 9223372036854775807 := by first | omega | assumption) (h3 : 0 < j := by first | omega | assumption) : stepQ P ⟨s, b, n, t, e⟩ id (.binOp .quo ty x y d) = some (.lit (.int .i64 (i / j)), []) := q_quo hx hy h1 h2 h3
theorem q.neg (hx : opv s x = some (.lit (.int .i64 i)) := by exact rfl) (h1 : -9223372036854775808 ≤ 0 - i := by first | omega | assumption) (h2 : 0 - i ≤ 9223372036854775807 := by first | omega | assumption) : stepQ P ⟨s, b, n, t, e⟩ id (.unOp .neg ty x) = some (.lit (.int .i64 (0 - i)), []) := q_neg hx h1 h2
theorem q.not {c : Bool} (hx : opv s x = some (.lit (.bool c)) := by exact rfl) : stepQ P ⟨s, b, n, t, e⟩ id (.unOp .not ty x) = some (.lit (.bool (!c)), []) := q_not hx
theorem q.nott (hx : opv s x = some (.lit (.bool true)) := by exact rfl) : stepQ P ⟨s, b, n, t, e⟩ id (.unOp .not ty x) = some (.lit (.bool false), []) := q_not hx
theorem q.notf (hx : opv s x = some (.lit (.bool false)) := by exact rfl) : stepQ P ⟨s, b, n, t, e⟩ id (.unOp .not ty x) = some (.lit (.bool true), []) := q_not hx
theorem q.max {ts : Array TypeId} (hx : opv s x = some (.lit (.int k i)) := by exact rfl) (hy : opv s y = some (.lit (.int k j)) := by exact rfl) : stepQ P ⟨s, b, n, t, e⟩ id (.call { callee := .builtin .max, args := #[x, y], argTypes := ts }) = some (.lit (.int k (max i j)), []) := q_max hx hy
theorem q.min {ts : Array TypeId} (hx : opv s x = some (.lit (.int k i)) := by exact rfl) (hy : opv s y = some (.lit (.int k j)) := by exact rfl) : stepQ P ⟨s, b, n, t, e⟩ id (.call { callee := .builtin .min, args := #[x, y], argTypes := ts }) = some (.lit (.int k (min i j)), []) := q_min hx hy
theorem q.lenn {st el : Nat} (he : elemOfSlice P st = some el) (hx : opv s x = some (.lit (.slice none 0 0)) := by exact rfl) : stepQ P ⟨s, b, n, t, e⟩ id (.call { callee := .builtin .len, args := #[x], argTypes := #[st] }) = some (.lit (.int .i64 0), []) := q_len he hx rfl
theorem q.lena {st el r lo m : Nat} (he : elemOfSlice P st = some el) (hx : opv s x = some (.als r lo m) := by exact rfl) : stepQ P ⟨s, b, n, t, e⟩ id (.call { callee := .builtin .len, args := #[x], argTypes := #[st] }) = some (.lit (.int .i64 (m : Int)), []) := q_len he hx rfl
theorem q.lens {T : Type} {f : T → List AV} {l : List T} {st el c : Nat} (he : elemOfSlice P st = some el) (hx : opv s x = some (.sh c (l.map f)) := by exact rfl) : stepQ P ⟨s, b, n, t, e⟩ id (.call { callee := .builtin .len, args := #[x], argTypes := #[st] }) = some (.lit (.int .i64 (l.length : Int)), []) := q_len he hx (by simp [lenAV])
theorem q.cvi {sd dd : TypeId} (hd : P.underlying dd = some (.int .i64)) (hs : (P.underlying sd).isSome = true) (hx : opv s x = some (.lit (.int k i)) := by exact rfl) (h1 : -9223372036854775808 ≤ i := by first | omega | assumption) (h2 : i ≤ 9223372036854775807 := by first | omega | assumption) : stepQ P ⟨s, b, n, t, e⟩ id (.convert sd dd x) = some (.lit (.int .i64 i), []) := q_conv hd hs hx (wrap_i64 h1 h2)
variable {r ri rj rj' : Nat}
theorem drop_of_get {α : Type} {row : List α} {rj : Nat} {v : α} (h : row[rj]? = some v) : row.drop rj = v :: row.drop (rj + 1) := by
  obtain ⟨hl, rfl⟩ := List.getElem?_eq_some_iff.1 h; exact List.drop_eq_getElem_cons hl
theorem q.lv {lt : Nat} {o : Obj} {row : List AV} (ha : isAggT P lt = some false) (hx : opv s x = some (.adr r ri rj) := by exact rfl) (ho : find b r = some o := by exact rfl) (hr : o.rows[ri]? = some row := by exact rfl) (hc : row[rj]? = some v := by exact rfl) : stepQ P ⟨s, b, n, t, e⟩ id (.load lt x) = some (v, []) :=
  q_load1 ha hx (cells_adr ho hr (drop_of_get hc))
theorem q.lx {T : Type} {f : T → List AV} {l : List T} {qq : T} {lt : Nat} {slc cl : Bool} {el c : Nat} (ha : isAggT P lt = some false) (hx : opv s x = some (.adr r ri rj) := by exact rfl) (ho : find b r = some ⟨slc, el, c, l.map f, cl⟩ := by exact rfl) (hl : l[ri]? = some qq := by assumption) (hc : (f qq)[rj]? = some v := by exact rfl) : stepQ P ⟨s, b, n, t, e⟩ id (.load lt x) = some (v, []) :=
  q.lv (row := f qq) ha hx ho (by simp only [List.getElem?_map, hl, Option.map_some]) hc
theorem q.ls {lt : Nat} {row : List AV} (ha : isAggT P lt = some false) (hx : opv s x = some (.sadr row rj) := by exact rfl) (hc : row[rj]? = some v := by exact rfl) : stepQ P ⟨s, b, n, t, e⟩ id (.load lt x) = some (v, []) :=
  q_load1 ha hx (cells_sadr (drop_of_get hc))
theorem q.lvA {lt c : Nat} {o : Obj} {row : List AV} (cs : List AV) (ha : isAggT P lt = some true) (hcl : P.cellsOf lt = c) (hx : opv s x = some (.adr r ri rj) := by exact rfl) (ho : find b r = some o := by exact rfl) (hr : o.rows[ri]? = some row := by exact rfl) (hb : Nat.ble c (row.drop rj).length = true := by exact rfl) (hc : (row.drop rj).take c = cs := by exact rfl) : stepQ P ⟨s, b, n, t, e⟩ id (.load lt x) = some (.agg cs, []) :=
  q_loadA ha hcl hx (cells_adr ho hr rfl) hb hc
theorem q.lxA {T : Type} {f : T → List AV} {l : List T} {qq : T} {lt : Nat} {slc cl : Bool} {el c c0 : Nat} (cs : List AV) (ha : isAggT P lt = some true) (hcl : P.cellsOf lt = c) (hx : opv s x = some (.adr r ri rj) := by exact rfl) (ho : find b r = some ⟨slc, el, c0, l.map f, cl⟩ := by exact rfl) (hl : l[ri]? = some qq := by assumption) (hb : Nat.ble c ((f qq).drop rj).length = true := by exact rfl) (hc : ((f qq).drop rj).take c = cs := by exact rfl) : stepQ P ⟨s, b, n, t, e⟩ id (.load lt x) = some (.agg cs, []) :=
  q.lvA (row := f qq) cs ha hcl hx ho (by simp only [List.getElem?_map, hl, Option.map_some]) hb hc
theorem q.lsA {lt c : Nat} {row : List AV} (cs : List AV) (ha : isAggT P lt = some true) (hcl : P.cellsOf lt = c) (hx : opv s x = some (.sadr row rj) := by exact rfl) (hb : Nat.ble c (row.drop rj).length = true := by exact rfl) (hc : (row.drop rj).take c = cs := by exact rfl) : stepQ P ⟨s, b, n, t, e⟩ id (.load lt x) = some (.agg cs, []) :=
  q_loadA ha hcl hx (cells_sadr rfl) hb hc
theorem q.fa {st f off ft c : Nat} (rj' : Nat) (hf : fieldOf P st f = some (off, ft)) (hcl : P.cellsOf ft = c) (hx : opv s x = some (.adr r ri rj) := by exact rfl) (hj : rj + off = rj' := by exact rfl) (hc : Nat.beq c 0 = false := by exact rfl) : stepQ P ⟨s, b, n, t, e⟩ id (.fieldAddr st x f) = some (.adr r ri rj', []) := q_fa hf hcl hc hx hj
theorem q.fs {st f off ft c : Nat} {row : List AV} (rj' : Nat) (hf : fieldOf P st f = some (off, ft)) (hcl : P.cellsOf ft = c) (hx : opv s x = some (.sadr row rj) := by exact rfl) (hj : rj + off = rj' := by exact rfl) (hc : Nat.beq c 0 = false := by exact rfl) : stepQ P ⟨s, b, n, t, e⟩ id (.fieldAddr st x f) = some (.sadr row rj', []) := q_fas hf hcl hc hx hj
theorem q.ia {st el c m : Nat} {o : Obj} (hel : elemOfSlice P st = some el) (hcl : P.cellsOf el = c) (hx : opv s x = some (.als r 0 m) := by exact rfl) (hy : opv s y = some (.lit (.int k i)) := by exact rfl) (h0 : 0 ≤ i := by first | omega | assumption) (h1 : i < m := by first | omega | assumption) (ho : find b r = some o := by exact rfl) (hsz : o.sz = c := by exact rfl) (hc : Nat.beq c 0 = false := by exact rfl) : stepQ P ⟨s, b, n, t, e⟩ id (.indexAddr st x y) = some (.adr r i.toNat 0, []) := q_ia hel hcl hc hx hy ho hsz h0 h1 (Nat.zero_add _)
theorem q.iaa {st el len c : Nat} (hel : elemOfSlice P st = none) (har : arrOf P st = some (len, el)) (hcl : P.cellsOf el = c) (hx : opv s x = some (.adr r ri rj) := by exact rfl) (hy : opv s y = some (.lit (.int k i)) := by exact rfl) (h0 : 0 ≤ i := by first | omega | assumption) (h1 : i < len := by first | omega | assumption) (hc : Nat.beq c 0 = false := by exact rfl) : stepQ P ⟨s, b, n, t, e⟩ id (.indexAddr st x y) = some (.adr r ri (rj + i.toNat * c), []) := q_iaa hel har hcl hc hx hy h0 h1 rfl
theorem q.bda {bt el len c : Nat} {parts : List (Nat × Operand)} {zs : List AV} {vs : List (Nat × AV)} (cs : List AV) (hz : zeroCellsAV P bt = some zs) (hpl : placesL P bt = none) (har : arrOf P bt = some (len, el)) (hcl : P.cellsOf el = c) (hp : opvs s parts = some vs := by exact rfl) (hf : fillAV (fun k => some (k * c, c)) zs vs = some cs := by exact rfl) (hc : Nat.beq c 0 = false := by exact rfl) : stepQ P ⟨s, b, n, t, e⟩ id (.build bt ⟨parts⟩) = some (.agg cs, []) := q_builda hz hpl har hcl hc hp hf
theorem q.ix {T : Type} {f : T → List AV} {l : List T} {qq : T} {st el c : Nat} (hel : elemOfSlice P st = some el) (hcl : P.cellsOf el = c) (hx : opv s x = some (.sh c (l.map f)) := by exact rfl) (hy : opv s y = some (.lit (.int k i)) := by exact rfl) (hl : 0 ≤ i ∧ l[i.toNat]? = some qq := by assumption) (hc : Nat.beq c 0 = false := by exact rfl) : stepQ P ⟨s, b, n, t, e⟩ id (.indexAddr st x y) = some (.sadr (f qq) 0, []) := by
  exact q_ias hel hcl hc hx hy hl.1 (by simp only [List.getElem?_map, hl.2, Option.map_some])
theorem q.al {at' c : Nat} {cs : List AV} (hz : zeroCellsAV P at' = some cs) (hc : cs.length = c := by exact rfl) : stepQ P ⟨s, b, n, t, e⟩ id (.alloc at') = some (.adr id 0 0, [(id, ⟨false, at', c, [cs], true⟩)]) := q_alloc hz hc
theorem q.bx {bt c : Nat} (cs : List AV) (cl : Bool) (hx : opv s x = some u := by exact rfl) (hc : cellsAV u = some cs := by exact rfl) (hl : cs.length = c := by exact rfl) (hcl : closedL cs = cl := by exact rfl) : stepQ P ⟨s, b, n, t, e⟩ id (.box bt x) = some (.adr id 0 0, [(id, ⟨false, bt, c, [cs], cl⟩)]) := q_box hx hc hl hcl
theorem q.ex {c : Nat} {vs : List AV} (hx : opv s x = some (.tup vs) := by exact rfl) (hv : vs[c]? = some v := by exact rfl) : stepQ P ⟨s, b, n, t, e⟩ id (.extract x c) = some (v, []) := q_extract hx hv
theorem q.bd {bt : Nat} {parts : List (Nat × Operand)} {zs : List AV} {pl : List (Nat × Nat)} {vs : List (Nat × AV)} (cs : List AV) (hz : zeroCellsAV P bt = some zs) (hpl : placesL P bt = some pl) (hp : opvs s parts = some vs := by exact rfl) (hf : fillAV (fun i => pl[i]?) zs vs = some cs := by exact rfl) : stepQ P ⟨s, b, n, t, e⟩ id (.build bt ⟨parts⟩) = some (.agg cs, []) := q_build hz hpl hp hf
theorem q.bs {bt el len c : Nat} {parts : List (Nat × Operand)} {zs : List AV} {vs : List (Nat × AV)} (rows : List (List AV)) (cl : Bool) (hel : elemOfSlice P bt = some el) (hz : zeroCellsAV P el = some zs) (hcl : P.cellsOf el = c) (hp : opvs s parts = some vs := by exact rfl) (hr : rowsOf c 0 vs = some rows := by exact rfl) (hc : (Nat.beq zs.length c && !Nat.beq c 0 && Nat.beq rows.length len && Nat.ble (len * c) 16777216) = true := by exact rfl) (hcc : closedR rows = cl := by exact rfl) :
    stepQ P ⟨s, b, n, t, e⟩ id (.buildSlice bt len ⟨parts⟩) = some (.als id 0 len, [(id, ⟨true, el, c, rows, cl⟩)]) := q_buildSlice hel hz hcl hp hr hc hcc
theorem q.mf {f : Fn} {first caps : List Operand} {vs ws : List AV} (h1 : opvl s first = some vs := by exact rfl) (h2 : opvl s caps = some ws := by exact rfl) : stepQ P ⟨s, b, n, t, e⟩ id (.makeFunc f ⟨first⟩ ⟨caps⟩) = some (.fn f vs ws, []) := q_makeFunc h1 h2
theorem q.sl {st el c lo0 m : Nat} {zl zh : Int} {lo hi : Option Operand} {o : Obj} (hel : elemOfSlice P st = some el) (hcl : P.cellsOf el = c) (hx : opv s x = some (.als r lo0 m) := by exact rfl) (hlo : bndv s 0 lo = some zl := by exact rfl) (hhi : bndv s m hi = some zh := by exact rfl) (h0 : 0 ≤ zl := by first | omega | assumption) (h1 : zl ≤ zh := by first | omega | assumption) (h2 : zh ≤ m := by first | omega | assumption) (ho : find b r = some o := by exact rfl) (hsz : o.sz = c := by exact rfl) (hc : Nat.beq c 0 = false := by exact rfl) :
    stepQ P ⟨s, b, n, t, e⟩ id (.slice st x lo hi none) = some (.als r (lo0 + zl.toNat) (zh.toNat - zl.toNat), []) := q_slice (l' := 0) (h' := 0) hel hcl hc hx hlo hhi h0 h1 h2 ho hsz rfl rfl
theorem q.sh {T : Type} {f : T → List AV} {l : List T} {st el c : Nat} {zl zh : Int} {lo hi : Option Operand} (hel : elemOfSlice P st = some el) (hcl : P.cellsOf el = c) (hx : opv s x = some (.sh c (l.map f)) := by exact rfl) (hlo : bndv s 0 lo = some zl := by exact rfl) (hhi : bndv s (l.map f).length hi = some zh := by exact rfl) (h0 : 0 ≤ zl := by first | omega | assumption) (h1 : zl ≤ zh := by first | omega | (simp only [List.length_map] at *; omega)) (h2 : zh ≤ (l.map f).length := by first | omega | (simp only [List.length_map]; omega)) (hc : Nat.beq c 0 = false := by exact rfl) :
    stepQ P ⟨s, b, n, t, e⟩ id (.slice st x lo hi none) = some (.sh c (((l.drop zl.toNat).take (zh.toNat - zl.toNat)).map f), []) := q_slices (l' := 0) (h' := 0) hel hcl hc hx hlo hhi h0 h1 h2 (by rw [List.map_take, List.map_drop])
end rules
section control
variable {P : Program} {s : List (Nat × AV)} {b : List (Nat × Obj)} {n t e : Nat} {Q : Exit → St → Prop}
theorem Ev.c {c : Operand} {x y : Code} {bb : Bool} (ht : bb = true → Ev P x ⟨s, b, n, t, e⟩ Q) (hf : bb = false → Ev P y ⟨s, b, n, t, e⟩ Q) (hc : opv s c = some (.lit (.bool bb)) := by exact rfl) : Ev P (.cond c x y) ⟨s, b, n, t, e⟩ Q := Ev.cond (opv_ev hc) ht hf
theorem Ev.cd {c : Operand} {x y : Code} {p : Prop} [Decidable p] (ht : p → Ev P x ⟨s, b, n, t, e⟩ Q) (hf : ¬ p → Ev P y ⟨s, b, n, t, e⟩ Q) (hc : opv s c = some (.lit (.bool (decide p))) := by exact rfl) : Ev P (.cond c x y) ⟨s, b, n, t, e⟩ Q := Ev.c (fun h => ht (of_decide_eq_true h)) (fun h => hf (of_decide_eq_false h)) hc
theorem Ev.cn {c : Operand} {x y : Code} {p : Prop} [Decidable p] (ht : ¬ p → Ev P x ⟨s, b, n, t, e⟩ Q) (hf : p → Ev P y ⟨s, b, n, t, e⟩ Q) (hc : opv s c = some (.lit (.bool (!decide p))) := by exact rfl) : Ev P (.cond c x y) ⟨s, b, n, t, e⟩ Q := Ev.c (fun h => ht (by simpa using h)) (fun h => hf (by simpa using h)) hc
theorem Ev.ct {c : Operand} {x y : Code} (h : Ev P x ⟨s, b, n, t, e⟩ Q) (hc : opv s c = some (.lit (.bool true)) := by exact rfl) : Ev P (.cond c x y) ⟨s, b, n, t, e⟩ Q := Ev.cond (opv_ev hc) (fun _ => h) (fun h => by cases h)
theorem Ev.cf {c : Operand} {x y : Code} (h : Ev P y ⟨s, b, n, t, e⟩ Q) (hc : opv s c = some (.lit (.bool false)) := by exact rfl) : Ev P (.cond c x y) ⟨s, b, n, t, e⟩ Q := Ev.cond (opv_ev hc) (fun h => by cases h) (fun _ => h)
theorem Ev.sr {σ : St} {id : Nat} {l : List Oper} {y : Code} (h : ∀ K : St → Prop, (∀ σ', Ev P y σ' Q → K σ') → SeqL P ⟨l⟩ l σ K) : Ev P (.seq (.region id ⟨l⟩ false) y) σ Q := Ev.seq (Ev.region_S fun K hK => h K fun σ' h' => hK σ' h')
theorem Ev.sm {id : Nat} {l : List Oper} {y : Code} (T : List (List Bool)) (K : Nat) (h : ∀ Kt : St → Prop, (∀ σ', Ev P y σ' Q → Kt σ') → DM P l T (n + 4 * K) (endD P l (n + 4 * K) Kt) l K 0 ⟨s, b, n, t, e⟩ []) (hm : P.follows .mixedOrders = true := by exact rfl) (hok : drawOk l T ⟨s, b, n, t, e⟩ K = true := by exact rfl)
    (hch : readsChkM l T K = true := by exact rfl) (hTl : Nat.ble K T.length = true := by exact rfl) (hkb : keysLt n b = true := by exact rfl) : Ev P (.seq (.region id ⟨l⟩ true) y) ⟨s, b, n, t, e⟩ Q := Ev.seq (Ev.region_M T K (fun Kt hK => h Kt fun σ' h' => hK σ' h') hm hok hch hTl hkb)
theorem Ev.sl {id : Nat} {l : List Oper} {y : Code} (T : List (List Bool)) (K : Nat) (h : ∀ Kt : St → Prop, (∀ σ', Ev P y σ' Q → Kt σ') → DM P l T (n + 4 * K) (lateD P l T (n + 4 * K) Kt) l K 0 ⟨s, b, n, t, e⟩ []) (hm : P.follows .mixedOrders = true := by exact rfl) (hok : drawOkL l T ⟨s, b, n, t, e⟩ K = true := by exact rfl)
    (hch : readsChkM l T K = true := by exact rfl) (hTl : Nat.ble K T.length = true := by exact rfl) (hkb : keysLt n b = true := by exact rfl) : Ev P (.seq (.region id ⟨l⟩ true) y) ⟨s, b, n, t, e⟩ Q := Ev.seq (Ev.region_L T K (fun Kt hK => h Kt fun σ' h' => hK σ' h') hm hok hch hTl hkb)
theorem Ev.ud {c : Operand} {x y : Code} {p : Prop} [Decidable p] (ht : p → Ev P y ⟨s, b, n, t, e⟩ Q) (hf : ¬ p → Ev P x ⟨s, b, n, t, e⟩ (thenP (fun σ' => Ev P y σ' Q) Q)) (hc : opv s c = some (.lit (.bool (decide p))) := by exact rfl) : Ev P (.seq (.cond c .skip x) y) ⟨s, b, n, t, e⟩ Q := Ev.seq (Ev.cd (fun h => Ev.skip (ht h)) hf hc)
mutual
theorem renAV_closed (ρ : Nat → Option Nat) : ∀ v : AV, closedAV v = true → renAV ρ v = some v
  | .als _ _ _, h => by simp [closedAV] at h
  | .adr _ _ _, h => by simp [closedAV] at h
  | .agg cs, h => by simp only [closedAV] at h; simp only [renAV, renL_closed ρ cs h, Option.map_some]
  | .tup cs, h => by simp only [closedAV] at h; simp only [renAV, renL_closed ρ cs h, Option.map_some]
  | .fn f first caps, h => by simp only [closedAV, Bool.and_eq_true] at h; simp only [renAV, renL_closed ρ first h.1, renL_closed ρ caps h.2]
  | .top, _ => rfl
  | .lit v, _ => rfl
  | .sh _ _, _ => rfl
  | .sadr _ _, _ => rfl
  | .hd _, h => by simp [closedAV] at h
  | .shm _ _, _ => rfl
  | .rem _ _ _, _ => rfl
theorem renL_closed (ρ : Nat → Option Nat) : ∀ l : List AV, closedL l = true → renL ρ l = some l
  | [], _ => rfl
  | c :: cs, h => by simp only [closedL, Bool.and_eq_true] at h; simp only [renL, renAV_closed ρ c h.1, renL_closed ρ cs h.2]
end
theorem endP_of {P : Program} {rs : List ResultVar} {Post : AV → List (Nat × Obj) → Prop} {σ : St} {vs : List AV} (hr : resAV P σ rs = some vs) (hc : closedAV (packAV vs) = true) (h : Post (packAV vs) []) : endP P rs Post .ret σ := by
  refine ⟨[], List.nodup_nil, ?_⟩; simp only [retP, hr, renAV_closed _ _ hc, keepObjs]; exact h
variable {Post : AV → List (Nat × Obj) → Prop} {u v w x y : AV} {r1 r2 r3 r4 r5 : Nat}
theorem Ev.ret1 (h : Post v []) (h1 : find s r1 = some v := by exact rfl) (hc : closedAV v = true := by exact rfl) : endP P [.tmp r1] Post .ret ⟨s, b, n, t, e⟩ :=
  endP_of (vs := [v]) (by simp [resAV, St.get, h1]) hc h
theorem Ev.ret2 (h : Post (.tup [u, v]) []) (h1 : find s r1 = some u := by exact rfl) (h2 : find s r2 = some v := by exact rfl) (hc : closedL [u, v] = true := by exact rfl) : endP P [.tmp r1, .tmp r2] Post .ret ⟨s, b, n, t, e⟩ :=
  endP_of (vs := [u, v]) (by simp [resAV, St.get, h1, h2]) (by simpa [packAV, closedAV] using hc) h
theorem Wk.frz {T : Type} {f : T → List AV} {l : List T} (d : Nat) (b' : List (Nat × Obj)) {slc : Bool} {r el c m : Nat} (hs : find s d = some (.als r 0 m) := by exact rfl) (ho : find b r = some ⟨slc, el, c, l.map f, true⟩ := by exact rfl) (hm : l.length = m := by first | exact rfl | simp) (hk : Nat.ble e r = true := by exact rfl) (hb : del b r = b' := by exact rfl) :
    Wk ⟨s, b, n, t, e⟩ ⟨(d, .sh c (l.map f)) :: s, b', n, t, e⟩ := by
  subst hb hm; have := Wk.freeze (σ := ⟨s, b, n, t, e⟩) d (r := r) (lo := 0) (n := l.length) (by simp [St.get, hs]) ho rfl (by simp) (Nat.le_of_ble_eq_true hk); simp only [List.drop_zero] at this
  rwa [List.take_of_length_le (by simp)] at this
theorem Wk.nsh {T : Type} (f : T → List AV) (d c : Nat) (hs : find s d = some (.lit (.slice none 0 0)) := by exact rfl) : Wk ⟨s, b, n, t, e⟩ ⟨(d, .sh c (([] : List T).map f)) :: s, b, n, t, e⟩ := by
  intro C E X a h; refine ⟨E, X, rfl, ⟨fun s' v hv => ?_, h.size, h.defers, h.objs, h.apart, h.stay, h.fresh, h.kept, h.mine, h.env, h.envD, h.base, h.grow, h.envk, h.glob⟩⟩; rw [find_cons] at hv
  split at hv
  · rename_i e'
    simp only [Option.some.injEq] at hv; subst e' hv; have := h.slots d _ hs; simp only [FV] at this; simp only [FV, List.map_nil]; exact ⟨none, 0, [], this, Nat.le_refl _, by simp [FVr], fun h => absurd rfl h⟩
  · exact h.slots s' v hv
theorem Wk.nown {T : Type} (f : T → List AV) (d el c : Nat) (hs : find s d = some (.lit (.slice none 0 0)) := by exact rfl) : Wk ⟨s, b, n, t, e⟩ ⟨(d, .als n 0 ([] : List T).length) :: s, (n, ⟨true, el, c, ([] : List T).map f, true⟩) :: b, n + 1, t, e⟩ :=
  Wk.nil d el c (σ := ⟨s, b, n, t, e⟩) (by simp [St.get, hs])
theorem slots_c {ρ : Nat → Option Nat} {σ : St} {k : Nat} {u v v' : AV} {l : List (Nat × AV)} (hs : find σ.slots k = some u := by exact rfl) (hr : renAV ρ u = some v := by exact rfl) (he : v = v' := by rfl) (h : slotsRen ρ σ l := by exact trivial) : slotsRen ρ σ ((k, v') :: l) := by
  subst he; exact ⟨by simp [St.get, hs, hr], h⟩
theorem keep_n {σ : St} {ρ : Nat → Option Nat} {i : Nat} : keepObjs σ ρ i [] = some [] := rfl
theorem keep_c {σ : St} {ρ : Nat → Option Nat} {i k : Nat} {ks : List Nat} {slc : Bool} {el sz : Nat} {rows rows' : List (List AV)} {l : List (Nat × Obj)} (ho : find σ.objs k = some ⟨slc, el, sz, rows, true⟩ := by exact rfl) (he : rows = rows' := by rfl) (h : keepObjs σ ρ (i + 1) ks = some l := by exact keep_n) :
    keepObjs σ ρ i (k :: ks) = some ((i, ⟨slc, el, sz, rows', true⟩) :: l) := by
  subst he; simp only [keepObjs, ho, Option.bind_some, renObj, h]
inductive Kept (ρ : Nat → Option Nat) (s : List (Nat × AV)) : List Nat → List (Nat × AV) → Prop
  | n : Kept ρ s [] []
  | c {k : Nat} {ks : List Nat} {u v : AV} {l : List (Nat × AV)} (h : Kept ρ s ks l) (hs : find s k = some u := by exact rfl) (hr : renAV ρ u = some v := by exact rfl) : Kept ρ s (k :: ks) ((k, v) :: l)
theorem Kept.ren {ρ : Nat → Option Nat} {ks : List Nat} {l : List (Nat × AV)} (h : Kept ρ s ks l) : slotsRen ρ ⟨s, b, n, t, e⟩ l := by
  induction h with
  | n => exact trivial
  | c _ hs hr ih => exact ⟨by simp [St.get, hs, hr], ih⟩
theorem slotsRen_append {ρ : Nat → Option Nat} {σ : St} : ∀ {l m : List (Nat × AV)}, slotsRen ρ σ l → slotsRen ρ σ m → slotsRen ρ σ (l ++ m)
  | [], m, _, h => h
  | p :: l, m, h1, h2 => ⟨h1.1, slotsRen_append h1.2 h2⟩
theorem Ev.loopU {c : Code} {ι : Type} (rs : List Nat) (ks : List Nat) {kept : List (Nat × AV)} (U : ι → List (Nat × AV)) (O : ι → List (Nat × Obj)) (μ : ι → Nat) (x0 : ι) (hk : Kept (pos rs 0) s ks kept) (hO : keepObjs ⟨s, b, n, t, e⟩ (pos rs 0) 0 rs = some (O x0)) (hU : slotsRen (pos rs 0) ⟨s, b, n, t, e⟩ (U x0))
    (round : ∀ x (R : Exit → St → Prop), (∀ e' σ', roundP (fun x => ⟨U x ++ kept, O x, rs.length, t, e⟩) μ x Q e' σ' → R e' σ') → Ev P c ⟨U x ++ kept, O x, rs.length, t, e⟩ R) (hnd : rs.Nodup := by decide) (hl : ∀ i, i < e → rs[i]? = some i := by decide) : Ev P (.loop c) ⟨s, b, n, t, e⟩ Q :=
  Ev.loop (fun x => ⟨U x ++ kept, O x, rs.length, t, e⟩) μ x0 (Wk.ren rs hnd (slotsRen_append hU hk.ren) hO rfl rfl rfl hl) fun x => round x _ fun _ _ h => h
theorem roundU {ι : Type} {U : ι → List (Nat × AV)} {kept : List (Nat × AV)} {O : ι → List (Nat × Obj)} {μ : ι → Nat} {x : ι} (rs ks : List Nat) {m : Nat} (y : ι) (hμ : μ y < μ x) (hO : keepObjs ⟨s, b, n, t, e⟩ (pos rs 0) 0 rs = some (O y)) (hU : slotsRen (pos rs 0) ⟨s, b, n, t, e⟩ (U y)) (hk : Kept (pos rs 0) s ks kept) (hm : rs.length = m := by exact rfl)
    (hnd : rs.Nodup := by decide) (hl : ∀ i, i < e → rs[i]? = some i := by decide) : roundP (fun x => ⟨U x ++ kept, O x, m, t, e⟩) μ x Q .normal ⟨s, b, n, t, e⟩ :=
  ⟨y, hμ, Wk.ren rs hnd (slotsRen_append hU hk.ren) hO hm.symm rfl rfl hl⟩
end control
end Go.AM
namespace Go.AM
section
variable {P : Program} {s : List (Nat × AV)} {b : List (Nat × Obj)} {n t e k : Nat} {Post : AV → List (Nat × Obj) → Prop} {u v w v' u' w' : AV} {r1 r2 r3 : Nat}
variable {ops : Array Oper} {rest : List Oper} {Q : St → Prop} {d ty : Nat} {pos' : String} {aft : Array Edge} {g : Option (Nat × Bool)} {x : Operand}
theorem S.cR {as : Array Operand} {ts : Array TypeId} {f : FuncId} {first caps : List AV} {vs : List AV} {objs l new : List (Nat × Obj)} {v v' : AV} (rs : List Nat) (n' : Nat) (b' : List (Nat × Obj))
    (hc : calleeOf (St.ev ⟨s, b, n, t, e⟩ x) = some (f, first, caps) := by exact rfl) (hv : handL ⟨s, b, n, t, e⟩ rs (first ++ (as.toList.map (St.ev ⟨s, b, n, t, e⟩) ++ caps)) = some vs := by exact rfl)
    (hob : keepObjs ⟨s, b, n, t, e⟩ (pos rs 0) 0 rs = some objs) (hF : FunR P f vs objs rs.length (Ret v l)) (hl : renAV (backN rs n) v = some v' := by exact rfl) (hn : backObjs rs n l = some new := by exact rfl)
    (hn' : (∀ r ob, find new r = some ob → r < n') ∧ n ≤ n') (hb : new ++ delAll rs b = b' := by exact rfl)
    (hT : onlyL rs (first ++ (as.toList.map (St.ev ⟨s, b, n, t, e⟩) ++ caps)) = true := by exact rfl) (hnd : rs.Nodup := by decide) (hg : guardGo (dstsOf ops) ⟨s, b, n, t, e⟩ g = some true := by exact rfl) (hd : Nat.blt d t = true := by exact rfl) (h : SeqL P ops rest ⟨(d, v') :: s, b', n', t, e⟩ Q) :
    SeqL P ops (⟨some d, .call { callee := .value x, args := as, argTypes := ts }, ty, pos', aft, g⟩ :: rest) ⟨s, b, n, t, e⟩ Q := by
  subst hb; refine SeqL.callR rs true hg rfl hc hnd hv hob (fun _ => hT) hF (.inl rfl) (fun d' h' => by cases h'; exact Nat.le_of_ble_eq_true hd) ?_; rintro u l ⟨rfl, rfl⟩; exact ⟨v', new, n', hl, hn, hn'.1, hn'.2, h⟩
theorem below1 {o : Obj} {r0 n : Nat} (h : r0 < n) : (∀ r ob, find [(r0, o)] r = some ob → r < n) ∧ n ≤ n := by
  refine ⟨fun r ob hf => ?_, Nat.le_refl _⟩; rw [find_cons] at hf
  split at hf
  · omega
  · simp [find] at hf
theorem Wk.frzl {T : Type} {f : T → List AV} (l : List T) (d : Nat) (b' : List (Nat × Obj)) {slc : Bool} {r el c m : Nat} {rows : List (List AV)} (hs : find s d = some (.als r 0 m) := by exact rfl) (ho : find b r = some ⟨slc, el, c, rows, true⟩ := by exact rfl) (hr : rows = l.map f := by exact rfl) (hm : l.length = m := by first | exact rfl | simp) (hk : Nat.ble e r = true := by exact rfl) (hb : del b r = b' := by exact rfl) :
    Wk ⟨s, b, n, t, e⟩ ⟨(d, .sh c (l.map f)) :: s, b', n, t, e⟩ := by
  subst hr; exact Wk.frz d b' hs ho hm hk hb
end
theorem S.e {P : Program} {ops : Array Oper} {s : List (Nat × AV)} {b : List (Nat × Obj)} {n t e : Nat} {K Q : St → Prop} (hK : ∀ σ', Q σ' → K σ') (h : Q ⟨s, b, n, t, e⟩) : SeqL P ops [] ⟨s, b, n, t, e⟩ K := SeqL.nil (hK _ h)
section
variable {T : Type} {p s l : List T} {a : T}
theorem lenA (h : p ++ s = l) : p.length + s.length = l.length := by rw [← h, List.length_append]
theorem getA (h : p ++ a :: s = l) : l[p.length]? = some a := by rw [← h]; simp
theorem memA (h : p ++ a :: s = l) : a ∈ l := by rw [← h]; simp
theorem sucA (h : p ++ a :: s = l) : (p ++ [a]) ++ s = l := by rw [← h]; simp
theorem cA : (a :: p) ++ s = a :: (p ++ s) := rfl
theorem nA : ([] : List T) ++ s = s := rfl
theorem lC : (a :: p).length = p.length + 1 := rfl
theorem lN : ([] : List T).length = 0 := rfl
end
theorem muL {n : Nat} : n < n + 1 := Nat.lt_succ_self n
section
variable {P : Program} {s : List (Nat × AV)} {b : List (Nat × Obj)} {n t e r1 r2 d1 d2 ty1 ty2 : Nat} {v w u : AV} {ops : Array Oper} {rest : List Oper} {Q : St → Prop} {op1 op2 : Op} {pos1 pos2 : String} {aft1 aft2 : Array Edge} {g1 g2 : Option (Nat × Bool)}
theorem Ev.p1 (h : v = w) (h1 : find s r1 = some v := by exact rfl) (hc : closedAV v = true := by exact rfl) : endP P [.tmp r1] (Ret w []) .ret ⟨s, b, n, t, e⟩ := Ev.ret1 ⟨h, rfl⟩ h1 hc
theorem Ev.q1 (h : v = w) (h1 : find s r1 = some v := by exact rfl) (hc : closedAV v = true := by exact rfl) : Ev P .ret ⟨s, b, n, t, e⟩ (endP P [.tmp r1] (Ret w [])) := Ev.ret (Ev.ret1 ⟨h, rfl⟩ h1 hc)
theorem Ev.p2 (h : AV.tup [u, v] = w) (h1 : find s r1 = some u := by exact rfl) (h2 : find s r2 = some v := by exact rfl) (hc : closedL [u, v] = true := by exact rfl) : endP P [.tmp r1, .tmp r2] (Ret w []) .ret ⟨s, b, n, t, e⟩ := Ev.ret2 ⟨h, rfl⟩ h1 h2 hc
theorem S.s2 (h : SeqL P ops rest ⟨(d2, .lit undef) :: (d1, .lit undef) :: s, b, n, t, e⟩ Q) (hg : guardGo (dstsOf ops) ⟨s, b, n, t, e⟩ g1 = some false := by exact rfl) (hd : Nat.blt d1 t = true := by exact rfl) (hg2 : guardGo (dstsOf ops) ⟨(d1, .lit undef) :: s, b, n, t, e⟩ g2 = some false := by exact rfl) (hd2 : Nat.blt d2 t = true := by exact rfl) :
    SeqL P ops (⟨some d1, op1, ty1, pos1, aft1, g1⟩ :: ⟨some d2, op2, ty2, pos2, aft2, g2⟩ :: rest) ⟨s, b, n, t, e⟩ Q := S.sk (S.sk h hg2 hd2) hg hd
end
abbrev iL (n : Int) : AV := .lit (.int .i64 n)
abbrev bL (b : Bool) : AV := .lit (.bool b)
end Go.AM
namespace Go.AM
abbrev str (l : List UInt8) : Value := .string ⟨l.toArray⟩
theorem bytes_list (l : List UInt8) : (⟨l.toArray⟩ : ByteArray).toList = l := by rw [ByteArray.toList_eq]
theorem bytes_size (l : List UInt8) : (⟨l.toArray⟩ : ByteArray).size = l.length := by simp [ByteArray.size]
theorem bytes_eta (s : ByteArray) : s = ⟨s.data.toList.toArray⟩ := by cases s; simp
theorem bytes_get (l : List UInt8) (i : Nat) : (⟨l.toArray⟩ : ByteArray)[i]? = l[i]? := by
  by_cases h : i < l.length
  · have h' : i < (⟨l.toArray⟩ : ByteArray).size := by rw [bytes_size]; exact h
    rw [getElem?_pos _ i h', List.getElem?_eq_getElem h]; rfl
  · have h' : ¬ i < (⟨l.toArray⟩ : ByteArray).size := by rw [bytes_size]; exact h
    rw [getElem?_neg _ i h', List.getElem?_eq_none (by omega)]
theorem lbeq (a b : List UInt8) : (a == b) = decide (a = b) := by
  by_cases h : a = b <;> simp [h]
section rules
variable {P : Program} {s : List (Nat × AV)} {b : List (Nat × Obj)} {n t e id : Nat} {d ty : Nat} {x y : Operand} {l m : List UInt8} {k : IntKind} {i : Int}
theorem bin_str (op : BinOp) (ty : TypeId) (x y : Operand) {v : Value} (h : pureOn P (Op.stringOp op ⟨l.toArray⟩ ⟨m.toArray⟩) = some v) : bin P op ty x y (str l) (str m) = some v := by
  have hg : pureOn P (eqGuard op ty x y (str l) (str m)) = some () := by rw [eqGuard_at_string]; rfl
  simp only [bin, pureOn_bind, hg, Option.bind_some]
  cases op <;> exact h
theorem q.seqs (hx : opv s x = some (.lit (str l)) := by exact rfl) (hy : opv s y = some (.lit (str m)) := by exact rfl) : stepQ P ⟨s, b, n, t, e⟩ id (.binOp .eql ty x y d) = some (.lit (.bool (decide (l = m))), []) := by
  have : bin P .eql ty x y (str l) (str m) = some (.bool (decide (l = m))) := bin_str _ _ _ _ (by simp only [Op.stringOp, bytes_list, pureOn_pure]; congr 2; exact lbeq _ _); simp only [stepQ, opv_ev hx, opv_ev hy, toVal, this, lits, Option.map_some]
theorem q.snes (hx : opv s x = some (.lit (str l)) := by exact rfl) (hy : opv s y = some (.lit (str m)) := by exact rfl) : stepQ P ⟨s, b, n, t, e⟩ id (.binOp .neq ty x y d) = some (.lit (.bool (!decide (l = m))), []) := by
  have : bin P .neq ty x y (str l) (str m) = some (.bool (!decide (l = m))) := bin_str _ _ _ _ (by simp only [Op.stringOp, bytes_list, pureOn_pure]; congr 3; exact lbeq _ _); simp only [stepQ, opv_ev hx, opv_ev hy, toVal, this, lits, Option.map_some]
theorem q.slen {st : Nat} (he : elemOfSlice P st = none) (hu : P.underlying st = some .string) (hx : opv s x = some (.lit (str l)) := by exact rfl) : stepQ P ⟨s, b, n, t, e⟩ id (.call { callee := .builtin .len, args := #[x], argTypes := #[st] }) = some (.lit (.int .i64 (l.length : Int)), []) := by
  have : lenV P #[st] [str l] = some (.int .i64 (l.length : Int)) := by
    simp only [lenV, Builtin.len_, pureOn_bind]; simp only [List.getElem?_toArray, List.getElem?_cons_zero, pureOn_bind, pureOn_underlying hu, Option.bind_some, pureOn_pure, goInt, bytes_size]
  simp only [stepQ, stepBuiltin, he, List.map_cons, List.map_nil, opv_ev hx, mapRows, toVals, toVal, Option.bind_some, this, lits, Option.map_some]
theorem q.six {st : Nat} {c : UInt8} (hu : P.underlying st = some .string) (hx : opv s x = some (.lit (str l)) := by exact rfl) (hy : opv s y = some (.lit (.int k i)) := by exact rfl) (hl : 0 ≤ i ∧ l[i.toNat]? = some c := by assumption) : stepQ P ⟨s, b, n, t, e⟩ id (.index st x y) = some (.lit (.int .u8 (c.toNat : Int)), []) := by
  have : idx P st (str l) (.int k i) = some (.int .u8 (c.toNat : Int)) := by
    have ha : pureOn P (asIntOf (.int k i)) = some (k, i) := rfl; simp only [idx, Instr.index, pureOn_bind, ha, Option.bind_some, pureOn_underlying hu, hl.1, if_true, bytes_get, hl.2, pureOn_pure]
  simp only [stepQ, opv_ev hx, opv_ev hy, toVal, this, lits, Option.map_some]
end rules
end Go.AM
namespace Go.AM
theorem wrap_u64 {x : Int} (h : 0 ≤ x) (h' : x ≤ 18446744073709551615) : IntKind.u64.wrap x = x := by
  have e : IntKind.u64.wrap x = x % 18446744073709551616 := by simp [IntKind.wrap, IntKind.bits, IntKind.signed]
  rw [e]; omega
section rules
variable {P : Program} {s : List (Nat × AV)} {b : List (Nat × Obj)} {n t e id : Nat} {d ty : Nat} {x y : Operand} {k k' : IntKind} {i j : Int}
theorem q.cvu {sd dd : TypeId} (hd : P.underlying dd = some (.int .u64)) (hs : (P.underlying sd).isSome = true) (hx : opv s x = some (.lit (.int k i)) := by exact rfl) (h1 : 0 ≤ i := by first | omega | assumption) (h2 : i ≤ 18446744073709551615 := by first | omega | assumption) : stepQ P ⟨s, b, n, t, e⟩ id (.convert sd dd x) = some (.lit (.int .u64 i), []) := q_conv hd hs hx (wrap_u64 h1 h2)
theorem bin_neb (P : Program) (t : TypeId) (x y : Operand) (a b : Bool) (ht : P.underlying t = some .bool) : bin P .neq t x y (.bool a) (.bool b) = some (.bool (!(a == b))) := by
  have h : pureOn P (Op.equalIn (9999 + 1) t (.bool a) (.bool b)) = some (a == b) := pure_scEq (by simp only [scEq, ht]); simp only [bin, pureOn_bind, eqGuard_at_bool, pureOn_pure, Option.bind_some, binOp, Op.equal, Op.maxDepth]; simp only [Nat.reduceAdd] at h
  simp [pureOn_bind, h, pureOn_pure]
theorem q.bneq {p q : Bool} (ht : P.underlying ty = some .bool) (hx : opv s x = some (.lit (.bool p)) := by exact rfl) (hy : opv s y = some (.lit (.bool q)) := by exact rfl) : stepQ P ⟨s, b, n, t, e⟩ id (.binOp .neq ty x y d) = some (.lit (.bool (!(p == q))), []) := by
  simp only [stepQ, opv_ev hx, opv_ev hy, toVal, bin_neb _ _ _ _ _ _ ht, lits, Option.map_some]
end rules
abbrev sL (s : List UInt8) : AV := .lit (str s)
end Go.AM
namespace Go.AM
theorem wrapU (x : Int) : IntKind.u64.wrap x = x % 18446744073709551616 := by simp [IntKind.wrap, IntKind.bits, IntKind.signed]
section rules
variable {P : Program} {s : List (Nat × AV)} {b : List (Nat × Obj)} {n t e id : Nat} {d ty : Nat} {x y : Operand} {k k' : IntKind} {i j : Int}
theorem qu.add (hx : opv s x = some (.lit (.int .u64 i)) := by exact rfl) (hy : opv s y = some (.lit (.int .u64 j)) := by exact rfl) : stepQ P ⟨s, b, n, t, e⟩ id (.binOp .add ty x y d) = some (.lit (.int .u64 ((i + j) % 18446744073709551616)), []) := by simp only [stepQ, opv_ev hx, opv_ev hy, toVal, bin_add, lits, Option.map_some, wrapU]
theorem qu.sub (hx : opv s x = some (.lit (.int .u64 i)) := by exact rfl) (hy : opv s y = some (.lit (.int .u64 j)) := by exact rfl) : stepQ P ⟨s, b, n, t, e⟩ id (.binOp .sub ty x y d) = some (.lit (.int .u64 ((i - j) % 18446744073709551616)), []) := by simp only [stepQ, opv_ev hx, opv_ev hy, toVal, bin_sub, lits, Option.map_some, wrapU]
theorem qu.mul (hx : opv s x = some (.lit (.int .u64 i)) := by exact rfl) (hy : opv s y = some (.lit (.int .u64 j)) := by exact rfl) : stepQ P ⟨s, b, n, t, e⟩ id (.binOp .mul ty x y d) = some (.lit (.int .u64 ((i * j) % 18446744073709551616)), []) := by simp only [stepQ, opv_ev hx, opv_ev hy, toVal, bin_mul, lits, Option.map_some, wrapU]
theorem qu.addB (hx : opv s x = some (.lit (.int .u64 i)) := by exact rfl) (hy : opv s y = some (.lit (.int .u64 j)) := by exact rfl) (h1 : 0 ≤ i + j := by first | omega | assumption) (h2 : i + j ≤ 18446744073709551615 := by first | omega | assumption) : stepQ P ⟨s, b, n, t, e⟩ id (.binOp .add ty x y d) = some (.lit (.int .u64 (i + j)), []) := by simp only [stepQ, opv_ev hx, opv_ev hy, toVal, bin_add, lits, Option.map_some, wrap_u64 h1 h2]
theorem qu.mulB (hx : opv s x = some (.lit (.int .u64 i)) := by exact rfl) (hy : opv s y = some (.lit (.int .u64 j)) := by exact rfl) (h1 : 0 ≤ i * j := by first | omega | assumption) (h2 : i * j ≤ 18446744073709551615 := by first | omega | assumption) : stepQ P ⟨s, b, n, t, e⟩ id (.binOp .mul ty x y d) = some (.lit (.int .u64 (i * j)), []) := by simp only [stepQ, opv_ev hx, opv_ev hy, toVal, bin_mul, lits, Option.map_some, wrap_u64 h1 h2]
theorem qu.quo (hx : opv s x = some (.lit (.int .u64 i)) := by exact rfl) (hy : opv s y = some (.lit (.int .u64 j)) := by exact rfl) (h1 : 0 ≤ i := by first | omega | assumption) (h2 : i ≤ 18446744073709551615 := by first | omega | assumption) (h3 : 0 < j := by first | omega | assumption) : stepQ P ⟨s, b, n, t, e⟩ id (.binOp .quo ty x y d) = some (.lit (.int .u64 (i / j)), []) := by
  have h4 : 0 ≤ i / j := Int.ediv_nonneg h1 (by omega); have h5 : i / j ≤ i := Int.ediv_le_self j h1; simp only [stepQ, opv_ev hx, opv_ev hy, toVal, bin_quo _ _ _ _ _ _ _ (show j ≠ 0 by omega), lits, Option.map_some, tdiv_nn h1, wrap_u64 (show 0 ≤ i / j by omega) (show i / j ≤ 18446744073709551615 by omega)]
theorem qu.rem (hx : opv s x = some (.lit (.int .u64 i)) := by exact rfl) (hy : opv s y = some (.lit (.int .u64 j)) := by exact rfl) (h1 : 0 ≤ i := by first | omega | assumption) (h3 : j ≠ 0 := by first | omega | assumption) : stepQ P ⟨s, b, n, t, e⟩ id (.binOp .rem ty x y d) = some (.lit (.int .u64 (i % j)), []) := by simp only [stepQ, opv_ev hx, opv_ev hy, toVal, bin_rem _ _ _ _ _ _ _ h3, lits, Option.map_some, tmod_nn h1]
theorem bin_shlU (P : Program) (t : TypeId) (x y : Operand) (yk : IntKind) (a c m : Int) (hc : 0 ≤ c) (hm : (2 : Int) ^ (min c.toNat 64) = m) : bin P .shl t x y (.int .u64 a) (.int yk c) = some (.int .u64 ((a * m) % 18446744073709551616)) := by
  have hk : IntKind.u64.bits = 64 := rfl
  have : (Op.shift .shl .u64 a yk c) = pure (.int .u64 ((a * m) % 18446744073709551616)) := by
    simp only [Op.shift, hk]; rw [if_neg (by omega), hm, wrapU]
  simp [bin, pureOn_bind, eqGuard_at_int, binOp, this, pureOn_pure]
theorem bin_shrU (P : Program) (t : TypeId) (x y : Operand) (yk : IntKind) (a c m : Int) (hc : 0 ≤ c) (hm : (2 : Int) ^ (min c.toNat 64) = m) : bin P .shr t x y (.int .u64 a) (.int yk c) = some (.int .u64 (a / m)) := by
  have hk : IntKind.u64.bits = 64 := rfl
  have h0 : 0 ≤ m := by rw [← hm]; exact Int.pow_nonneg (by decide)
  have : (Op.shift .shr .u64 a yk c) = pure (.int .u64 (a / m)) := by
    simp only [Op.shift, hk]; rw [if_neg (by omega), hm]
    congr 2
    rw [Int.fdiv_eq_ediv_of_nonneg _ h0]
  simp [bin, pureOn_bind, eqGuard_at_int, binOp, this, pureOn_pure]
theorem qu.shl {yk : IntKind} {c : Int} (m : Int) (hm : (2 : Int) ^ (min c.toNat 64) = m) (hx : opv s x = some (.lit (.int .u64 i)) := by exact rfl) (hy : opv s y = some (.lit (.int yk c)) := by exact rfl) (hc : 0 ≤ c := by decide) : stepQ P ⟨s, b, n, t, e⟩ id (.binOp .shl ty x y d) = some (.lit (.int .u64 ((i * m) % 18446744073709551616)), []) := by
  simp only [stepQ, opv_ev hx, opv_ev hy, toVal, bin_shlU _ _ _ _ _ _ _ _ hc hm, lits, Option.map_some]
theorem qu.shr {yk : IntKind} {c : Int} (m : Int) (hm : (2 : Int) ^ (min c.toNat 64) = m) (hx : opv s x = some (.lit (.int .u64 i)) := by exact rfl) (hy : opv s y = some (.lit (.int yk c)) := by exact rfl) (hc : 0 ≤ c := by decide) : stepQ P ⟨s, b, n, t, e⟩ id (.binOp .shr ty x y d) = some (.lit (.int .u64 (i / m)), []) := by
  simp only [stepQ, opv_ev hx, opv_ev hy, toVal, bin_shrU _ _ _ _ _ _ _ _ hc hm, lits, Option.map_some]
theorem bin_andU (P : Program) (t : TypeId) (x y : Operand) (a : Int) (q : Nat) (h1 : 0 ≤ a) (h2 : a ≤ 18446744073709551615) (hq : q ≤ 64) : bin P .and t x y (.int .u64 a) (.int .u64 ((2 : Int) ^ q - 1)) = some (.int .u64 (a % (2 : Int) ^ q)) := by
  have hk : IntKind.u64.bits = 64 := rfl; obtain ⟨a, rfl⟩ := Int.eq_ofNat_of_zero_le h1
  have h3 : a < 2 ^ 64 := by omega
  have hp : (2 : Nat) ^ q ≤ 2 ^ 64 := Nat.pow_le_pow_right (by decide) hq; have hpos : 0 < (2 : Nat) ^ q := Nat.pow_pos (by decide)
  have e2 : ((2 : Int) ^ q - 1) = ((2 ^ q - 1 : Nat) : Int) := by
    rw [Int.ofNat_sub hpos]
    simp
  have e : (Op.intBits .and .u64 (a : Int) ((2 : Int) ^ q - 1)) = pure (.int .u64 ((a : Int) % (2 : Int) ^ q)) := by
    rw [e2]; simp only [Op.intBits, hk, wrapU]
    congr 2
    rw [BitVec.toNat_and]
    have f1' : (BitVec.ofInt 64 (a : Int)).toNat = a := by rw [BitVec.ofInt_natCast, BitVec.toNat_ofNat, Nat.mod_eq_of_lt h3]
    have f2' : (BitVec.ofInt 64 ((2 ^ q - 1 : Nat) : Int)).toNat = 2 ^ q - 1 := by rw [BitVec.ofInt_natCast, BitVec.toNat_ofNat, Nat.mod_eq_of_lt (by omega)]
    have f1 : (BitVec.ofInt IntKind.u64.bits (a : Int)).toNat = a := f1'; have f2 : (BitVec.ofInt IntKind.u64.bits ((2 ^ q - 1 : Nat) : Int)).toNat = 2 ^ q - 1 := f2'; rw [f1, f2, Nat.and_two_pow_sub_one_eq_mod]; have h5 : a % 2 ^ q ≤ a := Nat.mod_le _ _
    have h6 : ((a % 2 ^ q : Nat) : Int) = (a : Int) % (2 : Int) ^ q := by simp
    rw [← h6]; omega
  simp [bin, pureOn_bind, eqGuard_at_int, binOp, e, pureOn_pure]
theorem qu.and {c : Int} (q : Nat) (m : Int) (hm : (2 : Int) ^ q = m) (hc : c = m - 1) (hq : q ≤ 64) (hx : opv s x = some (.lit (.int .u64 i)) := by exact rfl) (hy : opv s y = some (.lit (.int .u64 c)) := by exact rfl) (h1 : 0 ≤ i := by first | omega | assumption) (h2 : i ≤ 18446744073709551615 := by first | omega | assumption) : stepQ P ⟨s, b, n, t, e⟩ id (.binOp .and ty x y d) = some (.lit (.int .u64 (i % m)), []) := by
  subst hc; subst hm; simp only [stepQ, opv_ev hx, opv_ev hy, toVal, bin_andU _ _ _ _ _ _ h1 h2 hq, lits, Option.map_some]
end rules
section
variable {P : Program} {s : List (Nat × AV)} {b : List (Nat × Obj)} {n t e id : Nat} {x y z : Operand} {k : IntKind} {i j l : Int}
theorem maxV_int3 (ts : Array TypeId) (a b c : Int) : maxV P ts [.int k a, .int k b, .int k c] = some (.int k (max (max a b) c)) := by
  have h : ∀ u v : Int, (if u < v then v else u) = max u v := fun u v => by rw [Int.max_def]; split <;> split <;> omega
  simp [maxV, Builtin.max_, Builtin.max2, pureOn_bind, pureOn_pure, h]
theorem minV_int3 (ts : Array TypeId) (a b c : Int) : minV P ts [.int k a, .int k b, .int k c] = some (.int k (min (min a b) c)) := by
  have h : ∀ u v : Int, (if v < u then v else u) = min u v := fun u v => by rw [Int.min_def]; split <;> split <;> omega
  simp [minV, Builtin.min_, Builtin.min2, pureOn_bind, pureOn_pure, h]
theorem q.max3 {ts : Array TypeId} (hx : opv s x = some (.lit (.int k i)) := by exact rfl) (hy : opv s y = some (.lit (.int k j)) := by exact rfl) (hz : opv s z = some (.lit (.int k l)) := by exact rfl) : stepQ P ⟨s, b, n, t, e⟩ id (.call { callee := .builtin .max, args := #[x, y, z], argTypes := ts }) = some (.lit (.int k (Max.max (Max.max i j) l)), []) := by
  simp only [stepQ, stepBuiltin, List.map_cons, List.map_nil, opv_ev hx, opv_ev hy, opv_ev hz, toVals, toVal, Option.bind_some, maxV_int3, lits, Option.map_some]
theorem q.min3 {ts : Array TypeId} (hx : opv s x = some (.lit (.int k i)) := by exact rfl) (hy : opv s y = some (.lit (.int k j)) := by exact rfl) (hz : opv s z = some (.lit (.int k l)) := by exact rfl) : stepQ P ⟨s, b, n, t, e⟩ id (.call { callee := .builtin .min, args := #[x, y, z], argTypes := ts }) = some (.lit (.int k (Min.min (Min.min i j) l)), []) := by
  simp only [stepQ, stepBuiltin, List.map_cons, List.map_nil, opv_ev hx, opv_ev hy, opv_ev hz, toVals, toVal, Option.bind_some, minV_int3, lits, Option.map_some]
theorem q.cap0 {st el : Nat} (hel : elemOfSlice P st = some el) (hx : opv s x = some (.lit (.slice none 0 0)) := by exact rfl) : stepQ P ⟨s, b, n, t, e⟩ id (.call { callee := .builtin .cap, args := #[x], argTypes := #[st] }) = some (.lit (.int .i64 0), []) := by
  simp only [stepQ, stepBuiltin, hel, opv_ev hx, capAV]
end
end Go.AM
