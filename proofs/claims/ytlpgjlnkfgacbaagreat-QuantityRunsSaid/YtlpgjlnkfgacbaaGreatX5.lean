/-
  Part 5 of the proof: the abstract machine, proved sound over the model.
  Conditions: none.
-/
import Derived.Lib.UnsafeStr
import Derived.Test.YtlpgjlnkfgacbaaGreatX4
set_option linter.unusedVariables false
set_option linter.unusedSimpArgs false
set_option linter.unusedSectionVars false
set_option linter.unnecessarySimpa false
namespace Go.AM
def placesL (P : Program) (t : TypeId) : Option (List (Nat × Nat)) :=
  match P.underlying t with
  | some (.struct fields) => fields.toList.mapM (fun f => (P.info? f.type).map fun i => (f.offset, i.size))
  | _ => none
theorem placesOf_L {P : Program} {t : TypeId} {pl : List (Nat × Nat)} (h : placesL P t = some pl) : placesOf P t = some fun i => pl[i]? := by
  unfold placesL at h
  unfold placesOf
  split at h
  · rename_i fields hu
    simp only [hu, h, Option.map_some]
    congr 1
    funext i
    simp
  · cases h
theorem bif_none' {α : Type} {c : Bool} {x : Option α} {v : α} (h : (bif c then none else x) = some v) : c = false ∧ x = some v := by
  cases c
  · exact ⟨rfl, h⟩
  · simp at h
def arrOf (P : Program) (t : TypeId) : Option (Nat × TypeId) :=
  match P.underlying t with
  | some (.array n e) => some (n, e)
  | _ => none
theorem arrOf_eq {P : Program} {t : TypeId} {n : Nat} {e : TypeId} (h : arrOf P t = some (n, e)) : P.underlying t = some (.array n e) := by
  unfold arrOf at h
  split at h
  · rename_i hu
    simp only [Option.some.injEq, Prod.mk.injEq] at h; rw [hu, h.1, h.2]
  · cases h
def placesG (P : Program) (t : TypeId) : Option (Nat → Option (Nat × Nat)) :=
  match placesL P t with
  | some pl => some fun i => pl[i]?
  | none => (arrOf P t).bind fun q => bif Nat.beq (P.cellsOf q.2) 0 then none else some fun k => some (k * P.cellsOf q.2, P.cellsOf q.2)
theorem placesOf_G {P : Program} {t : TypeId} {f : Nat → Option (Nat × Nat)} (h : placesG P t = some f) : placesOf P t = some f := by
  unfold placesG at h
  split at h
  · rename_i pl hpl
    simp only [Option.some.injEq] at h; rw [← h, placesOf_L hpl]
  · simp only [Option.bind_eq_some_iff] at h; obtain ⟨⟨n, e⟩, ha, h⟩ := h; have hu := arrOf_eq ha
    unfold placesOf
    simp only [hu]
    cases hi : P.info? e with
    | none => simp [Program.cellsOf, hi, Nat.beq] at h
    | some i =>
      simp only [cellsOf_info hi] at h; obtain ⟨hb, h⟩ := bif_none' h
      simpa using h
def arrAV (P : Program) (t : TypeId) (n : Int) (v : AV) : Option AV :=
  (arrOf P t).bind fun q => bif Nat.beq (P.cellsOf q.2) 0 then none else if 0 ≤ n ∧ n < q.1 then shift (n.toNat * P.cellsOf q.2) v else none
def lits (x : Option Value) : Option (AV × List (Nat × Obj)) := x.map fun z => (.lit z, [])
def vals (x : Option AV) : Option (AV × List (Nat × Obj)) := x.map fun v => (v, [])
def bin (P : Program) (op : BinOp) (t : TypeId) (x y : Operand) (a b : Value) : Option Value := pureOn P (do eqGuard op t x y a b; binOp op t a b)
def una (P : Program) (op : UnOp) (a : Value) : Option Value := pureOn P (Op.unary op a)
def conv (P : Program) (s d : TypeId) (a : Value) : Option Value := pureOn P (convert s d a)
def mkIface (P : Program) (t : TypeId) (a : Value) : Option Value := pureOn P (Instr.makeInterface t a)
def idx (P : Program) (t : TypeId) (a i : Value) : Option Value := pureOn P (Instr.index t a i)
def sliceV (P : Program) (t : TypeId) (a : Value) (lo hi : Option Value) : Option Value := pureOn P (Instr.sliceAt t a lo hi none)
def maxV (P : Program) (ts : Array TypeId) (as : List Value) : Option Value := pureOn P (Builtin.max_ ts 0 as.toArray)
def minV (P : Program) (ts : Array TypeId) (as : List Value) : Option Value := pureOn P (Builtin.min_ ts 0 as.toArray)
def lenV (P : Program) (ts : Array TypeId) (as : List Value) : Option Value := pureOn P (Builtin.len_ ts 0 as.toArray)
def optVal (σ : St) : Option Operand → Option (Option Value)
  | none => some none
  | some x => (toVal (σ.ev x)).map some
def sdataAV : AV → Option (AV × List (Nat × Obj))
  | .als r lo n => bif Nat.beq lo 0 && Nat.blt 0 n then some (.adr r 0 0, []) else none
  | .lit (.slice none 0 0) => some (.lit (.pointer none), [])
  | _ => none
def capAV : AV → Option (AV × List (Nat × Obj))
  | .lit (.slice none 0 0) => some (.lit (.int .i64 0), [])
  | _ => none
def stepBuiltin (P : Program) (σ : St) (b : Builtin) (as : Array Operand) (ts : Array TypeId) : Option (AV × List (Nat × Obj)) :=
  match b with
  | .len => match as.toList, ts.toList with
    | [x], [t] => match elemOfSlice P t with
      | some _ => (lenAV (σ.ev x)).map fun (n : Nat) => (.lit (.int .i64 (n : Int)), [])
      | none => match mapRows σ (σ.ev x) with
        | some q => (mapTy P t).bind fun p => bif Nat.beq q.1 (msz p.2) then some (.lit (.int .i64 ((q.2.length : Nat) : Int)), []) else none
        | none => lits ((toVals (as.toList.map σ.ev)).bind fun l => lenV P ts l)
    | _, _ => none
  | .max => lits ((toVals (as.toList.map σ.ev)).bind fun l => maxV P ts l)
  | .min => lits ((toVals (as.toList.map σ.ev)).bind fun l => minV P ts l)
  | .unsafeSliceData => match as.toList with
    | [x] => sdataAV (σ.ev x)
    | _ => none
  | .cap => match as.toList, ts.toList with
    | [x], [t] => match elemOfSlice P t with
      | some _ => capAV (σ.ev x)
      | none => none
    | _, _ => none
  | _ => none
def mkOk (m m' : Int) (l c b : Nat) : Bool := decide (m' = m ∧ 0 ≤ m ∧ m ≤ 1000000 ∧ l = c ∧ c ≠ 0 ∧ m.toNat * b ≤ 100000000 ∧ m.toNat * c ≤ 16777216)
def stepQ (P : Program) (σ : St) (id : Nat) : Op → Option (AV × List (Nat × Obj))
  | .move x => some (σ.ev x, [])
  | .assign x => some (σ.ev x, [])
  | .pick c x y => match σ.ev c with
    | .lit (.bool t) => some (if t then σ.ev x else σ.ev y, [])
    | _ => none
  | .binOp op t x y _ => match toVal (σ.ev x), toVal (σ.ev y) with
    | some a, some b => lits (bin P op t x y a b)
    | _, _ => none
  | .unOp op _ x => lits ((toVal (σ.ev x)).bind fun a => una P op a)
  | .convert s d x => lits ((toVal (σ.ev x)).bind fun a => conv P s d a)
  | .makeInterface t x => lits ((toVal (σ.ev x)).bind fun a => mkIface P t a)
  | .index t x i => match toVal (σ.ev x), toVal (σ.ev i) with
    | some a, some b => lits (idx P t a b)
    | _, _ => none
  | .load t x => vals (loadAV P σ t (σ.ev x))
  | .fieldAddr s x f => (fieldOf P s f).bind fun p => bif Nat.beq (P.cellsOf p.2) 0 then none else vals (shift p.1 (σ.ev x))
  | .field s x f => (fieldOf P s f).bind fun p => match σ.ev x with
    | .agg cs => vals (partAV P p.2 cs p.1)
    | _ => none
  | .indexAddr t x i => match σ.ev i with
    | .lit (.int _ n) => match elemOfSlice P t with
      | some e => bif Nat.beq (P.cellsOf e) 0 then none else vals (indexAV σ (P.cellsOf e) (σ.ev x) n)
      | none => vals (arrAV P t n (σ.ev x))
    | _ => none
  | .slice t x lo hi none => match elemOfSlice P t with
    | some e => bif Nat.beq (P.cellsOf e) 0 then none else
      (lenAV (σ.ev x)).bind fun n => (boundAV σ 0 lo).bind fun l => (boundAV σ n hi).bind fun h =>
        match σ.ev x with
        | .als r a b => (find σ.objs r).bind fun ob => bif Nat.beq ob.sz (P.cellsOf e) then vals (sliceAV (.als r a b) l h) else none
        | .sh s rows => bif Nat.beq s (P.cellsOf e) then vals (sliceAV (.sh s rows) l h) else none
        | _ => none
    | none => match toVal (σ.ev x), optVal σ lo, optVal σ hi with
      | some a, some l, some h => lits (sliceV P t a l h)
      | _, _, _ => none
  | .alloc t => (zeroCellsAV P t).map fun cs => (.adr id 0 0, [(id, ⟨false, t, cs.length, [cs], true⟩)])
  | .box t x => (cellsAV (σ.ev x)).map fun cs => (.adr id 0 0, [(id, ⟨false, t, cs.length, [cs], closedL cs⟩)])
  | .build t parts => (zeroCellsAV P t).bind fun zs => (placesG P t).bind fun pl => vals ((fillAV pl zs (parts.toList.map fun p => (p.1, σ.ev p.2))).map .agg)
  | .buildSlice t len parts => (elemOfSlice P t).bind fun e => (zeroCellsAV P e).bind fun zs => (rowsOf (P.cellsOf e) 0 (parts.toList.map fun p => (p.1, σ.ev p.2))).bind fun rows =>
    bif Nat.beq zs.length (P.cellsOf e) && !Nat.beq (P.cellsOf e) 0 && Nat.beq rows.length len && Nat.ble (len * P.cellsOf e) 16777216 then some (.als id 0 len, [(id, ⟨true, e, P.cellsOf e, rows, closedR rows⟩)]) else none
  | .makeSlice t x y => match σ.ev x, σ.ev y with
    | .lit (.int _ m), .lit (.int _ m') => (elemOfSlice P t).bind fun e => (zeroCellsAV P e).bind fun zs => bif mkOk m m' zs.length (P.cellsOf e) (P.bytesOf e) then some (.als id 0 m.toNat, [(id, ⟨true, e, P.cellsOf e, List.replicate m.toNat zs, true⟩)]) else none
    | _, _ => none
  | .makeFunc f first caps => some (.fn f (first.toList.map σ.ev) (caps.toList.map σ.ev), [])
  | .extract x k => match σ.ev x with
    | .tup vs => vals (vs[k]?)
    | _ => none
  | .nilCheck x => match σ.ev x with
    | .adr r i j => some (.adr r i j, [])
    | .sadr row j => some (.sadr row j, [])
    | _ => none
  | .call { callee := .builtin b, args := as, argTypes := ts } => stepBuiltin P σ b as ts
  | .makeMap t none => (mapTy P t).map fun p => (.hd id, [(id, ⟨true, t, msz p.2, [], true⟩)])
  | .lookup t x i ok => (mapTy P t).bind fun p => (mapRows σ (σ.ev x)).bind fun q => (toVal (σ.ev i)).bind fun k => bif Nat.beq q.1 (msz p.2) && keyB p.1 k then (findAV p.1 k q.2 0).bind fun r => vals (lookAV p.2 ok r) else none
  | .range t x => match σ.ev x with
    | .shm sz rows => (mapTy P t).map fun _ => (.hd id, [(id, ⟨false, 0, 1, [[.rem sz [] rows]], true⟩)])
    | _ => none
  | .entry x => (iterAV σ (σ.ev x)).bind fun q => vals ((entAV q.2).map fun u => .tup [q.1, u])
  | _ => none
theorem toVal_ev {C : Ctx} {E : Env} {X : Nat → List Value} {σ : St} {a : Act} (h : Rel C E X σ a) {x : Operand} {v : Value} (hv : toVal (σ.ev x) = some v) : a.eval x = v := FV.toVal hv (h.ev x)
theorem toVals_ev {C : Ctx} {E : Env} {X : Nat → List Value} {σ : St} {a : Act} (h : Rel C E X σ a) {l : List Operand} {vs : List Value} (hv : toVals (l.map σ.ev) = some vs) : l.map a.eval = vs := FVs.toVals hv (h.evs l)
theorem optVal_ev {C : Ctx} {E : Env} {X : Nat → List Value} {σ : St} {a : Act} (h : Rel C E X σ a) {x : Option Operand} {v : Option Value} (hv : optVal σ x = some v) : x.map a.eval = v := by
  cases x with
  | none => simp only [optVal, Option.some.injEq] at hv; exact hv
  | some y =>
    simp only [optVal, Option.map_eq_some_iff] at hv; obtain ⟨u, h1, rfl⟩ := hv
    simp [toVal_ev h h1]
theorem lits_some {x : Option Value} {v : AV} {new : List (Nat × Obj)} (h : lits x = some (v, new)) : ∃ z, x = some z ∧ v = .lit z ∧ new = [] := by
  unfold lits at h
  simp only [Option.map_eq_some_iff, Prod.mk.injEq] at h; obtain ⟨z, h1, h2, h3⟩ := h; exact ⟨z, h1, h2.symm, h3.symm⟩
theorem vals_some {x : Option AV} {v : AV} {new : List (Nat × Obj)} (h : vals x = some (v, new)) : x = some v ∧ new = [] := by
  unfold vals at h
  simp only [Option.map_eq_some_iff, Prod.mk.injEq] at h; obtain ⟨z, h1, h2, h3⟩ := h; exact ⟨by rw [h1, h2], h3.symm⟩
theorem bif_some {α : Type} {c : Bool} {x : Option α} {v : α} (h : (bif c then x else none) = some v) : c = true ∧ x = some v := by
  cases c
  · simp at h
  · exact ⟨rfl, h⟩
theorem bif_none {α : Type} {c : Bool} {x : Option α} {v : α} (h : (bif c then none else x) = some v) : c = false ∧ x = some v := by
  cases c
  · exact ⟨rfl, h⟩
  · simp at h
theorem beq_false_ne {m n : Nat} (h : Nat.beq m n = false) : m ≠ n := by
  intro e; subst e; rw [Nat.beq_refl] at h
  cases h
theorem wrapI {x : Int} (h : -9223372036854775808 ≤ x) (h' : x ≤ 9223372036854775807) : IntKind.i64.wrap x = x := by
  have e : IntKind.i64.wrap x = if x % 18446744073709551616 ≥ 9223372036854775808 then x % 18446744073709551616 - 18446744073709551616 else x % 18446744073709551616 := by
    simp [IntKind.wrap, IntKind.bits, IntKind.signed]
  rw [e]
  split <;> omega
theorem range_rep {α : Type} [Inhabited α] (zc : Array α) : ∀ n, ((Array.range (n * zc.size)).map (fun k => zc[k % zc.size]!)).toList = (List.replicate n zc.toList).flatten := by
  intro n; rw [Array.toList_map, Array.toList_range]
  induction n with
  | zero => simp
  | succ n ih =>
    rw [Nat.succ_mul, List.range_add, List.map_append, ih, List.replicate_succ', List.flatten_append]
    congr 1
    simp only [List.flatten_cons, List.flatten_nil, List.append_nil, List.map_map]
    apply List.ext_getElem
    · simp
    · intro i h1 h2; simp only [List.length_map, List.length_range] at h1; simp only [List.getElem_map, List.getElem_range, Function.comp_apply, Array.getElem_toList]
      have e : (n * zc.size + i) % zc.size = i := by rw [Nat.mul_comm, Nat.mul_add_mod, Nat.mod_eq_of_lt h1]
      rw [e, getElem!_pos zc i h1]
theorem FVr_rep {E : Env} {sz : Nat} {zs : List AV} {ys : List Value} (hl : zs.length = sz) (h : FVc E zs ys) : ∀ n, FVr E sz (List.replicate n zs) (List.replicate n ys).flatten
  | 0 => rfl
  | n + 1 => by
    rw [List.replicate_succ, List.replicate_succ, List.flatten_cons]; simp only [FVr]; exact ⟨ys, _, rfl, hl, h, FVr_rep hl h n⟩
theorem Local.makeSlice {P : Program} {σ : St} {o : Oper} {ty el by' m id : Nat} {x y : Operand} {k1 k2 : IntKind} {zs : List AV} (ho : o.op = .makeSlice ty x y) (ht : elemOfSlice P ty = some el) (hz : zeroCellsAV P el = some zs) (hzl : zs.length = P.cellsOf el) (hpos : P.cellsOf el ≠ 0)
    (hby : P.bytesOf el = by') (hx : σ.ev x = .lit (.int k1 (m : Int))) (hy : σ.ev y = .lit (.int k2 (m : Int))) (hm : m ≤ 1000000) (hmb : m * by' ≤ 100000000) (hmc : m * P.cellsOf el ≤ 2 ^ 24) :
    Local P σ o (.als id 0 m) [(id, ⟨true, el, P.cellsOf el, List.replicate m zs, true⟩)] :=
  Local.alloc fun C E X a hr => by
    obtain ⟨i, z, hi, hzz, rfl, hzr, hfv⟩ := zeroCellsAV_spec hz; have hsz := cellsOf_info hi; rw [hsz] at hpos hzl hmc; simp only [List.length_map, Array.length_toList] at hzl
    have hbi : i.bytes = by' := by rw [← hby]; simp [Program.bytesOf, hi]
    have hund := elemOfSlice_eq ht; have hX : a.eval x = .int k1 (m : Int) := toVal_ev hr (by rw [hx]; rfl); have hY : a.eval y = .int k2 (m : Int) := toVal_ev hr (by rw [hy]; rfl)
    have hrow : ((Array.range (m * i.size)).map (fun k => z.cells[k % z.cells.size]!)).toList = (List.replicate m z.cells.toList).flatten := by
      rw [← hzl]; exact range_rep z.cells m
    have hcs : ((Array.range (m * i.size)).map (fun k => z.cells[k % z.cells.size]!)).size = m * i.size := by simp
    have hW : IntKind.i64.wrap (m : Int) = m := wrapI (by omega) (by omega); refine ⟨.slice (some ⟨E.w.heap.size, 0, none⟩) m m, (List.replicate m z.cells.toList).flatten, (Array.range (m * i.size)).map (fun k => z.cells[k % z.cells.size]!), el, ?_, rfl, ?_, by rw [hsz]; exact FVr_rep (by simp [hzl]) (hfv _) m, ?_⟩
    · unfold execOp
      have hb0 : ¬ ((i.bytes : Int) * (m : Int) > 2 ^ 48) := by
        have : (i.bytes : Int) * (m : Int) = ((m * by' : Nat) : Int) := by rw [hbi, Nat.mul_comm]; simp
        rw [this]; omega
      have hroom : ¬ (m * i.bytes > roomBytes) := by rw [hbi]; simp only [roomBytes]; omega
      have hm0 : ¬ ((m : Int) < 0) := by omega
      have hmm : ¬ ((m : Int) > (m : Int)) := by omega
      have hA : ∀ (k : IntKind) (w : World), (asInt (.int k (m : Int))).run P w = .ok (m : Int) w := fun k w => by simp [asInt, asIntOf]
      have hT : ∀ w, (typeInfo el).run P w = .ok i w := fun w => by simp [typeInfo, hi]
      have hR : ∀ w, (askRoom (m * i.bytes)).run P w = .ok () w := fun w => by simp [askRoom, hroom]
      simp only [ho, Instr.makeSlice, Sem.run_bind, run_underlying hund, Result.andThen_ok, hX, hY, hA, hT, hW, hm0, hb0, hmm, decide_false, Bool.or_self, Bool.false_eq_true, or_self, if_false, Int.toNat_natCast, hR, run_sizeOf' hi]
      by_cases h0 : m * i.size = 0
      · simp only [h0, if_true, Sem.run_pure, Result.andThen_ok, Array.range_zero', List.map_toArray, List.map_nil, Array.map_empty]
        simp [newRow]
      · simp only [h0, if_false, Sem.run_bind, hzr, Result.andThen_ok, Sem.run_pure]
        simp [newRow]
    · refine Or.inr (Or.inl ⟨E.w.heap.size, m, (Array.range (m * i.size)).map (fun k => z.cells[k % z.cells.size]!), by simp, heap_alloc_new E.w _, by simp, ?_, by rw [hsz, hcs], ?_⟩)
      · simp only [maxLen]; omega
      · rw [hrow, hsz, List.take_of_length_le]; rw [← hrow, Array.length_toList, hcs]; simp
    · intro E' hd hH hZ; simp only [FV]; refine ⟨hd, _, _, _, _, _, hH, rfl, Nat.le_refl _, fun _ => ⟨rfl, rfl⟩, fun _ => ⟨_, rfl, rfl, ?_⟩⟩
      simp [Addr.add_zero']
theorem stepBuiltin_sound {P : Program} {σ : St} {o : Oper} {b : Builtin} {as : Array Operand} {ts : Array TypeId} {v : AV} {new : List (Nat × Obj)} (ho : o.op = .call { callee := .builtin b, args := as, argTypes := ts })
    (h : stepBuiltin P σ b as ts = some (v, new)) : Local P σ o v new := by
  cases b <;> try (simp [stepBuiltin] at h; done)
  case len =>
    simp only [stepBuiltin] at h
    split at h
    · rename_i x t hx ht
      have hxe : as = #[x] := by cases as; simp at hx; simp [hx]
      have hte : ts = #[t] := by cases ts; simp at ht; simp [ht]
      subst hxe hte
      split at h
      · rename_i e he
        simp only [Option.map_eq_some_iff, Prod.mk.injEq] at h; obtain ⟨n, h1, rfl, rfl⟩ := h; exact Local.len ho he h1
      · split at h
        · rename_i q hq
          simp only [Option.bind_eq_some_iff] at h; obtain ⟨p, hp, h⟩ := h; obtain ⟨hb, h⟩ := bif_some h; simp only [Option.some.injEq, Prod.mk.injEq] at h; obtain ⟨rfl, rfl⟩ := h; rw [Nat.beq_eq] at hb; exact Local.lenMap ho (d := p.1) (z := p.2) hp (rows := q.2) (by rw [← hb]; exact hq)
        obtain ⟨z, h1, rfl, rfl⟩ := lits_some h; simp only [Option.bind_eq_some_iff] at h1; obtain ⟨l, h2, h3⟩ := h1; refine Local.scalar fun C E X a hr => ⟨Builtin.len_ #[t] 0 l.toArray, ?_, h3⟩; have he := toVals_ev hr h2; have hty : ∀ ty xs, Builtin.len_ #[t] ty xs = Builtin.len_ #[t] 0 xs := fun _ _ => rfl
        unfold execOp
        have hm : (#[x] : Array Operand).map a.eval = l.toArray := by rw [← he]; simp
        simp only [ho, resolve, invoke, builtin, pure_bind, hty o.type, hm]
    · cases h
  case unsafeSliceData =>
    simp only [stepBuiltin] at h
    split at h
    · rename_i x hx
      have hxe : as = #[x] := by cases as; simp at hx; simp [hx]
      subst hxe
      unfold sdataAV at h
      split at h
      · rename_i r lo n hev
        obtain ⟨hb, h⟩ := bif_some h; simp only [Option.some.injEq, Prod.mk.injEq] at h; obtain ⟨rfl, rfl⟩ := h; simp only [Bool.and_eq_true, Nat.beq_eq] at hb; obtain ⟨rfl, hb2⟩ := hb; have hn : 0 < n := Nat.le_of_ble_eq_true hb2; refine Local.value fun C E X a hr => ?_; have hv := hr.ev x; rw [hev] at hv; simp only [FV] at hv; obtain ⟨hD, A0, n0, c0, A, c, hH, hxv, hnc, _, hA⟩ := hv; obtain ⟨a0, rfl, hs, rfl⟩ := hA hn; refine ⟨.pointer (some (a0.add (0 * E.Z r))), ?_, ?_⟩
        · unfold execOp
          have hc : c ≠ 0 := by omega
          simp only [ho, resolve, invoke, builtin, Sem.run_bind, Sem.run_pure, Result.andThen_ok, List.map_toArray, List.map_cons, List.map_nil, hxv, Go.Lib.run_unsafeSliceData_row (w := E.w) ts _ _ _ _ hc]
        · simp only [FV]; exact ⟨hD, a0, by rw [hH]; rfl, hs, by rw [Nat.add_zero]⟩
      · rename_i hev
        simp only [Option.some.injEq, Prod.mk.injEq] at h; obtain ⟨rfl, rfl⟩ := h; refine Local.value fun C E X a hr => ⟨.pointer none, ?_, by simp [FV]⟩; have hv := hr.ev x; rw [hev] at hv; simp only [FV] at hv
        unfold execOp
        simp only [ho, resolve, invoke, builtin, Sem.run_bind, Sem.run_pure, Result.andThen_ok, List.map_toArray, List.map_cons, List.map_nil, hv, Go.Lib.run_unsafeSliceData_nil (w := E.w) ts]
      · cases h
    · cases h
  case cap =>
    simp only [stepBuiltin] at h
    split at h
    · rename_i x t hx ht
      have hxe : as = #[x] := by cases as; simp at hx; simp [hx]
      have hte : ts = #[t] := by cases ts; simp at ht; simp [ht]
      subst hxe hte
      split at h
      · rename_i el he
        unfold capAV at h
        split at h
        · rename_i hev
          simp only [Option.some.injEq, Prod.mk.injEq] at h; obtain ⟨rfl, rfl⟩ := h; have hund := elemOfSlice_eq he; refine Local.value fun C E X a hr => ⟨.int .i64 0, ?_, by simp [FV]⟩; have hv := hr.ev x; rw [hev] at hv; simp only [FV] at hv
          have hrun : (Builtin.cap_ #[t] o.type #[.slice none 0 0]).run P E.w = .ok (.int .i64 0) E.w := by
            simp [Builtin.cap_, run_underlying hund]
            rfl
          unfold execOp
          simp only [ho, resolve, invoke, builtin, Sem.run_bind, Sem.run_pure, Result.andThen_ok, List.map_toArray, List.map_cons, List.map_nil, hv, hrun]
        · cases h
      · cases h
    · cases h
  case max =>
    simp only [stepBuiltin] at h; obtain ⟨z, h1, rfl, rfl⟩ := lits_some h; simp only [Option.bind_eq_some_iff] at h1; obtain ⟨l, h2, h3⟩ := h1; refine Local.scalar fun C E X a hr => ⟨Builtin.max_ ts 0 l.toArray, ?_, h3⟩; have he := toVals_ev hr h2
    have hm : as.map a.eval = l.toArray := by rw [← he]; apply Array.ext'; simp
    unfold execOp
    have hty : ∀ ty xs, Builtin.max_ ts ty xs = Builtin.max_ ts 0 xs := fun _ _ => rfl; simp only [ho, resolve, invoke, builtin, pure_bind, hm, hty o.type]
  case min =>
    simp only [stepBuiltin] at h; obtain ⟨z, h1, rfl, rfl⟩ := lits_some h; simp only [Option.bind_eq_some_iff] at h1; obtain ⟨l, h2, h3⟩ := h1; refine Local.scalar fun C E X a hr => ⟨Builtin.min_ ts 0 l.toArray, ?_, h3⟩; have he := toVals_ev hr h2
    have hm : as.map a.eval = l.toArray := by rw [← he]; apply Array.ext'; simp
    unfold execOp
    have hty : ∀ ty xs, Builtin.min_ ts ty xs = Builtin.min_ ts 0 xs := fun _ _ => rfl; simp only [ho, resolve, invoke, builtin, pure_bind, hm, hty o.type]
theorem stepQ_sound {P : Program} {σ : St} {id : Nat} {o : Oper} {v : AV} {new : List (Nat × Obj)} (h : stepQ P σ id o.op = some (v, new)) : Local P σ o v new := by
  generalize hop : o.op = op at h
  cases op <;> try (simp [stepQ] at h; done)
  case move x =>
    simp only [stepQ, Option.some.injEq, Prod.mk.injEq] at h; obtain ⟨rfl, rfl⟩ := h; exact Local.move (.inl hop)
  case assign x =>
    simp only [stepQ, Option.some.injEq, Prod.mk.injEq] at h; obtain ⟨rfl, rfl⟩ := h; exact Local.move (.inr hop)
  case pick c x y =>
    simp only [stepQ] at h
    split at h
    · rename_i t hc
      simp only [Option.some.injEq, Prod.mk.injEq] at h; obtain ⟨rfl, rfl⟩ := h; exact Local.pick hop hc
    · cases h
  case binOp op t x y yt =>
    simp only [stepQ] at h
    split at h
    · rename_i a b ha hb
      obtain ⟨z, h1, rfl, rfl⟩ := lits_some h; refine Local.scalar fun C E X act hr => ⟨(do eqGuard op t x y a b; binOp op t a b), ?_, h1⟩
      unfold execOp
      simp only [hop, toVal_ev hr ha, toVal_ev hr hb]
    · cases h
  case unOp op t x =>
    simp only [stepQ] at h; obtain ⟨z, h1, rfl, rfl⟩ := lits_some h; simp only [Option.bind_eq_some_iff] at h1; obtain ⟨a, h2, h3⟩ := h1; refine Local.scalar fun C E X act hr => ⟨Op.unary op a, ?_, h3⟩
    unfold execOp
    simp only [hop, toVal_ev hr h2]
  case convert s d x =>
    simp only [stepQ] at h; obtain ⟨z, h1, rfl, rfl⟩ := lits_some h; simp only [Option.bind_eq_some_iff] at h1; obtain ⟨a, h2, h3⟩ := h1; refine Local.scalar fun C E X act hr => ⟨convert s d a, ?_, h3⟩
    unfold execOp
    simp only [hop, toVal_ev hr h2]
  case makeInterface t x =>
    simp only [stepQ] at h; obtain ⟨z, h1, rfl, rfl⟩ := lits_some h; simp only [Option.bind_eq_some_iff] at h1; obtain ⟨a, h2, h3⟩ := h1; refine Local.scalar fun C E X act hr => ⟨Instr.makeInterface t a, ?_, h3⟩
    unfold execOp
    simp only [hop, toVal_ev hr h2]
  case index t x i =>
    simp only [stepQ] at h
    split at h
    · rename_i a b ha hb
      obtain ⟨z, h1, rfl, rfl⟩ := lits_some h; refine Local.scalar fun C E X act hr => ⟨Instr.index t a b, ?_, h1⟩
      unfold execOp
      simp only [hop, toVal_ev hr ha, toVal_ev hr hb]
    · cases h
  case load t x =>
    simp only [stepQ] at h; obtain ⟨h1, rfl⟩ := vals_some h; exact Local.load hop h1
  case fieldAddr s x f =>
    simp only [stepQ, Option.bind_eq_some_iff] at h; obtain ⟨⟨off, ty⟩, hf, h⟩ := h; obtain ⟨hb, h⟩ := bif_none h; obtain ⟨h1, rfl⟩ := vals_some h; exact Local.fieldAddr hop hf (beq_false_ne hb) h1
  case field s x f =>
    simp only [stepQ, Option.bind_eq_some_iff] at h; obtain ⟨⟨off, ty⟩, hf, h⟩ := h
    split at h
    · rename_i cs hx
      obtain ⟨h1, rfl⟩ := vals_some h; exact Local.field hop hf hx h1
    · cases h
  case indexAddr t x i =>
    simp only [stepQ] at h
    split at h
    · rename_i k n hi
      split at h
      · rename_i e he
        obtain ⟨hb, h⟩ := bif_none h; obtain ⟨h1, rfl⟩ := vals_some h; exact Local.indexAddr hop he hi (beq_false_ne hb) h1
      · obtain ⟨h1, rfl⟩ := vals_some h; simp only [arrAV, Option.bind_eq_some_iff] at h1; obtain ⟨⟨m, e⟩, ha, h1⟩ := h1; obtain ⟨hb, h1⟩ := bif_none h1
        split at h1
        · rename_i hlt
          exact Local.indexArr hop (arrOf_eq ha) hi hlt (beq_false_ne hb) h1
        · cases h1
    · cases h
  case slice t x lo hi mx =>
    cases mx with
    | some m => simp [stepQ] at h
    | none =>
      simp only [stepQ] at h
      split at h
      · rename_i e he
        obtain ⟨hb, h⟩ := bif_none h; simp only [Option.bind_eq_some_iff] at h; obtain ⟨n, hn, l, hl, hh, hhi, h⟩ := h
        split at h
        · rename_i r a b hx
          simp only [Option.bind_eq_some_iff] at h; obtain ⟨ob, hob, h⟩ := h; obtain ⟨hz, h⟩ := bif_some h; obtain ⟨h1, rfl⟩ := vals_some h; rw [Nat.beq_eq] at hz; refine Local.slice hop he (beq_false_ne hb) hn hl hhi (fun r' a' b' e' => ?_) (fun s rows e' => ?_) (by rw [hx]; exact h1)
          · rw [hx] at e'; simp only [AV.als.injEq] at e'; obtain ⟨rfl, _, _⟩ := e'; exact ⟨ob, hob, hz⟩
          · rw [hx] at e'; cases e'
        · rename_i s rows hx
          obtain ⟨hz, h⟩ := bif_some h; obtain ⟨h1, rfl⟩ := vals_some h; rw [Nat.beq_eq] at hz; refine Local.slice hop he (beq_false_ne hb) hn hl hhi (fun r' a' b' e' => ?_) (fun s' rows' e' => ?_) (by rw [hx]; exact h1)
          · rw [hx] at e'; cases e'
          · rw [hx] at e'; simp only [AV.sh.injEq] at e'; rw [← e'.1, hz]
        · cases h
      · split at h
        · rename_i a l hh ha hl hhi
          obtain ⟨z, h1, rfl, rfl⟩ := lits_some h; refine Local.scalar fun C E X act hr => ⟨Instr.sliceAt t a l hh none, ?_, h1⟩
          unfold execOp
          simp only [hop, toVal_ev hr ha, optVal_ev hr hl, optVal_ev hr hhi, Option.map_none]
        · cases h
  case alloc t =>
    simp only [stepQ, Option.map_eq_some_iff, Prod.mk.injEq] at h; obtain ⟨cs, h1, rfl, rfl⟩ := h; exact Local.alloc1 hop h1
  case box t x =>
    simp only [stepQ, Option.map_eq_some_iff, Prod.mk.injEq] at h; obtain ⟨cs, h1, rfl, rfl⟩ := h; exact Local.box hop h1
  case build t parts =>
    simp only [stepQ, Option.bind_eq_some_iff] at h; obtain ⟨zs, hz, pl, hpl, h⟩ := h; obtain ⟨h1, rfl⟩ := vals_some h; simp only [Option.map_eq_some_iff] at h1; obtain ⟨cs, h2, rfl⟩ := h1; exact Local.build hop hz (placesOf_G hpl) h2
  case buildSlice t len parts =>
    simp only [stepQ, Option.bind_eq_some_iff] at h; obtain ⟨e, he, zs, hz, rows, hrows, h⟩ := h; obtain ⟨hb, h⟩ := bif_some h; simp only [Option.some.injEq, Prod.mk.injEq] at h; obtain ⟨rfl, rfl⟩ := h; simp only [Bool.and_eq_true, Nat.beq_eq, Bool.not_eq_true'] at hb; obtain ⟨⟨⟨hb1, hb2⟩, hb3⟩, hb4⟩ := hb; exact Local.buildSlice hop he hz hb1 (beq_false_ne hb2) hrows hb3 (ble_le hb4)
  case makeSlice t x y =>
    simp only [stepQ] at h
    split at h
    · rename_i k1 m k2 m' hx hy
      simp only [Option.bind_eq_some_iff] at h; obtain ⟨e, he, zs, hz, h⟩ := h; obtain ⟨hb, h⟩ := bif_some h; simp only [Option.some.injEq, Prod.mk.injEq] at h; obtain ⟨rfl, rfl⟩ := h; obtain ⟨h1, h2, h3, h4, h5, h6, h7⟩ := of_decide_eq_true hb; subst h1
      have hm : m' = ((m'.toNat : Nat) : Int) := by omega
      exact Local.makeSlice (k1 := k1) (k2 := k2) hop he hz h4 h5 rfl (by rw [← hm]; exact hx) (by rw [← hm]; exact hy) (by omega) h6 (by omega)
    · cases h
  case makeFunc f first caps =>
    simp only [stepQ, Option.some.injEq, Prod.mk.injEq] at h; obtain ⟨rfl, rfl⟩ := h; exact Local.makeFunc hop
  case extract x k =>
    simp only [stepQ] at h
    split at h
    · rename_i vs hx
      obtain ⟨h1, rfl⟩ := vals_some h; exact Local.extract hop hx h1
    · cases h
  case nilCheck x =>
    simp only [stepQ] at h
    split at h
    · rename_i r i j hx
      simp only [Option.some.injEq, Prod.mk.injEq] at h; obtain ⟨rfl, rfl⟩ := h; have := Local.nilCheck (P := P) hop (.inl ⟨r, i, j, hx⟩)
      rwa [hx] at this
    · rename_i row j hx
      simp only [Option.some.injEq, Prod.mk.injEq] at h; obtain ⟨rfl, rfl⟩ := h; have := Local.nilCheck (P := P) hop (.inr ⟨row, j, hx⟩)
      rwa [hx] at this
    · cases h
  case call c =>
    obtain ⟨callee, as, ts⟩ := c
    cases callee <;> try (simp [stepQ] at h; done)
    case builtin b =>
      simp only [stepQ] at h; exact stepBuiltin_sound hop h
  case makeMap t res =>
    cases res with
    | some x => simp [stepQ] at h
    | none =>
      simp only [stepQ, Option.map_eq_some_iff, Prod.mk.injEq] at h; obtain ⟨p, h1, rfl, rfl⟩ := h; exact Local.makeMap hop
  case lookup t x i ok =>
    simp only [stepQ, Option.bind_eq_some_iff] at h; obtain ⟨⟨d, z⟩, h1, ⟨sz, rows⟩, h2, k, h3, h⟩ := h; obtain ⟨hb, h⟩ := bif_some h; simp only [Bool.and_eq_true, Nat.beq_eq] at hb; simp only [Option.bind_eq_some_iff] at h; obtain ⟨r, h4, h⟩ := h; obtain ⟨h5, rfl⟩ := vals_some h; obtain ⟨rfl, hb2⟩ := hb; exact Local.lookup hop h1 h2 h3 hb2 h4 h5
  case range t x =>
    simp only [stepQ] at h
    split at h
    · rename_i sz rows hx
      simp only [Option.map_eq_some_iff, Prod.mk.injEq] at h; obtain ⟨p, h1, rfl, rfl⟩ := h; exact Local.range hop h1 hx
    · cases h
  case entry x =>
    simp only [stepQ, Option.bind_eq_some_iff] at h; obtain ⟨⟨k, vs⟩, h1, h⟩ := h; obtain ⟨h2, rfl⟩ := vals_some h; simp only [Option.map_eq_some_iff] at h2; obtain ⟨u, h3, rfl⟩ := h2; exact Local.entry hop h1 h3
def appendAV (P : Program) (σ : St) (dst : Option Nat) (x y : AV) (t : TypeId) : Option St :=
  (elemOfSlice P t).bind fun e => (zeroCellsAV P e).bind fun zs => (headAV σ e (P.cellsOf e) x).bind fun h => (rowsAV σ y).bind fun q =>
    bif Nat.beq zs.length (P.cellsOf e) && !Nat.beq (P.cellsOf e) 0 && Nat.beq q.1 (P.cellsOf e) && Nat.ble ((h.2.1.length + q.2.1.length) * P.bytesOf e) 140737488355328 && Nat.ble (h.2.1.length + q.2.1.length) 140737488355328 then
        some ({ σ with objs := (σ.next, ⟨true, e, P.cellsOf e, h.2.1 ++ q.2.1, h.2.2 && q.2.2⟩) :: σ.drop1 h.1, next := σ.next + 1 }.put dst (.als σ.next 0 (h.2.1.length + q.2.1.length)))
      else none
def withinB (σ : St) : AV → Bool
  | .als r lo m => match find σ.objs r with
    | some o => Nat.ble (lo + m) o.rows.length
    | none => true
  | _ => true
theorem withinB_spec {σ : St} {v : AV} (h : withinB σ v = true) : ∀ r lo m ob, v = .als r lo m → find σ.objs r = some ob → lo + m ≤ ob.rows.length := by
  rintro r lo m ob rfl hob; simp only [withinB, hob] at h; exact Nat.le_of_ble_eq_true h
theorem appendAV_sound {P : Program} {σ σ' : St} {o : Oper} {x y : Operand} {t : TypeId} (ho : o.op = .call { callee := .builtin .append, args := #[x, y], argTypes := #[t, t] }) (hd : ∀ d, o.dst = some d → d < σ.nt)
    (h : appendAV P σ o.dst (σ.ev x) (σ.ev y) t = some σ') (hw : withinB σ (σ.ev y) = true) : Writer P σ o σ' := by
  simp only [appendAV, Option.bind_eq_some_iff] at h; obtain ⟨e, he, zs, hz, ⟨h0, rows1, c1⟩, hh, ⟨s, rows2, c2⟩, hq, h⟩ := h; obtain ⟨hb, h⟩ := bif_some h; simp only [Bool.and_eq_true, Nat.beq_eq, Bool.not_eq_true'] at hb; obtain ⟨⟨⟨⟨hb1, hb2⟩, hb3⟩, hb4⟩, hb5⟩ := hb; simp only [Option.some.injEq] at h; subst h; subst hb3; obtain ⟨i, z, hi, _⟩ := zeroCellsAV_spec hz
  have hml : (140737488355328 : Nat) ≤ maxLen := by decide
  refine Writer.append ho he hz hb1 (beq_false_ne hb2) hi hh hq (withinB_spec hw) ?_ (Nat.le_trans (ble_le hb5) hml) hd
  have : P.bytesOf e = i.bytes := by simp [Program.bytesOf, hi]
  rw [← this]; exact ble_le hb4
def stepAppend (P : Program) (σ : St) (dst : Option Nat) (as : Array Operand) (ts : Array TypeId) : Option St :=
  match as.toList, ts.toList with
  | [x, y], [t, u] => bif Nat.beq t u && withinB σ (σ.ev y) then appendAV P σ dst (σ.ev x) (σ.ev y) t else none
  | _, _ => none
theorem stepAppend_sound {P : Program} {σ σ' : St} {o : Oper} {as : Array Operand} {ts : Array TypeId} (ho : o.op = .call { callee := .builtin .append, args := as, argTypes := ts }) (hd : ∀ d, o.dst = some d → d < σ.nt)
    (h : stepAppend P σ o.dst as ts = some σ') : Writer P σ o σ' := by
  unfold stepAppend at h
  split at h
  · rename_i x y t u h1 h2
    obtain ⟨hb, h'⟩ := bif_some h; simp only [Bool.and_eq_true, Nat.beq_eq] at hb; obtain ⟨rfl, hb⟩ := hb
    have e1 : as = #[x, y] := by cases as; simp at h1; simp [h1]
    have e2 : ts = #[t, t] := by cases ts; simp at h2; simp [h2]
    subst e1 e2; exact appendAV_sound ho hd h' hb
  · cases h
def stepO (P : Program) (σ : St) (o : Oper) : Option St :=
  match o.op with
  | .store t x y => bif (P.info? t).isSome then (storeAV P σ t (σ.ev x) (σ.ev y)).map fun σ' => σ'.put o.dst .top else none
  | .call { callee := .builtin .append, args := as, argTypes := ts } => stepAppend P σ o.dst as ts
  | op => match stepQ P σ σ.next op with
    | some (v, new) => some (σ.ext o.dst v new (σ.next + new.length))
    | none => none
def dstOk (σ : St) : Option Nat → Bool
  | none => true
  | some d => Nat.blt d σ.nt
theorem dstOk_spec {σ : St} {x : Option Nat} (h : dstOk σ x = true) : ∀ d, x = some d → d < σ.nt := by
  rintro d rfl; exact Nat.le_of_ble_eq_true h
theorem stepQ_new {P : Program} {σ : St} {op : Op} {v : AV} {new : List (Nat × Obj)} {id : Nat} (h : stepQ P σ id op = some (v, new)) : new = [] ∨ ∃ ob, new = [(id, ob)] := by
  cases op <;> try (simp [stepQ] at h; done)
  case makeMap t res =>
    cases res with
    | some x => simp [stepQ] at h
    | none =>
      simp only [stepQ, Option.map_eq_some_iff, Prod.mk.injEq] at h; obtain ⟨p, h1, rfl, rfl⟩ := h; exact .inr ⟨_, rfl⟩
  case lookup t x i ok =>
    simp only [stepQ, Option.bind_eq_some_iff] at h; obtain ⟨⟨d, z⟩, h1, ⟨sz, rows⟩, h2, k, h3, h⟩ := h; obtain ⟨hb, h⟩ := bif_some h; simp only [Option.bind_eq_some_iff] at h; obtain ⟨r, h4, h⟩ := h; exact .inl (vals_some h).2
  case entry x =>
    simp only [stepQ, Option.bind_eq_some_iff] at h; obtain ⟨⟨k, vs⟩, h1, h⟩ := h; exact .inl (vals_some h).2
  case range t x =>
    simp only [stepQ] at h
    split at h
    · simp only [Option.map_eq_some_iff, Prod.mk.injEq] at h; obtain ⟨p, h1, rfl, rfl⟩ := h; exact .inr ⟨_, rfl⟩
    · cases h
  case alloc t =>
    simp only [stepQ, Option.map_eq_some_iff, Prod.mk.injEq] at h; obtain ⟨cs, h1, rfl, rfl⟩ := h; exact .inr ⟨_, rfl⟩
  case box t x =>
    simp only [stepQ, Option.map_eq_some_iff, Prod.mk.injEq] at h; obtain ⟨cs, h1, rfl, rfl⟩ := h; exact .inr ⟨_, rfl⟩
  case buildSlice t len parts =>
    simp only [stepQ, Option.bind_eq_some_iff] at h; obtain ⟨e, he, zs, hz, rows, hrows, h⟩ := h; obtain ⟨hb, h⟩ := bif_some h; simp only [Option.some.injEq, Prod.mk.injEq] at h; obtain ⟨rfl, rfl⟩ := h; exact .inr ⟨_, rfl⟩
  case makeSlice t x y =>
    simp only [stepQ] at h
    split at h
    · simp only [Option.bind_eq_some_iff] at h; obtain ⟨e, he, zs, hz, h⟩ := h; obtain ⟨hb, h⟩ := bif_some h; simp only [Option.some.injEq, Prod.mk.injEq] at h; obtain ⟨rfl, rfl⟩ := h; exact .inr ⟨_, rfl⟩
    · cases h
  case slice t x lo hi mx =>
    left
    cases mx with
    | some m => simp [stepQ] at h
    | none =>
      simp only [stepQ] at h
      split at h
      · obtain ⟨_, h⟩ := bif_none h; simp only [Option.bind_eq_some_iff] at h; obtain ⟨n, hn, l, hl, hh, hhi, h⟩ := h
        split at h
        · simp only [Option.bind_eq_some_iff] at h; obtain ⟨ob, hob, h⟩ := h; exact (vals_some (bif_some h).2).2
        · exact (vals_some (bif_some h).2).2
        · cases h
      · split at h
        · exact (lits_some h).choose_spec.2.2
        · cases h
  case call c =>
    obtain ⟨callee, as, ts⟩ := c
    cases callee <;> try (simp [stepQ] at h; done)
    case builtin b =>
      left
      simp only [stepQ] at h
      cases b <;> try (simp [stepBuiltin] at h; done)
      case len =>
        simp only [stepBuiltin] at h
        split at h
        · split at h
          · simp only [Option.map_eq_some_iff, Prod.mk.injEq] at h; obtain ⟨n, h1, _, rfl⟩ := h; rfl
          · split at h
            · simp only [Option.bind_eq_some_iff] at h; obtain ⟨p, _, h⟩ := h; have := (bif_some h).2; simp only [Option.some.injEq, Prod.mk.injEq] at this; exact this.2.symm
            · exact (lits_some h).choose_spec.2.2
        · cases h
      case unsafeSliceData =>
        simp only [stepBuiltin] at h
        split at h
        · unfold sdataAV at h
          split at h
          · have := (bif_some h).2; simp only [Option.some.injEq, Prod.mk.injEq] at this; exact this.2.symm
          · simp only [Option.some.injEq, Prod.mk.injEq] at h; exact h.2.symm
          · cases h
        · cases h
      case cap =>
        simp only [stepBuiltin] at h
        split at h
        · split at h
          · unfold capAV at h
            split at h
            · simp only [Option.some.injEq, Prod.mk.injEq] at h; exact h.2.symm
            · cases h
          · cases h
        · cases h
      case max => simp only [stepBuiltin] at h; exact (lits_some h).choose_spec.2.2
      case min => simp only [stepBuiltin] at h; exact (lits_some h).choose_spec.2.2
  all_goals left
  all_goals simp only [stepQ] at h
  all_goals first
    | exact (lits_some h).choose_spec.2.2
    | exact (vals_some h).2
    | (simp only [Option.some.injEq, Prod.mk.injEq] at h; exact h.2.symm)
    | (simp only [Option.bind_eq_some_iff] at h; obtain ⟨_, _, h⟩ := h; exact (vals_some (bif_none h).2).2)
    | (simp only [Option.bind_eq_some_iff] at h; obtain ⟨_, _, _, _, h⟩ := h; exact (vals_some h).2)
    | (simp only [Option.bind_eq_some_iff] at h; obtain ⟨_, _, h⟩ := h; split at h <;> first | exact (vals_some h).2 | cases h)
    | (split at h <;> (first | (cases h; done) | exact (lits_some h).choose_spec.2.2 | exact (vals_some h).2 | (simp only [Option.some.injEq, Prod.mk.injEq] at h; exact h.2.symm) | (split at h <;> first | exact (vals_some (bif_none h).2).2 | exact (vals_some h).2)))
theorem stepO_sound {P : Program} {σ σ' : St} {o : Oper} (hd : dstOk σ o.dst = true) (h : stepO P σ o = some σ') : Writer P σ o σ' := by
  unfold stepO at h
  split at h
  · rename_i t x y hop
    obtain ⟨hi, h⟩ := bif_some h; simp only [Option.map_eq_some_iff] at h; obtain ⟨σ1, h1, rfl⟩ := h; exact Writer.store hop (Option.isSome_iff_exists.1 hi) (dstOk_spec hd) h1
  · rename_i as ts hop
    exact stepAppend_sound hop (dstOk_spec hd) h
  · split at h
    · rename_i v new hq
      simp only [Option.some.injEq] at h; subst h; refine Writer.of_local (stepQ_sound hq) (dstOk_spec hd) ?_ (by omega)
      rcases stepQ_new hq with rfl | ⟨ob, rfl⟩
      · intro r ob hf; simp [find] at hf
      · intro r ob' hf; rw [find_cons] at hf
        split at hf
        · simp; omega
        · simp [find] at hf
    · cases h
end Go.AM
namespace Go.AM
theorem beq_dec (m n : Nat) : Nat.beq m n = decide (m = n) := by
  by_cases h : m = n
  · subst h; simp [Nat.beq_refl]
  · cases hb : Nat.beq m n
    · simp [h]
    · rw [Nat.beq_eq] at hb; exact absurd hb h
theorem ble_dec (m n : Nat) : Nat.ble m n = decide (m ≤ n) := by
  by_cases h : m ≤ n
  · simp [h, Nat.ble_eq]
  · cases hb : Nat.ble m n
    · simp [h]
    · exact absurd (Nat.le_of_ble_eq_true hb) h
theorem del_nil {α : Type} (n : Nat) : del ([] : List (Nat × α)) n = [] := rfl
theorem del_cons {α : Type} (k : Nat) (v : α) (l : List (Nat × α)) (n : Nat) : del ((k, v) :: l) n = if k = n then del l n else (k, v) :: del l n := by
  simp only [del, beq_dec]
  by_cases h : k = n <;> simp [h]
theorem pureOn_underlying {P : Program} {t : TypeId} {d : TypeDesc} (h : P.underlying t = some d) : pureOn P (underlying t) = some d := by
  simp only [underlying, pureOn_bind]; have : pureOn P program = some P := rfl; rw [this, Option.bind_some, h]; rfl
section
variable (P : Program) (t : TypeId) (x y : Operand) (k : IntKind) (a b : Int)
theorem bin_add : bin P .add t x y (.int k a) (.int k b) = some (.int k (k.wrap (a + b))) := by simp [bin, pureOn_bind, eqGuard, binOp, Op.intArith, pureOn_pure]
theorem bin_sub : bin P .sub t x y (.int k a) (.int k b) = some (.int k (k.wrap (a - b))) := by simp [bin, pureOn_bind, eqGuard, binOp, Op.intArith, pureOn_pure]
theorem bin_mul : bin P .mul t x y (.int k a) (.int k b) = some (.int k (k.wrap (a * b))) := by simp [bin, pureOn_bind, eqGuard, binOp, Op.intArith, pureOn_pure]
theorem bin_quo (h : b ≠ 0) : bin P .quo t x y (.int k a) (.int k b) = some (.int k (k.wrap (a.tdiv b))) := by simp [bin, pureOn_bind, eqGuard, binOp, Op.intDiv, pureOn_pure, h]
theorem bin_rem (h : b ≠ 0) : bin P .rem t x y (.int k a) (.int k b) = some (.int k (a.tmod b)) := by simp [bin, pureOn_bind, eqGuard, binOp, Op.intDiv, pureOn_pure, h]
theorem bin_eql : bin P .eql t x y (.int k a) (.int k b) = some (.bool (decide (a = b))) := by
  simp [bin, pureOn_bind, eqGuard_at_int, binOp, Op.intCmp, pureOn_pure]
  rfl
theorem bin_neq : bin P .neq t x y (.int k a) (.int k b) = some (.bool (!decide (a = b))) := by
  simp [bin, pureOn_bind, eqGuard_at_int, binOp, Op.intCmp, pureOn_pure]
  rfl
theorem bin_lss : bin P .lss t x y (.int k a) (.int k b) = some (.bool (decide (a < b))) := by simp [bin, pureOn_bind, eqGuard, binOp, Op.intCmp, pureOn_pure]
theorem bin_leq : bin P .leq t x y (.int k a) (.int k b) = some (.bool (decide (a ≤ b))) := by simp [bin, pureOn_bind, eqGuard, binOp, Op.intCmp, pureOn_pure]
theorem bin_gtr : bin P .gtr t x y (.int k a) (.int k b) = some (.bool (decide (b < a))) := by simp [bin, pureOn_bind, eqGuard, binOp, Op.intCmp, pureOn_pure]
theorem bin_geq : bin P .geq t x y (.int k a) (.int k b) = some (.bool (decide (b ≤ a))) := by simp [bin, pureOn_bind, eqGuard, binOp, Op.intCmp, pureOn_pure]
theorem una_not (c : Bool) : una P .not (.bool c) = some (.bool (!c)) := rfl
theorem una_neg : una P .neg (.int k a) = some (.int k (k.wrap (0 - a))) := rfl
theorem maxV_int (ts : Array TypeId) : maxV P ts [.int k a, .int k b] = some (.int k (max a b)) := by
  have : (if b > a then b else a) = max a b := by rw [Int.max_def]; split <;> split <;> omega
  simp [maxV, Builtin.max_, Builtin.max2, pureOn_bind, pureOn_pure, this]
theorem minV_int (ts : Array TypeId) : minV P ts [.int k a, .int k b] = some (.int k (min a b)) := by
  have : (if b < a then b else a) = min a b := by rw [Int.min_def]; split <;> split <;> omega
  simp [minV, Builtin.min_, Builtin.min2, pureOn_bind, pureOn_pure, this]
theorem conv_int (s d : TypeId) (k' : IntKind) (hd : P.underlying d = some (.int k')) (hs : (P.underlying s).isSome = true) : conv P s d (.int k a) = some (.int k' (k'.wrap a)) := by
  obtain ⟨u, hu⟩ := Option.isSome_iff_exists.1 hs; have h1 := pureOn_underlying hu; have h2 := pureOn_underlying hd; simp only [conv, convert, pureOn_bind, h1, h2, Option.bind_some]
  cases u <;> rfl
end
theorem wrap_i64 {x : Int} (h : -9223372036854775808 ≤ x) (h' : x ≤ 9223372036854775807) : IntKind.i64.wrap x = x := by
  have e : IntKind.i64.wrap x = if x % 18446744073709551616 ≥ 9223372036854775808 then x % 18446744073709551616 - 18446744073709551616 else x % 18446744073709551616 := by
    simp [IntKind.wrap, IntKind.bits, IntKind.signed]
  rw [e]
  split <;> omega
theorem tdiv_nn {a b : Int} (h : 0 ≤ a) : a.tdiv b = a / b := Int.tdiv_eq_ediv_of_nonneg h
theorem tmod_nn {a b : Int} (h : 0 ≤ a) : a.tmod b = a % b := Int.tmod_eq_emod_of_nonneg h
theorem Fun.of {P : Program} {f : FuncId} {fn : Func} {c : Code} {args : List AV} {Post : AV → List (Nat × Obj) → Prop} {nt : Nat} {rs : List ResultVar} (hf : P.funcs[f]? = some fn) (hb : fn.body = some c) (ht : fn.ntmps = nt)
    (hr : fn.results.toList = rs) (hnm : (fn.name == "runtime.NumGoroutine") = false) (hn : Nat.ble args.length nt = true) (h : Ev P c ⟨argSlots 0 args, [], 0, nt, 0⟩ (endP P rs Post)) : Fun P f args Post :=
  Fun.of_body hf hb hnm (by rw [ht]; exact ble_le hn) (by rw [ht, hr]; exact h)
end Go.AM
namespace Go.AM
structure Res where
  dst : Nat
  v : AV
  new : List (Nat × Obj)
def slotsM : List Bool → List Res → List (Nat × AV)
  | b :: bs, r :: rs => bif b then (r.dst, r.v) :: slotsM bs rs else slotsM bs rs
  | _, _ => []
def objsM : List Bool → List Res → List (Nat × Obj)
  | b :: bs, r :: rs => bif b then r.new ++ objsM bs rs else objsM bs rs
  | _, _ => []
def hide (ds : List Nat) : List (Nat × AV) → List (Nat × AV)
  | [] => []
  | p :: l => bif ds.elem p.1 then hide ds l else p :: hide ds l
def stM (σ : St) (ds : List Nat) (nx : Nat) (bs : List Bool) (R : List Res) : St :=
  { slots := slotsM bs R ++ hide ds σ.slots, objs := objsM bs R ++ σ.objs, next := nx, nt := σ.nt, env := σ.env }
theorem find_slotsM : ∀ (bs : List Bool) (R : List Res) (s : Nat) (v : AV), find (slotsM bs R) s = some v → ∃ (j : Nat) (r : Res), bs[j]? = some true ∧ R[j]? = some r ∧ r.dst = s ∧ r.v = v
  | [], R, s, v, h => by cases R <;> simp [slotsM, find] at h
  | b :: bs, [], s, v, h => by simp [slotsM, find] at h
  | b :: bs, r :: R, s, v, h => by
    simp only [slotsM] at h
    cases b with
    | false =>
      obtain ⟨j, r', h1, h2, h3, h4⟩ := find_slotsM bs R s v (by simpa using h); exact ⟨j + 1, r', by simpa using h1, by simpa using h2, h3, h4⟩
    | true =>
      simp only [cond_true] at h; rw [find_cons] at h
      split at h
      · rename_i e
        simp only [Option.some.injEq] at h; exact ⟨0, r, rfl, rfl, e, h⟩
      · obtain ⟨j, r', h1, h2, h3, h4⟩ := find_slotsM bs R s v h; exact ⟨j + 1, r', by simpa using h1, by simpa using h2, h3, h4⟩
theorem slotsM_find : ∀ (bs : List Bool) (R : List Res) (j : Nat) (r : Res), (R.map (·.dst)).Nodup → bs[j]? = some true → R[j]? = some r → find (slotsM bs R) r.dst = some r.v
  | [], R, j, r, _, h, _ => by simp at h
  | b :: bs, [], j, r, _, _, h => by simp at h
  | b :: bs, r0 :: R, j, r, hn, hb, hr => by
    simp only [List.map_cons, List.nodup_cons] at hn; simp only [slotsM]
    cases j with
    | zero =>
      simp at hb hr
      subst hb hr; simp only [cond_true]; rw [find_cons, if_pos rfl]
    | succ j =>
      have ih := slotsM_find bs R j r hn.2 (by simpa using hb) (by simpa using hr)
      have hne : r0.dst ≠ r.dst := by
        intro e
        apply hn.1
        rw [e]; exact List.mem_map.2 ⟨r, List.mem_of_getElem? (by simpa using hr), rfl⟩
      cases b with
      | false => simpa using ih
      | true =>
        simp only [cond_true]; rw [find_cons, if_neg hne]; exact ih
theorem find_objsM : ∀ (bs : List Bool) (R : List Res) (k : Nat) (o : Obj), find (objsM bs R) k = some o → ∃ (j : Nat) (r : Res), bs[j]? = some true ∧ R[j]? = some r ∧ find r.new k = some o
  | [], R, k, o, h => by cases R <;> simp [objsM, find] at h
  | b :: bs, [], k, o, h => by simp [objsM, find] at h
  | b :: bs, r :: R, k, o, h => by
    simp only [objsM] at h
    cases b with
    | false =>
      obtain ⟨j, r', h1, h2, h3⟩ := find_objsM bs R k o (by simpa using h); exact ⟨j + 1, r', by simpa using h1, by simpa using h2, h3⟩
    | true =>
      simp only [cond_true] at h; rw [find_append] at h
      cases hf : find r.new k with
      | some o' =>
        rw [hf] at h; simp only [Option.some_or, Option.some.injEq] at h; exact ⟨0, r, rfl, rfl, by rw [hf, h]⟩
      | none =>
        rw [hf] at h; obtain ⟨j, r', h1, h2, h3⟩ := find_objsM bs R k o (by simpa using h); exact ⟨j + 1, r', by simpa using h1, by simpa using h2, h3⟩
theorem objsM_find (N : Nat) : ∀ (bs : List Bool) (R : List Res) (i j : Nat) (r : Res) (k : Nat) (o : Obj), (∀ m q, R[m]? = some q → ∀ k o, find q.new k = some o → N + 4 * (i + m) ≤ k ∧ k < N + 4 * (i + m) + 4) →
    bs[j]? = some true → R[j]? = some r → find r.new k = some o → find (objsM bs R) k = some o
  | [], R, i, j, r, k, o, _, h, _, _ => by simp at h
  | b :: bs, [], i, j, r, k, o, _, _, h, _ => by simp at h
  | b :: bs, r0 :: R, i, j, r, k, o, hn, hb, hr, hf => by
    simp only [objsM]
    cases j with
    | zero =>
      simp at hb hr
      subst hb hr; simp only [cond_true]; rw [find_append, hf]; rfl
    | succ j =>
      have ih := objsM_find N bs R (i + 1) j r k o (fun m q hq k o hf => by have := hn (m + 1) q (by simpa using hq) k o hf; omega) (by simpa using hb) (by simpa using hr) hf
      cases b with
      | false => simpa using ih
      | true =>
        simp only [cond_true]; rw [find_append]
        have : find r0.new k = none := by
          cases h0 : find r0.new k with
          | none => rfl
          | some o' =>
            exfalso
            have h1 := hn 0 r0 rfl k o' h0; have h2 := hn (j + 1) r (by simpa using hr) k o hf; omega
        rw [this]
        simpa using ih
theorem find_hide (ds : List Nat) : ∀ (l : List (Nat × AV)) (s : Nat), find (hide ds l) s = if s ∈ ds then none else find l s
  | [], s => by simp [hide, find]
  | (k, v) :: l, s => by
    simp only [hide]
    cases he : ds.elem k with
    | true =>
      have hk : k ∈ ds := by simpa using he
      simp only [cond_true]; rw [find_hide ds l s, find_cons]
      by_cases e : k = s
      · subst e; simp [hk]
      · simp [e]
    | false =>
      have hk : ¬ k ∈ ds := by simpa using he
      simp only [cond_false]; rw [find_cons, find_hide ds l s, find_cons]
      by_cases e : k = s
      · subst e; simp [hk]
      · simp [e]
def preds (o : Oper) : List Nat := (o.after.toList.filter (Region.binds .any)).map (·.on)
def bit (T : List (List Bool)) (i j : Nat) : Bool := ((T[i]?).getD []).getD j false
def chk (l : List Oper) (T : List (List Bool)) (K : Nat) : Bool :=
  (List.range l.length).all fun i => match l[i]? with
    | none => true
    | some o => Nat.ble ((T[i]?).getD []).length i && (preds o).all (fun e => Nat.blt e i) && (List.range i).all fun j => (!(bit T i j) || (preds o).any fun e => Nat.beq e j || (Nat.blt j e && bit T e j)) && (Nat.blt i K || bit T i j)
theorem chk_spec {l : List Oper} {T : List (List Bool)} {K : Nat} (h : chk l T K = true) {i : Nat} {o : Oper} (hi : l[i]? = some o) :
    ((T[i]?).getD []).length ≤ i ∧ (∀ e ∈ preds o, e < i) ∧ ∀ j, j < i → (bit T i j = true → ∃ e ∈ preds o, e = j ∨ (j < e ∧ bit T e j = true)) ∧ (K ≤ i → bit T i j = true) := by
  unfold chk at h
  rw [List.all_eq_true] at h; have hlt : i < l.length := (List.getElem?_eq_some_iff.1 hi).1; have := h i (by simpa using hlt); simp only [hi, Bool.and_eq_true, List.all_eq_true] at this; refine ⟨ble_le this.1.1, fun e he => Nat.le_of_ble_eq_true (this.1.2 e he), fun j hj => ?_⟩; have hj' := this.2 j (by simpa using hj); simp only [Bool.or_eq_true, Bool.not_eq_true', List.any_eq_true] at hj'; refine ⟨fun hb => ?_, fun hK => ?_⟩
  · rcases hj'.1 with h0 | ⟨e, he, h1⟩
    · rw [hb] at h0; cases h0
    · refine ⟨e, he, h1.imp (fun h => by rwa [Nat.beq_eq] at h) (fun h => ?_)⟩; rw [Bool.and_eq_true] at h; exact ⟨Nat.le_of_ble_eq_true h.1, h.2⟩
  · rcases hj'.2 with h0 | h0
    · have := Nat.le_of_ble_eq_true h0; omega
    · exact h0
def ResOk (P : Program) (l : List Oper) (σ : St) (ds : List Nat) (nx K : Nat) (T : List (List Bool)) (R : List Res) (i : Nat) : Prop :=
  ∀ o r, l[i]? = some o → R[i]? = some r → o.dst = some r.dst ∧ r.dst < σ.nt ∧ (∀ k ob, find r.new k = some ob → σ.next + 4 * i ≤ k ∧ k < σ.next + 4 * i + 4) ∧
    ((guardGo (dstsOf ⟨l⟩) (stM σ ds nx ((T[i]?).getD []) R) o.guard = some true ∧ Local P (stM σ ds nx ((T[i]?).getD []) R) o r.v r.new) ∨
     (guardGo (dstsOf ⟨l⟩) (stM σ ds nx ((T[i]?).getD []) R) o.guard = some false ∧ r.v = (.lit undef) ∧ r.new = []))
theorem countP_set {listed : Array Bool} {n i : Nat} (hn : listed.size = n) (hi : i < n) (hf : listed.getD i true = false) :
    (List.range n).countP (fun j => !(listed.setIfInBounds i true).getD j true) + 1 = (List.range n).countP (fun j => !listed.getD j true) := by
  have key : ∀ (m : Nat), m ≤ n → (List.range m).countP (fun j => !(listed.setIfInBounds i true).getD j true) + (if i < m then 1 else 0) = (List.range m).countP (fun j => !listed.getD j true) := by
    intro m
    induction m with
    | zero => intro _; simp
    | succ m ih =>
      intro hm; have := ih (by omega); rw [List.range_succ, List.countP_append, List.countP_append]; simp only [List.countP_singleton]
      have hms : m < listed.size := by omega
      by_cases e : i = m
      · subst e
        have h1 : (listed.setIfInBounds i true).getD i true = true := by simp [Array.getD, hms]
        rw [h1, hf, if_pos (Nat.lt_succ_self i)]; rw [if_neg (Nat.lt_irrefl i)] at this; simp only [Bool.not_true, Bool.not_false, Bool.false_eq_true, if_false, if_true]; omega
      · have h1 : (listed.setIfInBounds i true).getD m true = listed.getD m true := by simp [Array.getD, hms, e]
        rw [h1]
        by_cases c : i < m
        · rw [if_pos c] at this; rw [if_pos (show i < m + 1 by omega)]; omega
        · rw [if_neg c] at this; rw [if_neg (show ¬ i < m + 1 by omega)]; omega
  have := key n (Nat.le_refl _); rw [if_pos hi] at this; exact this
section draw
variable {P : Program} {l : List Oper} {T : List (List Bool)} {K : Nat}
theorem mem_ready {listed : Array Bool} {i : Nat} : i ∈ Region.ready .any ⟨l⟩ listed ↔ ∃ o, l[i]? = some o ∧ listed.getD i true = false ∧ ∀ e ∈ preds o, listed.getD e false = true := by
  unfold Region.ready preds
  simp only [List.mem_filter, List.mem_range, Bool.and_eq_true, Bool.not_eq_true']
  constructor
  · rintro ⟨hlt, h1, h2⟩
    have hlt' : i < l.length := by simpa using hlt
    have hi : l[i]? = some l[i] := List.getElem?_eq_getElem hlt'; refine ⟨l[i], hi, h1, ?_⟩
    have hi' : (⟨l⟩ : Array Oper)[i]? = some l[i] := by simpa using hi
    rw [hi'] at h2; simp only [Option.map_some, Option.getD_some] at h2; rw [← Array.all_toList, List.all_eq_true] at h2; intro e he; simp only [List.mem_map, List.mem_filter] at he; obtain ⟨ed, ⟨hm, hb⟩, rfl⟩ := he; have := h2 ed hm
    simpa [hb] using this
  · rintro ⟨o, hi, h1, h2⟩; have hlt : i < l.length := (List.getElem?_eq_some_iff.1 hi).1; refine ⟨by simpa using hlt, h1, ?_⟩
    have hi' : (⟨l⟩ : Array Oper)[i]? = some o := by simpa using hi
    rw [hi']; simp only [Option.map_some, Option.getD_some]; rw [← Array.all_toList, List.all_eq_true]; intro ed hm
    cases hb : Region.binds .any ed with
    | false => simp
    | true =>
      have := h2 ed.on (by simp only [List.mem_map, List.mem_filter]; exact ⟨ed, ⟨hm, hb⟩, rfl⟩)
      simp [this]
def Shut (l : List Oper) (listed : Array Bool) : Prop := ∀ i o, l[i]? = some o → listed.getD i false = true → ∀ e ∈ preds o, listed.getD e false = true
theorem listed_bits (hc : chk l T K = true) {listed : Array Bool} (hs : Shut l listed) : ∀ (i : Nat) (o : Oper), l[i]? = some o → (∀ e ∈ preds o, listed.getD e false = true) → ∀ j, j < i → bit T i j = true → listed.getD j false = true := by
  intro i
  induction i using Nat.strongRecOn with
  | _ i ih =>
    intro o ho hp j hj hb; obtain ⟨_, h1, h2⟩ := chk_spec hc ho; obtain ⟨e, he, h3⟩ := (h2 j hj).1 hb; have hle := hp e he
    rcases h3 with rfl | h3
    · exact hle
    · have hei := h1 e he; have helt : e < l.length := Nat.lt_trans hei (List.getElem?_eq_some_iff.1 ho).1; have heo : l[e]? = some l[e] := List.getElem?_eq_getElem helt; exact ih e hei _ heo (hs e _ heo hle) j h3.1 h3.2
theorem ready_exists (hc : chk l T K = true) {listed : Array Bool} (hsz : listed.size = l.length) {i : Nat} (hi : i < l.length) (hn : listed.getD i false = false) : ∃ j, j ≤ i ∧ j ∈ Region.ready .any ⟨l⟩ listed := by
  induction i using Nat.strongRecOn with
  | _ i ih =>
    have ho : l[i]? = some l[i] := List.getElem?_eq_getElem hi
    by_cases hall : ∀ e ∈ preds l[i], listed.getD e false = true
    · refine ⟨i, Nat.le_refl _, mem_ready.2 ⟨l[i], ho, ?_, hall⟩⟩; simp only [Array.getD] at hn ⊢; rw [dif_pos (by omega)] at hn ⊢; exact hn
    · obtain ⟨e, he⟩ := Classical.not_forall.1 hall; obtain ⟨he1, he2⟩ := Classical.not_imp.1 he; have hlt := (chk_spec hc ho).2.1 e he1; obtain ⟨j, h1, h2⟩ := ih e hlt (by omega) (by simpa using he2); exact ⟨j, by omega, h2⟩
theorem getD_set {listed : Array Bool} {i j : Nat} {d : Bool} (hi : i < listed.size) : (listed.setIfInBounds i true).getD j d = if i = j then true else listed.getD j d := by
  by_cases e : i = j
  · subst e; simp [Array.getD, hi]
  · simp only [e, if_false, Array.getD, Array.size_setIfInBounds]
    by_cases hj : j < listed.size
    · simp [hj, e]
    · simp [hj]
theorem getD_tf {listed : Array Bool} {j : Nat} (hj : j < listed.size) : listed.getD j true = listed.getD j false := by simp [Array.getD, hj]
theorem Shut.set (hc : chk l T K = true) {listed : Array Bool} (hs : Shut l listed) (hsz : listed.size = l.length) {i : Nat} (hr : i ∈ Region.ready .any ⟨l⟩ listed) : Shut l (listed.setIfInBounds i true) := by
  obtain ⟨o, ho, _, hp⟩ := mem_ready.1 hr
  have hlt : i < listed.size := by rw [hsz]; exact (List.getElem?_eq_some_iff.1 ho).1
  intro k ok hk hl e he; rw [getD_set hlt] at hl ⊢
  by_cases e1 : i = e
  · simp [e1]
  · rw [if_neg e1]
    by_cases e2 : i = k
    · subst e2; rw [ho] at hk; simp only [Option.some.injEq] at hk; subst hk; exact hp e he
    · rw [if_neg e2] at hl; exact hs k ok hk hl e he
theorem any_of_L (hc : chk l T K = true) {Q : Exit → Act → World → Prop} : ∀ (fuel m : Nat) (listed : Array Bool) (a : Act) (w : World), m + fuel = l.length → K ≤ m → listed.size = l.length → Shut l listed →
    (∀ j, j < l.length → listed.getD j false = decide (j < m)) → wpL P ⟨l⟩ Q (l.drop m) a w → wpAny P .any ⟨l⟩ Q fuel listed a w
  | 0, m, listed, a, w, hm, _, hsz, hs, hd, h => by
    have hnone : Region.ready .any ⟨l⟩ listed = [] := by
      apply List.eq_nil_iff_forall_not_mem.2
      intro i hi; obtain ⟨o, ho, h1, _⟩ := mem_ready.1 hi; have hlt := (List.getElem?_eq_some_iff.1 ho).1; rw [getD_tf (by omega), hd i hlt] at h1
      simp at h1
      omega
    rw [List.drop_of_length_le (by omega)] at h; exact ⟨hnone, (wpL_nil _ _ _ _ _).mp h⟩
  | fuel + 1, m, listed, a, w, hm, hK, hsz, hs, hd, h => by
    have hml : m < l.length := by omega
    have hone : ∀ i ∈ Region.ready .any ⟨l⟩ listed, i = m := by
      intro i hi; obtain ⟨o, ho, h1, hp⟩ := mem_ready.1 hi; have hlt := (List.getElem?_eq_some_iff.1 ho).1; rw [getD_tf (by omega), hd i hlt] at h1
      simp at h1
      rcases Nat.lt_or_ge m i with hmi | hmi
      · exfalso
        have hb := ((chk_spec hc ho).2.2 m hmi).2 (by omega); have := listed_bits hc hs i o ho hp m hmi hb; rw [hd m hml] at this
        simp at this
      · omega
    refine ⟨fun hnil => ?_, fun i hi => ?_⟩
    · obtain ⟨j, _, hj⟩ := ready_exists hc hsz hml (by rw [hd m hml]; simp); rw [hnil] at hj
      cases hj
    · have := hone i hi; subst this; have hsh := hs.set hc hsz hi; rw [List.drop_eq_getElem_cons hml] at h
      have ho : (⟨l⟩ : Array Oper)[i]? = some l[i] := by simpa using List.getElem?_eq_getElem hml
      have hnext : ∀ a' w', wpL P ⟨l⟩ Q (l.drop (i + 1)) a' w' → wpAny P .any ⟨l⟩ Q fuel (listed.setIfInBounds i true) a' w' := by
        intro a' w' h'; refine any_of_L hc fuel (i + 1) _ a' w' (by omega) (by omega) (by simpa using hsz) hsh (fun j hj => ?_) h'; rw [getD_set (by omega), hd j hj]
        by_cases e : i = j
        · subst e; simp
        · simp only [e, if_false]
          by_cases c : j < i
          · simp [c, show j < i + 1 by omega]
          · simp [c, show ¬ j < i + 1 by omega]
      unfold wpOp
      simp only [ho]; simp only [wpL_cons] at h
      split
      · rename_i hw
        simp only [hw, if_true] at h; exact .inl (Oper.wp_mono hnext h)
      · rename_i hw
        simp only [hw, if_false, Bool.false_eq_true] at h; exact hnext _ _ h
def bitsOf (K : Nat) (listed : Array Bool) : List Bool := (List.range K).map fun j => listed.getD j false
theorem bitsOf_get {listed : Array Bool} {j : Nat} : (bitsOf K listed)[j]? = some true ↔ j < K ∧ listed.getD j false = true := by
  unfold bitsOf
  simp only [List.getElem?_map, Option.map_eq_some_iff]
  constructor
  · rintro ⟨k, h1, h2⟩; obtain ⟨hlt, he⟩ := List.getElem?_eq_some_iff.1 h1
    simp at hlt he
    subst he; exact ⟨hlt, h2⟩
  · rintro ⟨h1, h2⟩; exact ⟨j, by simp [h1], h2⟩
theorem Rel.sub {C : Ctx} {E : Env} {X : Nat → List Value} {σ σ' : St} {a : Act} (h : Rel C E X σ a) (hs : ∀ s v, find σ'.slots s = some v → find σ.slots s = some v) (ho : ∀ r o, find σ'.objs r = some o → find σ.objs r = some o)
    (hn : σ.next ≤ σ'.next) (ht : σ'.nt = σ.nt) (he : σ'.env = σ.env) : Rel C E X σ' a :=
  ⟨fun s v hv => h.slots s v (hs s v hv), h.size.trans ht.symm, h.defers, fun r o hr => h.objs r o (ho r o hr), fun r r' o o' b hr hr' => h.apart r r' o o' b (ho r o hr) (ho r' o' hr'),
    fun b hb => ⟨(h.stay b hb).1, fun r o hr => (h.stay b hb).2 r o (ho r o hr)⟩, fun r hr => Nat.lt_of_lt_of_le (h.fresh r hr) hn, h.kept, fun r o b hr => h.mine r o b (ho r o hr), h.env, h.envD, h.base, h.grow, h.envk.trans he.symm, h.glob⟩
theorem stM_sub {σ : St} {nx : Nat} {R : List Res} {bs bs' : List Bool} (hnd : (R.map (·.dst)).Nodup) (hid : ∀ (m : Nat) (q : Res), R[m]? = some q → ∀ k o, find q.new k = some o → σ.next + 4 * (0 + m) ≤ k ∧ k < σ.next + 4 * (0 + m) + 4)
    (hσ : ∀ k o, find σ.objs k = some o → k < σ.next) (hb : ∀ j : Nat, bs'[j]? = some true → bs[j]? = some true) :
    (∀ s v, find (stM σ (R.map (·.dst)) nx bs' R).slots s = some v → find (stM σ (R.map (·.dst)) nx bs R).slots s = some v) ∧
    (∀ r o, find (stM σ (R.map (·.dst)) nx bs' R).objs r = some o → find (stM σ (R.map (·.dst)) nx bs R).objs r = some o) := by
  constructor
  · intro s v h; simp only [stM] at h ⊢; rw [find_append] at h ⊢
    cases h1 : find (slotsM bs' R) s with
    | some u =>
      rw [h1] at h; simp only [Option.some_or, Option.some.injEq] at h; subst h; obtain ⟨j, r, g1, g2, rfl, rfl⟩ := find_slotsM bs' R s u h1; rw [slotsM_find bs R j r hnd (hb j g1) g2]; rfl
    | none =>
      rw [h1] at h; simp only [Option.none_or] at h; have hh := h; rw [find_hide] at hh
      split at hh
      · cases hh
      · rename_i hmem
        cases h2 : find (slotsM bs R) s with
        | some u =>
          obtain ⟨j, r, g1, g2, rfl, rfl⟩ := find_slotsM bs R s u h2; exact absurd (List.mem_map.2 ⟨r, List.mem_of_getElem? g2, rfl⟩) hmem
        | none => simpa using h
  · intro k o h; simp only [stM] at h ⊢; rw [find_append] at h ⊢
    cases h1 : find (objsM bs' R) k with
    | some u =>
      rw [h1] at h; simp only [Option.some_or, Option.some.injEq] at h; subst h; obtain ⟨j, r, g1, g2, g3⟩ := find_objsM bs' R k u h1; rw [objsM_find σ.next bs R 0 j r k u hid (hb j g1) g2 g3]; rfl
    | none =>
      rw [h1] at h; simp only [Option.none_or] at h
      cases h2 : find (objsM bs R) k with
      | some u =>
        obtain ⟨j, r, g1, g2, g3⟩ := find_objsM bs R k u h2; have := hid j r g2 k u g3; have := hσ k o h; omega
      | none => simpa using h
theorem any_of_draw {σ : St} {nx : Nat} {R : List Res} {Q : Exit → Act → World → Prop} {C : Ctx} (hc : chk l T K = true) (hKl : K ≤ l.length) (hRl : R.length = K) (hnd : (R.map (·.dst)).Nodup)
    (hR : ∀ i, i < K → ResOk P l σ (R.map (·.dst)) nx K T R i) (hnx : σ.next + 4 * K ≤ nx) (hσ : ∀ k o, find σ.objs k = some o → k < σ.next)
    (hfin : ∀ E X a, Rel C E X (stM σ (R.map (·.dst)) nx (List.replicate K true) R) a → wpL P ⟨l⟩ Q (l.drop K) a E.w) :
    ∀ (fuel : Nat) (listed : Array Bool) (E : Env) (X : Nat → List Value) (a : Act), listed.size = l.length → (List.range l.length).countP (fun j => !listed.getD j true) = fuel → Shut l listed → (∀ i, K ≤ i → listed.getD i false = false) →
      Rel C E X (stM σ (R.map (·.dst)) nx (bitsOf K listed) R) a → (∀ r, E.D r → r < σ.next ∨ ∃ j q ob, listed.getD j false = true ∧ R[j]? = some q ∧ find q.new r = some ob) →
      wpAny P .any ⟨l⟩ Q fuel listed a E.w := by
  have hid : ∀ (m : Nat) (q : Res), R[m]? = some q → ∀ k o, find q.new k = some o → σ.next + 4 * (0 + m) ≤ k ∧ k < σ.next + 4 * (0 + m) + 4 := by
    intro m q hq k o hf
    have hm : m < K := by rw [← hRl]; exact (List.getElem?_eq_some_iff.1 hq).1
    have ho : l[m]? = some l[m] := List.getElem?_eq_getElem (by omega); have := (hR m hm _ q ho hq).2.2.1 k o hf; omega
  intro fuel
  induction fuel with
  | zero =>
    intro listed E X a hsz hcnt hs hge hr hD
    have hall : ∀ j, j < l.length → listed.getD j true = true := by
      intro j hj; have := List.countP_eq_zero.1 hcnt j (by simpa using hj)
      simpa using this
    have hKn : K = l.length := by
      rcases Nat.lt_or_ge K l.length with h | h
      · have h1 := hall K h; rw [getD_tf (by omega), hge K (Nat.le_refl _)] at h1
        cases h1
      · omega
    refine any_of_L hc 0 K listed a E.w (by omega) (Nat.le_refl _) hsz hs (fun j hj => ?_) (hfin E X a ?_)
    · rw [← getD_tf (by omega), hall j hj]
      simp; omega
    · have hb := stM_sub (nx := nx) (bs := bitsOf K listed) (bs' := List.replicate K true) hnd hid hσ (fun j hj => bitsOf_get.2 (by
        obtain ⟨hlt, _⟩ := List.getElem?_eq_some_iff.1 hj
        simp at hlt
        exact ⟨hlt, by rw [← getD_tf (by omega)]; exact hall j (by omega)⟩))
      exact hr.sub hb.1 hb.2 (Nat.le_refl _) rfl rfl
  | succ fuel ih =>
    intro listed E X a hsz hcnt hs hge hr hD
    by_cases hallK : ∀ j, j < K → listed.getD j false = true
    · -- the quiet ones are done
      have hb := stM_sub (nx := nx) (bs := bitsOf K listed) (bs' := List.replicate K true) hnd hid hσ (fun j hj => bitsOf_get.2 (by
        obtain ⟨hlt, _⟩ := List.getElem?_eq_some_iff.1 hj
        simp at hlt
        exact ⟨hlt, hallK j hlt⟩))
      have hr' := hr.sub (σ' := stM σ (R.map (·.dst)) nx (List.replicate K true) R) hb.1 hb.2 (Nat.le_refl _) rfl rfl
      have hd : ∀ j, j < l.length → listed.getD j false = decide (j < K) := by
        intro j hj
        by_cases h : j < K
        · simp [hallK j h, h]
        · simp [hge j (by omega), h]
      have hcnt2 : (List.range l.length).countP (fun j => !listed.getD j true) = l.length - K := by
        have e1 : (List.range l.length).countP (fun j => !listed.getD j true) = (List.range l.length).countP (fun j => decide (K ≤ j)) := by
          apply List.countP_congr
          intro j hj
          have hj' : j < l.length := by simpa using hj
          rw [getD_tf (by omega), hd j hj']
          simp
        rw [e1]
        have : ∀ n, (List.range n).countP (fun j => decide (K ≤ j)) = n - K := by
          intro n
          induction n with
          | zero => simp
          | succ n ihn =>
            rw [List.range_succ, List.countP_append, ihn, List.countP_singleton]
            by_cases h : K ≤ n
            · simp [h]; omega
            · simp [h]; omega
        exact this _
      exact any_of_L hc (fuel + 1) K listed a E.w (by omega) (Nat.le_refl _) hsz hs hd (hfin E X a hr')
    · obtain ⟨j0, hj0⟩ := Classical.not_forall.1 hallK; obtain ⟨hj1, hj2⟩ := Classical.not_imp.1 hj0
      have hj2 : listed.getD j0 false = false := by simpa using hj2
      refine ⟨fun hnil => ?_, fun i hi => ?_⟩
      · obtain ⟨j, _, hj⟩ := ready_exists hc hsz (show j0 < l.length by omega) hj2; rw [hnil] at hj
        cases hj
      · obtain ⟨o, ho, h1, hp⟩ := mem_ready.1 hi; have hlt := (List.getElem?_eq_some_iff.1 ho).1
        have hiK : i < K := by
          rcases Nat.lt_or_ge i K with h | h
          · exact h
          · exfalso
            have hb := ((chk_spec hc ho).2.2 j0 (by omega)).2 h; have := listed_bits hc hs i o ho hp j0 (by omega) hb; rw [hj2] at this
            cases this
        have hRi : R[i]? = some (R[i]'(by omega)) := List.getElem?_eq_getElem (by omega)
        generalize hri : (R[i]'(by omega)) = ri at hRi
        obtain ⟨hdst, hdn, hids, hor⟩ := hR i hiK o ri ho hRi; have hsh := hs.set hc hsz hi; have hlen := (chk_spec hc ho).1
        have hbits : ∀ j : Nat, ((T[i]?).getD [])[j]? = some true → (bitsOf K listed)[j]? = some true := by
          intro j hj; have hji : j < i := Nat.lt_of_lt_of_le (List.getElem?_eq_some_iff.1 hj).1 hlen; refine bitsOf_get.2 ⟨by omega, listed_bits hc hs i o ho hp j hji ?_⟩
          unfold bit
          rw [List.getD_eq_getElem?_getD, hj]; rfl
        have hb := stM_sub (nx := nx) (bs := bitsOf K listed) (bs' := (T[i]?).getD []) hnd hid hσ hbits; have hrr := hr.sub (σ' := stM σ (R.map (·.dst)) nx ((T[i]?).getD []) R) hb.1 hb.2 (Nat.le_refl _) rfl rfl
        have ho' : (⟨l⟩ : Array Oper)[i]? = some o := by simpa using ho
        have hbn : ∀ j : Nat, (bitsOf K (listed.setIfInBounds i true))[j]? = some true → j = i ∨ (bitsOf K listed)[j]? = some true := by
          intro j hj; obtain ⟨g1, g2⟩ := bitsOf_get.1 hj; rw [getD_set (by omega)] at g2
          by_cases e : i = j
          · exact .inl e.symm
          · rw [if_neg e] at g2; exact .inr (bitsOf_get.2 ⟨g1, g2⟩)
        have hstep : ∀ (E' : Env) X' a', Rel C E' X' ((stM σ (R.map (·.dst)) nx (bitsOf K listed) R).ext o.dst ri.v ri.new nx) a' → (∀ r, E'.D r → E.D r ∨ ∃ ob, find ri.new r = some ob) →
            wpAny P .any ⟨l⟩ Q fuel (listed.setIfInBounds i true) a' E'.w := by
          intro E' X' a' hr' hD'; refine ih _ E' X' a' (by simpa using hsz) ?_ hsh ?_ ?_ ?_
          · have := countP_set hsz hlt h1; omega
          · intro k hk; rw [getD_set (by omega), if_neg (by omega)]; exact hge k hk
          · refine hr'.sub ?_ ?_ (Nat.le_refl _) rfl rfl
            · intro s v hv; simp only [stM, St.ext, hdst] at hv ⊢; rw [find_cons]; rw [find_append] at hv
              cases g1 : find (slotsM (bitsOf K (listed.setIfInBounds i true)) R) s with
              | some u =>
                rw [g1] at hv; simp only [Option.some_or, Option.some.injEq] at hv; subst hv; obtain ⟨j, q, k1, k2, rfl, rfl⟩ := find_slotsM _ R s u g1
                rcases hbn j k1 with rfl | k1
                · rw [hRi] at k2; simp only [Option.some.injEq] at k2; subst k2
                  simp
                · by_cases e : ri.dst = q.dst
                  · rw [if_pos e]
                    have hij : i = j := by
                      have e1 : (R.map (·.dst))[i]? = some ri.dst := by simp [hRi]
                      have e2 : (R.map (·.dst))[j]? = some ri.dst := by simp [k2, e]
                      obtain ⟨q1, q2⟩ := List.getElem?_eq_some_iff.1 e1; obtain ⟨q3, q4⟩ := List.getElem?_eq_some_iff.1 e2; exact (List.getElem_inj hnd).1 (q2.trans q4.symm)
                    subst hij; rw [hRi] at k2; simp only [Option.some.injEq] at k2; rw [k2]
                  · rw [if_neg e, find_append, slotsM_find _ R j q hnd k1 k2]; rfl
              | none =>
                rw [g1] at hv; simp only [Option.none_or] at hv; have hh := hv; rw [find_hide] at hh
                split at hh
                · cases hh
                · rename_i hmem
                  have hne : ri.dst ≠ s := fun e => hmem (List.mem_map.2 ⟨ri, List.mem_of_getElem? hRi, e⟩); rw [if_neg hne, find_append]
                  cases g2 : find (slotsM (bitsOf K listed) R) s with
                  | some u =>
                    obtain ⟨j, q, k1, k2, rfl, rfl⟩ := find_slotsM _ R s u g2; exact absurd (List.mem_map.2 ⟨q, List.mem_of_getElem? k2, rfl⟩) hmem
                  | none => simpa using hv
            · intro k ob hv; simp only [stM, St.ext] at hv ⊢; rw [find_append] at hv; rw [find_append]
              cases g1 : find (objsM (bitsOf K (listed.setIfInBounds i true)) R) k with
              | some u =>
                rw [g1] at hv; simp only [Option.some_or, Option.some.injEq] at hv; subst hv; obtain ⟨j, q, k1, k2, k3⟩ := find_objsM _ R k u g1
                rcases hbn j k1 with rfl | k1
                · rw [hRi] at k2; simp only [Option.some.injEq] at k2; subst k2; rw [k3]; rfl
                · by_cases e : j = i
                  · subst e; rw [hRi] at k2; simp only [Option.some.injEq] at k2; subst k2; rw [k3]; rfl
                  · have hnone : find ri.new k = none := by
                      cases g2 : find ri.new k with
                      | none => rfl
                      | some ob' =>
                        have r1 := hid i ri hRi k ob' g2; have r2 := hid j q k2 k u k3; omega
                    rw [hnone, find_append, objsM_find σ.next _ R 0 j q k u hid k1 k2 k3]; rfl
              | none =>
                rw [g1] at hv; simp only [Option.none_or] at hv; have hklt := hσ k ob hv
                have hnone : find ri.new k = none := by
                  cases g2 : find ri.new k with
                  | none => rfl
                  | some ob' =>
                    have r1 := hid i ri hRi k ob' g2; omega
                rw [hnone, find_append]
                cases g2 : find (objsM (bitsOf K listed) R) k with
                | some u =>
                  obtain ⟨j, q, k1, k2, k3⟩ := find_objsM _ R k u g2; have := hid j q k2 k u k3; omega
                | none => simpa using hv
          · intro r hr2
            rcases hD' r hr2 with h | ⟨ob, h⟩
            · rcases hD r h with h | ⟨j, q, ob, k1, k2, k3⟩
              · exact .inl h
              · refine .inr ⟨j, q, ob, ?_, k2, k3⟩; rw [getD_set (by omega)]
                split
                · rfl
                · exact k1
            · exact .inr ⟨i, ri, ob, by rw [getD_set (by omega), if_pos rfl], hRi, h⟩
        have hst : ∀ d, o.dst = some d → d < (stM σ (R.map (·.dst)) nx (bitsOf K listed) R).nt := by
          intro d hd; rw [hdst] at hd; simp only [Option.some.injEq] at hd; subst hd; exact hdn
        unfold wpOp
        simp only [ho']
        rcases hor with ⟨hg, hloc⟩ | ⟨hg, hv, hnew⟩
        · rw [hrr.guard hg, if_pos rfl]; refine .inl (hloc C E X a hrr (fun r ob hf hDr => ?_) _ _ (fun y E' X' hLP => ?_))
          · have r1 := hid i ri hRi r ob hf
            rcases hD r hDr with h | ⟨j, q, ob', k1, k2, k3⟩
            · omega
            · have r2 := hid j q k2 r ob' k3
              have hji : j = i := by omega
              subst hji
              have : listed.getD j true = true := by rw [getD_tf (by omega)]; exact k1
              rw [h1] at this
              cases this
          · obtain ⟨X'', hr'⟩ := hr.ext hLP o.dst nx hst (fun r ob hf => by have := hid i ri hRi r ob hf; omega) (Nat.le_refl _); exact hstep E' X'' _ hr' hLP.dom
        · rw [hrr.guard hg, if_neg (by simp)]; have hput := hr.put o.dst hst (v := (.lit undef)) (y := undef) (by simp [FV]); refine hstep E X _ ?_ (fun r hr => .inl hr); rw [hv, hnew]; exact hput.sub (fun s v h => h) (fun r ob h => h) (Nat.le_refl _) rfl rfl
end draw
def stD (σ : St) (nx : Nat) (bs : List Bool) (R : List Res) : St :=
  { slots := slotsM bs R ++ σ.slots, objs := objsM bs R ++ σ.objs, next := nx, nt := σ.nt, env := σ.env }
def stAll (σ : St) (nx : Nat) (R : List Res) : St :=
  { slots := R.map (fun r => (r.dst, r.v)) ++ σ.slots, objs := R.flatMap (·.new) ++ σ.objs, next := nx, nt := σ.nt, env := σ.env }
def disj (ds : List Nat) : List (Nat × AV) → Bool
  | [] => true
  | p :: l => !(ds.elem p.1) && disj ds l
theorem hide_disj {ds : List Nat} : ∀ {l : List (Nat × AV)}, disj ds l = true → hide ds l = l
  | [], _ => rfl
  | p :: l, h => by
    simp only [disj, Bool.and_eq_true, Bool.not_eq_true'] at h; simp only [hide, h.1, cond_false, hide_disj h.2]
theorem slotsM_all : ∀ (R : List Res), slotsM (List.replicate R.length true) R = R.map (fun r => (r.dst, r.v))
  | [] => rfl
  | r :: R => by simp [slotsM, List.replicate_succ, slotsM_all R]
theorem objsM_all : ∀ (R : List Res), objsM (List.replicate R.length true) R = R.flatMap (·.new)
  | [] => rfl
  | r :: R => by simp [objsM, List.replicate_succ, objsM_all R]
theorem slotsM_prefix : ∀ (bs : List Bool) (R S : List Res), bs.length ≤ R.length → slotsM bs (R ++ S) = slotsM bs R
  | [], R, S, _ => by cases R <;> cases S <;> simp [slotsM]
  | b :: bs, [], S, h => by simp at h
  | b :: bs, r :: R, S, h => by
    simp only [List.cons_append, slotsM]; rw [slotsM_prefix bs R S (by simpa using h)]
theorem objsM_prefix : ∀ (bs : List Bool) (R S : List Res), bs.length ≤ R.length → objsM bs (R ++ S) = objsM bs R
  | [], R, S, _ => by cases R <;> cases S <;> simp [objsM]
  | b :: bs, [], S, h => by simp at h
  | b :: bs, r :: R, S, h => by
    simp only [List.cons_append, objsM]; rw [objsM_prefix bs R S (by simpa using h)]
def idsIn (lo : Nat) (new : List (Nat × Obj)) : Prop := ∀ p ∈ new, lo ≤ p.1 ∧ p.1 < lo + 4
theorem idsIn_find {lo : Nat} : ∀ {new : List (Nat × Obj)}, idsIn lo new → ∀ k ob, find new k = some ob → lo ≤ k ∧ k < lo + 4
  | [], _, k, ob, h => by simp [find] at h
  | (j, o) :: l, h, k, ob, hf => by
    rw [find_cons] at hf
    split at hf
    · rename_i e
      subst e; exact h (j, o) (by simp)
    · exact idsIn_find (fun p hp => h p (by simp [hp])) k ob hf
def finS (P : Program) (l : List Oper) (σ : St) (nx : Nat) (Q : St → Prop) (rest : List Oper) (R : List Res) : Prop := SeqL P ⟨l⟩ rest (stAll σ nx R) Q
def drawF (P : Program) (l : List Oper) (gs : List (Option Nat)) (σ : St) (nx : Nat) (Fin : List Oper → List Res → Prop) : List Oper → List (List Bool) → List Res → Prop
  | rest, [], R => Fin rest R
  | [], _ :: _, _ => False
  | o :: rest, bs :: Ts, R => match o.dst with
    | none => False
    | some d => match guardGo gs (stD σ nx bs R) o.guard with
      | some true => match stepQ P (stD σ nx bs R) (σ.next + 4 * R.length) o.op with
        | some (v, new) => drawF P l gs σ nx Fin rest Ts (R ++ [⟨d, v, new⟩])
        | none => ∃ v new, idsIn (σ.next + 4 * R.length) new ∧ Local P (stD σ nx bs R) o v new ∧ drawF P l gs σ nx Fin rest Ts (R ++ [⟨d, v, new⟩])
      | some false => drawF P l gs σ nx Fin rest Ts (R ++ [⟨d, (.lit undef), []⟩])
      | none => False
theorem drawF_spec {P : Program} {l : List Oper} {σ : St} {nx : Nat} {Fin : List Oper → List Res → Prop} : ∀ (rest : List Oper) (Ts : List (List Bool)) (R : List Res), drawF P l (dstsOf ⟨l⟩) σ nx Fin rest Ts R → (∀ i, (h : i < Ts.length) → Ts[i].length ≤ R.length + i) →
    ∃ S : List Res, S.length = Ts.length ∧ Fin (rest.drop Ts.length) (R ++ S) ∧
      ∀ i, i < Ts.length → ∃ o r, rest[i]? = some o ∧ S[i]? = some r ∧ o.dst = some r.dst ∧ idsIn (σ.next + 4 * (R.length + i)) r.new ∧
        ((guardGo (dstsOf ⟨l⟩) (stD σ nx ((Ts[i]?).getD []) (R ++ S)) o.guard = some true ∧ Local P (stD σ nx ((Ts[i]?).getD []) (R ++ S)) o r.v r.new) ∨
         (guardGo (dstsOf ⟨l⟩) (stD σ nx ((Ts[i]?).getD []) (R ++ S)) o.guard = some false ∧ r.v = (.lit undef) ∧ r.new = []))
  | rest, [], R, h, _ => by
    simp only [drawF] at h; exact ⟨[], rfl, by simpa using h, fun i hi => by simp at hi⟩
  | [], _ :: _, _, h, _ => by simp [drawF] at h
  | o :: rest, bs :: Ts, R, h, hlen => by
    have hbs : bs.length ≤ R.length := hlen 0 (Nat.succ_pos _); simp only [drawF] at h
    split at h
    · exact h.elim
    · rename_i d hd
      have key : ∀ v new, drawF P l (dstsOf ⟨l⟩) σ nx Fin rest Ts (R ++ [⟨d, v, new⟩]) → idsIn (σ.next + 4 * R.length) new →
          ((guardGo (dstsOf ⟨l⟩) (stD σ nx bs R) o.guard = some true ∧ Local P (stD σ nx bs R) o v new) ∨ (guardGo (dstsOf ⟨l⟩) (stD σ nx bs R) o.guard = some false ∧ v = (.lit undef) ∧ new = [])) →
          ∃ S : List Res, S.length = (bs :: Ts).length ∧ Fin ((o :: rest).drop (bs :: Ts).length) (R ++ S) ∧
            ∀ i, i < (bs :: Ts).length → ∃ o' r, (o :: rest)[i]? = some o' ∧ S[i]? = some r ∧ o'.dst = some r.dst ∧ idsIn (σ.next + 4 * (R.length + i)) r.new ∧
              ((guardGo (dstsOf ⟨l⟩) (stD σ nx (((bs :: Ts)[i]?).getD []) (R ++ S)) o'.guard = some true ∧ Local P (stD σ nx (((bs :: Ts)[i]?).getD []) (R ++ S)) o' r.v r.new) ∨
               (guardGo (dstsOf ⟨l⟩) (stD σ nx (((bs :: Ts)[i]?).getD []) (R ++ S)) o'.guard = some false ∧ r.v = (.lit undef) ∧ r.new = [])) := by
        intro v new hdr hids hor
        obtain ⟨S, h1, h2, h3⟩ := drawF_spec rest Ts _ hdr (fun i hi => by
          have := hlen (i + 1) (by simpa using hi); simp only [List.getElem_cons_succ, List.length_append, List.length_singleton] at this ⊢
          omega)
        refine ⟨⟨d, v, new⟩ :: S, by simp [h1], ?_, ?_⟩
        · rw [List.append_assoc] at h2
          simpa using h2
        · intro i hi
          cases i with
          | zero =>
            refine ⟨o, ⟨d, v, new⟩, rfl, rfl, hd, by simpa using hids, ?_⟩
            have e1 : stD σ nx (((bs :: Ts)[0]?).getD []) (R ++ ⟨d, v, new⟩ :: S) = stD σ nx bs R := by
              simp only [List.getElem?_cons_zero, Option.getD_some, stD, slotsM_prefix bs R _ hbs, objsM_prefix bs R _ hbs]
            rw [e1]; exact hor
          | succ i =>
            obtain ⟨o', r, k1, k2, k3, k4, k5⟩ := h3 i (by simpa using hi); refine ⟨o', r, by simpa using k1, by simpa using k2, k3, ?_, ?_⟩
            · have : R.length + (i + 1) = (R ++ [(⟨d, v, new⟩ : Res)]).length + i := by simp; omega
              rw [this]; exact k4
            · rw [List.append_assoc] at k5
              simpa using k5
      split at h
      · rename_i hg
        split at h
        · rename_i v new hq
          refine key v new h ?_ (.inl ⟨hg, stepQ_sound hq⟩)
          rcases stepQ_new hq with rfl | ⟨ob, rfl⟩
          · intro p hp; simp at hp
          · intro p hp
            simp at hp
            subst hp
            simp
        · obtain ⟨v, new, hids, hloc, h⟩ := h; exact key v new h hids (.inl ⟨hg, hloc⟩)
      · rename_i hg
        exact key (.lit undef) [] h (fun p hp => by simp at hp) (.inr ⟨hg, rfl, rfl⟩)
      · exact h.elim
theorem Rel.drew {C : Ctx} {E : Env} {X : Nat → List Value} {σ : St} {a : Act} (h : Rel C E X σ a) : Rel C { E with w := E.w.drew } X σ a := by
  have hle : E.le { E with w := E.w.drew } := ⟨fun b hb => ⟨hb, rfl⟩, fun r hr => ⟨hr, rfl, rfl⟩⟩
  exact ⟨fun s v hv => FV.le _ hle _ (h.slots s v hv), h.size, h.defers, fun r o hr => ⟨(h.objs r o hr).1, (h.objs r o hr).2.1, (h.objs r o hr).2.2.1.kept (fun b _ => rfl), FVr.le _ _ (hle.by _) _ (h.objs r o hr).2.2.2⟩, h.apart,
    h.stay, h.fresh, ⟨h.kept.os, h.kept.tape.trans ⟨rfl, Nat.le_succ _⟩, h.kept.output, h.kept.size, h.kept.block⟩, h.mine, h.env, h.envD, h.base, h.grow, h.envk, h.glob.le hle⟩
def dstsL : List Oper → List Nat
  | [] => []
  | o :: l => match o.dst with
    | some d => d :: dstsL l
    | none => dstsL l
def drawOk (l : List Oper) (T : List (List Bool)) (σ : St) (K : Nat) : Bool :=
  chk l T K && Nat.ble K l.length && (let ds := dstsL (l.take K); disj ds σ.slots && decide ds.Nodup && ds.all (fun d => Nat.blt d σ.nt))
theorem Ev.draw {P : Program} {σ : St} {Q : Exit → St → Prop} {id : Nat} {l : List Oper} (T : List (List Bool)) (K : Nat) (hm : P.follows .mixedOrders = true) (hok : drawOk l T σ K = true) (hTl : K ≤ T.length)
    (h : ∀ Kt : St → Prop, (∀ σ', Q .normal σ' → Kt σ') → drawF P l (dstsOf ⟨l⟩) σ (σ.next + 4 * K) (finS P l σ (σ.next + 4 * K) Kt) l (T.take K) []) : Ev P (.region id ⟨l⟩ true) σ Q := by
  simp only [drawOk, Bool.and_eq_true, decide_eq_true_eq, List.all_eq_true] at hok; obtain ⟨⟨hc, hKl⟩, ⟨hdj, hnd⟩, hdn⟩ := hok; have hKl := ble_le hKl
  have hTK : (T.take K).length = K := by simp; omega
  obtain ⟨S, h1, h2, h3⟩ := drawF_spec l (T.take K) [] (h (Q .normal) (fun _ h => h)) (fun i hi => by
    have hiK : i < K := by omega
    have ho : l[i]? = some l[i] := List.getElem?_eq_getElem (by omega); have := (chk_spec hc ho).1; have e : T[i]? = some T[i] := List.getElem?_eq_getElem (by omega); rw [e] at this
    simpa using this)
  simp only [List.nil_append, List.length_nil, Nat.zero_add] at h2 h3; rw [hTK] at h1 h2 h3
  have hds : S.map (·.dst) = dstsL (l.take K) := by
    have key : ∀ (n : Nat) (l' : List Oper) (S' : List Res), S'.length = n → l'.length = n → (∀ i, i < n → ∃ o r, l'[i]? = some o ∧ S'[i]? = some r ∧ o.dst = some r.dst) → S'.map (·.dst) = dstsL l' := by
      intro n
      induction n with
      | zero =>
        intro l' S' e1 e2 _; rw [List.eq_nil_of_length_eq_zero e1, List.eq_nil_of_length_eq_zero e2]; rfl
      | succ n ih =>
        intro l' S' e1 e2 hh
        match l', S', e1, e2 with
        | o :: l', r :: S', e1, e2 =>
          obtain ⟨o0, r0, k1, k2, k3⟩ := hh 0 (by omega); simp only [List.getElem?_cons_zero, Option.some.injEq] at k1 k2; subst k1 k2; simp only [List.map_cons, dstsL, k3]
          rw [ih l' S' (by simpa using e1) (by simpa using e2) (fun i hi => by
            obtain ⟨o1, r1, j1, j2, j3⟩ := hh (i + 1) (by omega)
            exact ⟨o1, r1, by simpa using j1, by simpa using j2, j3⟩)]
    refine key K (l.take K) S h1 (by simp; omega) (fun i hi => ?_); obtain ⟨o, r, k1, k2, k3, _⟩ := h3 i hi; exact ⟨o, r, by rw [List.getElem?_take, if_pos hi]; exact k1, k2, k3⟩
  have hst : ∀ bs, stM σ (S.map (·.dst)) (σ.next + 4 * K) bs S = stD σ (σ.next + 4 * K) bs S := by
    intro bs; simp only [stM, stD, hds, hide_disj hdj]
  intro C E X a hr; refine wp_region_any hm ?_; have hr' := hr.drew; have hσ : ∀ k o, find σ.objs k = some o → k < σ.next := fun k o hk => hr.fresh k (hr.objs k o hk).1
  have hR : ∀ i, i < K → ResOk P l σ (S.map (·.dst)) (σ.next + 4 * K) K T S i := by
    intro i hi o r ho hSr; obtain ⟨o', r', k1, k2, k3, k4, k5⟩ := h3 i hi; rw [ho] at k1; rw [hSr] at k2; simp only [Option.some.injEq] at k1 k2; subst k1 k2; refine ⟨k3, ?_, fun k ob hf => idsIn_find k4 k ob hf, ?_⟩
    · have : r.dst ∈ dstsL (l.take K) := by rw [← hds]; exact List.mem_map.2 ⟨r, List.mem_of_getElem? hSr, rfl⟩
      exact Nat.le_of_ble_eq_true (hdn _ this)
    · rw [hst]
      have e : ((T.take K)[i]?).getD [] = (T[i]?).getD [] := by rw [List.getElem?_take, if_pos hi]
      rw [e] at k5; exact k5
  have hall : stM σ (S.map (·.dst)) (σ.next + 4 * K) (List.replicate K true) S = stAll σ (σ.next + 4 * K) S := by
    rw [hst]; simp only [stD, stAll]; rw [← h1, slotsM_all, objsM_all]
  have hgoal := any_of_draw (P := P) (nx := σ.next + 4 * K) (C := C) (Q := fun e a' w' => ∃ E' X' σ', E'.w = w' ∧ Rel C E' X' σ' a' ∧ Q e σ') hc hKl h1 (by rw [hds]; exact hnd) hR (Nat.le_refl _) hσ (fun E X a hr2 => by
      rw [hall] at hr2
      exact h2 C E X a hr2 _ (fun E' X' σ' a' hr3 hq => ⟨E', X', σ', rfl, hr3, hq⟩))
    l.length (Array.replicate l.length false) { E with w := E.w.drew } X a (by simp) ?_ ?_ ?_ ?_ ?_
  · simpa using hgoal
  · have : ∀ n, n ≤ l.length → (List.range n).countP (fun j => !(Array.replicate l.length false).getD j true) = n := by
      intro n
      induction n with
      | zero => intro _; simp
      | succ n ih =>
        intro hn; rw [List.range_succ, List.countP_append, ih (by omega), List.countP_singleton]
        simp [Array.getD, show n < l.length by omega]
    exact this _ (Nat.le_refl _)
  · intro i o _ hl
    simp [Array.getD] at hl
  · intro i _
    simp [Array.getD]
  · have hb : ∀ j : Nat, (bitsOf K (Array.replicate l.length false))[j]? ≠ some true := by
      intro j hj; have := (bitsOf_get.1 hj).2
      simp [Array.getD] at this
    refine hr'.sub ?_ ?_ (by simp [stM]) rfl rfl
    · intro s v hv; simp only [stM, hds, hide_disj hdj] at hv; rw [find_append] at hv
      cases g : find (slotsM (bitsOf K (Array.replicate l.length false)) S) s with
      | some u =>
        obtain ⟨j, r, g1, _⟩ := find_slotsM _ S s u g; exact absurd g1 (hb j)
      | none => rw [g] at hv; simpa using hv
    · intro k o hv; simp only [stM] at hv; rw [find_append] at hv
      cases g : find (objsM (bitsOf K (Array.replicate l.length false)) S) k with
      | some u =>
        obtain ⟨j, r, g1, _⟩ := find_objsM _ S k u g; exact absurd g1 (hb j)
      | none => rw [g] at hv; simpa using hv
  · intro r hD; exact .inl (hr.fresh r hD)
end Go.AM
