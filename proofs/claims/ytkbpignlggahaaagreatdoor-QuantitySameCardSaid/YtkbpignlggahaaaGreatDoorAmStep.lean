/-
  The abstract machine, continued: one step reckoned by a function.
  Conditions: none; generic over the program.
-/
import Derived.Test.YtkbpignlggahaaaGreatDoorAmRoot
import Derived.Lib.UnsafeStr
namespace Go.AM
set_option linter.unusedVariables false
set_option linter.unusedSimpArgs false
set_option linter.unusedSectionVars false
def placesL (P : Program) (t : TypeId) : Option (List (Nat × Nat)) :=
  match P.underlying t with
  | some (.struct fields) => fields.toList.mapM (fun f => (P.info? f.type).map fun i => (f.offset, i.size))
  | _ => none
theorem placesOf_L {P : Program} {t : TypeId} {pl : List (Nat × Nat)} (h : placesL P t = some pl) : placesOf P t = some fun i => pl[i]? := by
  unfold placesL at h
  unfold placesOf
  split at h
  · rename_i fields hu
    simp only [hu, h, Option.map_some]
    congr 1
    funext i
    simp
  · cases h
theorem bif_none' {α : Type} {c : Bool} {x : Option α} {v : α} (h : (bif c then none else x) = some v) : c = false ∧ x = some v := by
  cases c
  · exact ⟨rfl, h⟩
  · simp at h
def arrOf (P : Program) (t : TypeId) : Option (Nat × TypeId) :=
  match P.underlying t with
  | some (.array n e) => some (n, e)
  | _ => none
theorem arrOf_eq {P : Program} {t : TypeId} {n : Nat} {e : TypeId} (h : arrOf P t = some (n, e)) : P.underlying t = some (.array n e) := by
  unfold arrOf at h
  split at h
  · rename_i hu
    simp only [Option.some.injEq, Prod.mk.injEq] at h; rw [hu, h.1, h.2]
  · cases h
def placesG (P : Program) (t : TypeId) : Option (Nat → Option (Nat × Nat)) :=
  match placesL P t with
  | some pl => some fun i => pl[i]?
  | none => (arrOf P t).bind fun q => bif Nat.beq (P.cellsOf q.2) 0 then none else some fun k => some (k * P.cellsOf q.2, P.cellsOf q.2)
theorem placesOf_G {P : Program} {t : TypeId} {f : Nat → Option (Nat × Nat)} (h : placesG P t = some f) : placesOf P t = some f := by
  unfold placesG at h
  split at h
  · rename_i pl hpl
    simp only [Option.some.injEq] at h; rw [← h, placesOf_L hpl]
  · simp only [Option.bind_eq_some_iff] at h; obtain ⟨⟨n, e⟩, ha, h⟩ := h; have hu := arrOf_eq ha
    unfold placesOf
    simp only [hu]
    cases hi : P.info? e with
    | none => simp [Program.cellsOf, hi, Nat.beq] at h
    | some i =>
      simp only [cellsOf_info hi] at h; obtain ⟨hb, h⟩ := bif_none' h
      simpa using h
def arrAV (P : Program) (t : TypeId) (n : Int) (v : AV) : Option AV :=
  (arrOf P t).bind fun q => bif Nat.beq (P.cellsOf q.2) 0 then none else if 0 ≤ n ∧ n < q.1 then shift (n.toNat * P.cellsOf q.2) v else none
def lits (x : Option Value) : Option (AV × List (Nat × Obj)) := x.map fun z => (.lit z, [])
def vals (x : Option AV) : Option (AV × List (Nat × Obj)) := x.map fun v => (v, [])
def bin (P : Program) (op : BinOp) (t : TypeId) (x y : Operand) (a b : Value) : Option Value := pureOn P (do eqGuard op t x y a b; binOp op t a b)
def una (P : Program) (op : UnOp) (a : Value) : Option Value := pureOn P (Op.unary op a)
def conv (P : Program) (s d : TypeId) (a : Value) : Option Value := pureOn P (convert s d a)
def mkIface (P : Program) (t : TypeId) (a : Value) : Option Value := pureOn P (Instr.makeInterface t a)
def idx (P : Program) (t : TypeId) (a i : Value) : Option Value := pureOn P (Instr.index t a i)
def sliceV (P : Program) (t : TypeId) (a : Value) (lo hi : Option Value) : Option Value := pureOn P (Instr.sliceAt t a lo hi none)
def maxV (P : Program) (ts : Array TypeId) (as : List Value) : Option Value := pureOn P (Builtin.max_ ts 0 as.toArray)
def minV (P : Program) (ts : Array TypeId) (as : List Value) : Option Value := pureOn P (Builtin.min_ ts 0 as.toArray)
def lenV (P : Program) (ts : Array TypeId) (as : List Value) : Option Value := pureOn P (Builtin.len_ ts 0 as.toArray)
def optVal (σ : St) : Option Operand → Option (Option Value)
  | none => some none
  | some x => (toVal (σ.ev x)).map some
def sdataAV : AV → Option (AV × List (Nat × Obj))
  | .als r lo n => bif Nat.beq lo 0 && Nat.blt 0 n then some (.adr r 0 0, []) else none
  | .lit (.slice none 0 0) => some (.lit (.pointer none), [])
  | _ => none
def capAV : AV → Option (AV × List (Nat × Obj))
  | .lit (.slice none 0 0) => some (.lit (.int .i64 0), [])
  | _ => none
def stepBuiltin (P : Program) (σ : St) (b : Builtin) (as : Array Operand) (ts : Array TypeId) : Option (AV × List (Nat × Obj)) :=
  match b with
  | .len => match as.toList, ts.toList with
    | [x], [t] => match elemOfSlice P t with
      | some _ => (lenAV (σ.ev x)).map fun (n : Nat) => (.lit (.int .i64 (n : Int)), [])
      | none => match mapRows σ (σ.ev x) with
        | some q => (mapTy P t).bind fun p => bif Nat.beq q.1 (msz p.2) then some (.lit (.int .i64 ((q.2.length : Nat) : Int)), []) else none
        | none => lits ((toVals (as.toList.map σ.ev)).bind fun l => lenV P ts l)
    | _, _ => none
  | .max => lits ((toVals (as.toList.map σ.ev)).bind fun l => maxV P ts l)
  | .min => lits ((toVals (as.toList.map σ.ev)).bind fun l => minV P ts l)
  | .unsafeSliceData => match as.toList with
    | [x] => sdataAV (σ.ev x)
    | _ => none
  | .cap => match as.toList, ts.toList with
    | [x], [t] => match elemOfSlice P t with
      | some _ => capAV (σ.ev x)
      | none => none
    | _, _ => none
  | _ => none
def mkOk (m m' : Int) (l c b : Nat) : Bool := decide (m' = m ∧ 0 ≤ m ∧ m ≤ 1000000 ∧ l = c ∧ c ≠ 0 ∧ m.toNat * b ≤ 100000000 ∧ m.toNat * c ≤ 16777216)
def stepQ (P : Program) (σ : St) (id : Nat) : Op → Option (AV × List (Nat × Obj))
  | .move x => some (σ.ev x, [])
  | .assign x => some (σ.ev x, [])
  | .pick c x y => match σ.ev c with
    | .lit (.bool t) => some (if t then σ.ev x else σ.ev y, [])
    | _ => none
  | .binOp op t x y _ => match toVal (σ.ev x), toVal (σ.ev y) with
    | some a, some b => lits (bin P op t x y a b)
    | _, _ => none
  | .unOp op _ x => lits ((toVal (σ.ev x)).bind fun a => una P op a)
  | .convert s d x => lits ((toVal (σ.ev x)).bind fun a => conv P s d a)
  | .makeInterface t x => lits ((toVal (σ.ev x)).bind fun a => mkIface P t a)
  | .index t x i => match toVal (σ.ev x), toVal (σ.ev i) with
    | some a, some b => lits (idx P t a b)
    | _, _ => none
  | .load t x => vals (loadAV P σ t (σ.ev x))
  | .fieldAddr s x f => (fieldOf P s f).bind fun p => bif Nat.beq (P.cellsOf p.2) 0 then none else vals (shift p.1 (σ.ev x))
  | .field s x f => (fieldOf P s f).bind fun p => match σ.ev x with
    | .agg cs => vals (partAV P p.2 cs p.1)
    | _ => none
  | .indexAddr t x i => match σ.ev i with
    | .lit (.int _ n) => match elemOfSlice P t with
      | some e => bif Nat.beq (P.cellsOf e) 0 then none else vals (indexAV σ (P.cellsOf e) (σ.ev x) n)
      | none => vals (arrAV P t n (σ.ev x))
    | _ => none
  | .slice t x lo hi none => match elemOfSlice P t with
    | some e => bif Nat.beq (P.cellsOf e) 0 then none else
      (lenAV (σ.ev x)).bind fun n => (boundAV σ 0 lo).bind fun l => (boundAV σ n hi).bind fun h =>
        match σ.ev x with
        | .als r a b => (find σ.objs r).bind fun ob => bif Nat.beq ob.sz (P.cellsOf e) then vals (sliceAV (.als r a b) l h) else none
        | .sh s rows => bif Nat.beq s (P.cellsOf e) then vals (sliceAV (.sh s rows) l h) else none
        | _ => none
    | none => match toVal (σ.ev x), optVal σ lo, optVal σ hi with
      | some a, some l, some h => lits (sliceV P t a l h)
      | _, _, _ => none
  | .alloc t => (zeroCellsAV P t).map fun cs => (.adr id 0 0, [(id, ⟨false, t, cs.length, [cs], true⟩)])
  | .box t x => (cellsAV (σ.ev x)).map fun cs => (.adr id 0 0, [(id, ⟨false, t, cs.length, [cs], closedL cs⟩)])
  | .build t parts => (zeroCellsAV P t).bind fun zs => (placesG P t).bind fun pl => vals ((fillAV pl zs (parts.toList.map fun p => (p.1, σ.ev p.2))).map .agg)
  | .buildSlice t len parts => (elemOfSlice P t).bind fun e => (zeroCellsAV P e).bind fun zs => (rowsOf (P.cellsOf e) 0 (parts.toList.map fun p => (p.1, σ.ev p.2))).bind fun rows =>
    bif Nat.beq zs.length (P.cellsOf e) && !Nat.beq (P.cellsOf e) 0 && Nat.beq rows.length len && Nat.ble (len * P.cellsOf e) 16777216 then some (.als id 0 len, [(id, ⟨true, e, P.cellsOf e, rows, closedR rows⟩)]) else none
  | .makeSlice t x y => match σ.ev x, σ.ev y with
    | .lit (.int _ m), .lit (.int _ m') => (elemOfSlice P t).bind fun e => (zeroCellsAV P e).bind fun zs => bif mkOk m m' zs.length (P.cellsOf e) (P.bytesOf e) then some (.als id 0 m.toNat, [(id, ⟨true, e, P.cellsOf e, List.replicate m.toNat zs, true⟩)]) else none
    | _, _ => none
  | .makeFunc f first caps => some (.fn f (first.toList.map σ.ev) (caps.toList.map σ.ev), [])
  | .extract x k => match σ.ev x with
    | .tup vs => vals (vs[k]?)
    | _ => none
  | .nilCheck x => match σ.ev x with
    | .adr r i j => some (.adr r i j, [])
    | .sadr row j => some (.sadr row j, [])
    | _ => none
  | .call { callee := .builtin b, args := as, argTypes := ts } => stepBuiltin P σ b as ts
  | .makeMap t none => (mapTy P t).map fun p => (.hd id, [(id, ⟨true, t, msz p.2, [], true⟩)])
  | .lookup t x i ok => (mapTy P t).bind fun p => (mapRows σ (σ.ev x)).bind fun q => (toVal (σ.ev i)).bind fun k => bif Nat.beq q.1 (msz p.2) && keyB p.1 k then (findAV p.1 k q.2 0).bind fun r => vals (lookAV p.2 ok r) else none
  | .range t x => match σ.ev x with
    | .shm sz rows => (mapTy P t).map fun _ => (.hd id, [(id, ⟨false, 0, 1, [[.rem sz [] rows]], true⟩)])
    | _ => none
  | .entry x => (iterAV σ (σ.ev x)).bind fun q => vals ((entAV q.2).map fun u => .tup [q.1, u])
  | _ => none
theorem toVal_ev {C : Ctx} {E : Env} {X : Nat → List Value} {σ : St} {a : Act} (h : Rel C E X σ a) {x : Operand} {v : Value} (hv : toVal (σ.ev x) = some v) : a.eval x = v := FV.toVal hv (h.ev x)
theorem toVals_ev {C : Ctx} {E : Env} {X : Nat → List Value} {σ : St} {a : Act} (h : Rel C E X σ a) {l : List Operand} {vs : List Value} (hv : toVals (l.map σ.ev) = some vs) : l.map a.eval = vs := FVs.toVals hv (h.evs l)
theorem optVal_ev {C : Ctx} {E : Env} {X : Nat → List Value} {σ : St} {a : Act} (h : Rel C E X σ a) {x : Option Operand} {v : Option Value} (hv : optVal σ x = some v) : x.map a.eval = v := by
  cases x with
  | none => simp only [optVal, Option.some.injEq] at hv; exact hv
  | some y =>
    simp only [optVal, Option.map_eq_some_iff] at hv; obtain ⟨u, h1, rfl⟩ := hv
    simp [toVal_ev h h1]
theorem lits_some {x : Option Value} {v : AV} {new : List (Nat × Obj)} (h : lits x = some (v, new)) : ∃ z, x = some z ∧ v = .lit z ∧ new = [] := by
  unfold lits at h
  simp only [Option.map_eq_some_iff, Prod.mk.injEq] at h; obtain ⟨z, h1, h2, h3⟩ := h; exact ⟨z, h1, h2.symm, h3.symm⟩
theorem vals_some {x : Option AV} {v : AV} {new : List (Nat × Obj)} (h : vals x = some (v, new)) : x = some v ∧ new = [] := by
  unfold vals at h
  simp only [Option.map_eq_some_iff, Prod.mk.injEq] at h; obtain ⟨z, h1, h2, h3⟩ := h; exact ⟨by rw [h1, h2], h3.symm⟩
theorem bif_some {α : Type} {c : Bool} {x : Option α} {v : α} (h : (bif c then x else none) = some v) : c = true ∧ x = some v := by
  cases c
  · simp at h
  · exact ⟨rfl, h⟩
theorem bif_none {α : Type} {c : Bool} {x : Option α} {v : α} (h : (bif c then none else x) = some v) : c = false ∧ x = some v := by
  cases c
  · exact ⟨rfl, h⟩
  · simp at h
theorem beq_false_ne {m n : Nat} (h : Nat.beq m n = false) : m ≠ n := by
  intro e; subst e; rw [Nat.beq_refl] at h
  cases h
theorem wrapI {x : Int} (h : -9223372036854775808 ≤ x) (h' : x ≤ 9223372036854775807) : IntKind.i64.wrap x = x := by
  have e : IntKind.i64.wrap x = if x % 18446744073709551616 ≥ 9223372036854775808 then x % 18446744073709551616 - 18446744073709551616 else x % 18446744073709551616 := by
    simp [IntKind.wrap, IntKind.bits, IntKind.signed]
  rw [e]
  split <;> omega
theorem range_rep {α : Type} [Inhabited α] (zc : Array α) : ∀ n, ((Array.range (n * zc.size)).map (fun k => zc[k % zc.size]!)).toList = (List.replicate n zc.toList).flatten := by
  intro n; rw [Array.toList_map, Array.toList_range]
  induction n with
  | zero => simp
  | succ n ih =>
    rw [Nat.succ_mul, List.range_add, List.map_append, ih, List.replicate_succ', List.flatten_append]
    congr 1
    simp only [List.flatten_cons, List.flatten_nil, List.append_nil, List.map_map]
    apply List.ext_getElem
    · simp
    · intro i h1 h2; simp only [List.length_map, List.length_range] at h1; simp only [List.getElem_map, List.getElem_range, Function.comp_apply, Array.getElem_toList]
      have e : (n * zc.size + i) % zc.size = i := by rw [Nat.mul_comm, Nat.mul_add_mod, Nat.mod_eq_of_lt h1]
      rw [e, getElem!_pos zc i h1]
theorem FVr_rep {E : Env} {sz : Nat} {zs : List AV} {ys : List Value} (hl : zs.length = sz) (h : FVc E zs ys) : ∀ n, FVr E sz (List.replicate n zs) (List.replicate n ys).flatten
  | 0 => rfl
  | n + 1 => by
    rw [List.replicate_succ, List.replicate_succ, List.flatten_cons]; simp only [FVr]; exact ⟨ys, _, rfl, hl, h, FVr_rep hl h n⟩
theorem Local.makeSlice {P : Program} {σ : St} {o : Oper} {ty el by' m id : Nat} {x y : Operand} {k1 k2 : IntKind} {zs : List AV} (ho : o.op = .makeSlice ty x y) (ht : elemOfSlice P ty = some el) (hz : zeroCellsAV P el = some zs) (hzl : zs.length = P.cellsOf el) (hpos : P.cellsOf el ≠ 0)
    (hby : P.bytesOf el = by') (hx : σ.ev x = .lit (.int k1 (m : Int))) (hy : σ.ev y = .lit (.int k2 (m : Int))) (hm : m ≤ 1000000) (hmb : m * by' ≤ 100000000) (hmc : m * P.cellsOf el ≤ 2 ^ 24) :
    Local P σ o (.als id 0 m) [(id, ⟨true, el, P.cellsOf el, List.replicate m zs, true⟩)] :=
  Local.alloc fun C E X a hr => by
    obtain ⟨i, z, hi, hzz, rfl, hzr, hfv⟩ := zeroCellsAV_spec hz; have hsz := cellsOf_info hi; rw [hsz] at hpos hzl hmc; simp only [List.length_map, Array.length_toList] at hzl
    have hbi : i.bytes = by' := by rw [← hby]; simp [Program.bytesOf, hi]
    have hund := elemOfSlice_eq ht; have hX : a.eval x = .int k1 (m : Int) := toVal_ev hr (by rw [hx]; rfl); have hY : a.eval y = .int k2 (m : Int) := toVal_ev hr (by rw [hy]; rfl)
    have hrow : ((Array.range (m * i.size)).map (fun k => z.cells[k % z.cells.size]!)).toList = (List.replicate m z.cells.toList).flatten := by
      rw [← hzl]; exact range_rep z.cells m
    have hcs : ((Array.range (m * i.size)).map (fun k => z.cells[k % z.cells.size]!)).size = m * i.size := by simp
    have hW : IntKind.i64.wrap (m : Int) = m := wrapI (by omega) (by omega); refine ⟨.slice (some ⟨E.w.heap.size, 0, none⟩) m m, (List.replicate m z.cells.toList).flatten, (Array.range (m * i.size)).map (fun k => z.cells[k % z.cells.size]!), el, ?_, rfl, ?_, by rw [hsz]; exact FVr_rep (by simp [hzl]) (hfv _) m, ?_⟩
    · unfold execOp
      have hb0 : ¬ ((i.bytes : Int) * (m : Int) > 2 ^ 48) := by
        have : (i.bytes : Int) * (m : Int) = ((m * by' : Nat) : Int) := by rw [hbi, Nat.mul_comm]; simp
        rw [this]; omega
      have hroom : ¬ (m * i.bytes > roomBytes) := by rw [hbi]; simp only [roomBytes]; omega
      have hm0 : ¬ ((m : Int) < 0) := by omega
      have hmm : ¬ ((m : Int) > (m : Int)) := by omega
      have hA : ∀ (k : IntKind) (w : World), (asInt (.int k (m : Int))).run P w = .ok (m : Int) w := fun k w => by simp [asInt, asIntOf]
      have hT : ∀ w, (typeInfo el).run P w = .ok i w := fun w => by simp [typeInfo, hi]
      have hR : ∀ w, (askRoom (m * i.bytes)).run P w = .ok () w := fun w => by simp [askRoom, hroom]
      simp only [ho, Instr.makeSlice, Sem.run_bind, run_underlying hund, Result.andThen_ok, hX, hY, hA, hT, hW, hm0, hb0, hmm, decide_false, Bool.or_self, Bool.false_eq_true, or_self, if_false, Int.toNat_natCast, hR, run_sizeOf' hi]
      by_cases h0 : m * i.size = 0
      · simp only [h0, if_true, Sem.run_pure, Result.andThen_ok, Array.range_zero', List.map_toArray, List.map_nil, Array.map_empty]
        simp [newRow]
      · simp only [h0, if_false, Sem.run_bind, hzr, Result.andThen_ok, Sem.run_pure]
        simp [newRow]
    · refine Or.inr (Or.inl ⟨E.w.heap.size, m, (Array.range (m * i.size)).map (fun k => z.cells[k % z.cells.size]!), by simp, heap_alloc_new E.w _, by simp, ?_, by rw [hsz, hcs], ?_⟩)
      · simp only [maxLen]; omega
      · rw [hrow, hsz, List.take_of_length_le]; rw [← hrow, Array.length_toList, hcs]; simp
    · intro E' hd hH hZ; simp only [FV]; refine ⟨hd, _, _, _, _, _, hH, rfl, Nat.le_refl _, fun _ => ⟨rfl, rfl⟩, fun _ => ⟨_, rfl, rfl, ?_⟩⟩
      simp [Addr.add_zero']
theorem stepBuiltin_sound {P : Program} {σ : St} {o : Oper} {b : Builtin} {as : Array Operand} {ts : Array TypeId} {v : AV} {new : List (Nat × Obj)} (ho : o.op = .call { callee := .builtin b, args := as, argTypes := ts })
    (h : stepBuiltin P σ b as ts = some (v, new)) : Local P σ o v new := by
  cases b <;> try (simp [stepBuiltin] at h; done)
  case len =>
    simp only [stepBuiltin] at h
    split at h
    · rename_i x t hx ht
      have hxe : as = #[x] := by cases as; simp at hx; simp [hx]
      have hte : ts = #[t] := by cases ts; simp at ht; simp [ht]
      subst hxe hte
      split at h
      · rename_i e he
        simp only [Option.map_eq_some_iff, Prod.mk.injEq] at h; obtain ⟨n, h1, rfl, rfl⟩ := h; exact Local.len ho he h1
      · split at h
        · rename_i q hq
          simp only [Option.bind_eq_some_iff] at h; obtain ⟨p, hp, h⟩ := h; obtain ⟨hb, h⟩ := bif_some h; simp only [Option.some.injEq, Prod.mk.injEq] at h; obtain ⟨rfl, rfl⟩ := h; rw [Nat.beq_eq] at hb; exact Local.lenMap ho (d := p.1) (z := p.2) hp (rows := q.2) (by rw [← hb]; exact hq)
        obtain ⟨z, h1, rfl, rfl⟩ := lits_some h; simp only [Option.bind_eq_some_iff] at h1; obtain ⟨l, h2, h3⟩ := h1; refine Local.scalar fun C E X a hr => ⟨Builtin.len_ #[t] 0 l.toArray, ?_, h3⟩; have he := toVals_ev hr h2; have hty : ∀ ty xs, Builtin.len_ #[t] ty xs = Builtin.len_ #[t] 0 xs := fun _ _ => rfl
        unfold execOp
        have hm : (#[x] : Array Operand).map a.eval = l.toArray := by rw [← he]; simp
        simp only [ho, resolve, invoke, builtin, pure_bind, hty o.type, hm]
    · cases h
  case unsafeSliceData =>
    simp only [stepBuiltin] at h
    split at h
    · rename_i x hx
      have hxe : as = #[x] := by cases as; simp at hx; simp [hx]
      subst hxe
      unfold sdataAV at h
      split at h
      · rename_i r lo n hev
        obtain ⟨hb, h⟩ := bif_some h; simp only [Option.some.injEq, Prod.mk.injEq] at h; obtain ⟨rfl, rfl⟩ := h; simp only [Bool.and_eq_true, Nat.beq_eq] at hb; obtain ⟨rfl, hb2⟩ := hb; have hn : 0 < n := Nat.le_of_ble_eq_true hb2; refine Local.value fun C E X a hr => ?_; have hv := hr.ev x; rw [hev] at hv; simp only [FV] at hv; obtain ⟨hD, A0, n0, c0, A, c, hH, hxv, hnc, _, hA⟩ := hv; obtain ⟨a0, rfl, hs, rfl⟩ := hA hn; refine ⟨.pointer (some (a0.add (0 * E.Z r))), ?_, ?_⟩
        · unfold execOp
          have hc : c ≠ 0 := by omega
          simp only [ho, resolve, invoke, builtin, Sem.run_bind, Sem.run_pure, Result.andThen_ok, List.map_toArray, List.map_cons, List.map_nil, hxv, Go.Lib.run_unsafeSliceData_row (w := E.w) ts _ _ _ _ hc]
        · simp only [FV]; exact ⟨hD, a0, by rw [hH]; rfl, hs, by rw [Nat.add_zero]⟩
      · rename_i hev
        simp only [Option.some.injEq, Prod.mk.injEq] at h; obtain ⟨rfl, rfl⟩ := h; refine Local.value fun C E X a hr => ⟨.pointer none, ?_, by simp [FV]⟩; have hv := hr.ev x; rw [hev] at hv; simp only [FV] at hv
        unfold execOp
        simp only [ho, resolve, invoke, builtin, Sem.run_bind, Sem.run_pure, Result.andThen_ok, List.map_toArray, List.map_cons, List.map_nil, hv, Go.Lib.run_unsafeSliceData_nil (w := E.w) ts]
      · cases h
    · cases h
  case cap =>
    simp only [stepBuiltin] at h
    split at h
    · rename_i x t hx ht
      have hxe : as = #[x] := by cases as; simp at hx; simp [hx]
      have hte : ts = #[t] := by cases ts; simp at ht; simp [ht]
      subst hxe hte
      split at h
      · rename_i el he
        unfold capAV at h
        split at h
        · rename_i hev
          simp only [Option.some.injEq, Prod.mk.injEq] at h; obtain ⟨rfl, rfl⟩ := h; have hund := elemOfSlice_eq he; refine Local.value fun C E X a hr => ⟨.int .i64 0, ?_, by simp [FV]⟩; have hv := hr.ev x; rw [hev] at hv; simp only [FV] at hv
          have hrun : (Builtin.cap_ #[t] o.type #[.slice none 0 0]).run P E.w = .ok (.int .i64 0) E.w := by
            simp [Builtin.cap_, run_underlying hund]
            rfl
          unfold execOp
          simp only [ho, resolve, invoke, builtin, Sem.run_bind, Sem.run_pure, Result.andThen_ok, List.map_toArray, List.map_cons, List.map_nil, hv, hrun]
        · cases h
      · cases h
    · cases h
  case max =>
    simp only [stepBuiltin] at h; obtain ⟨z, h1, rfl, rfl⟩ := lits_some h; simp only [Option.bind_eq_some_iff] at h1; obtain ⟨l, h2, h3⟩ := h1; refine Local.scalar fun C E X a hr => ⟨Builtin.max_ ts 0 l.toArray, ?_, h3⟩; have he := toVals_ev hr h2
    have hm : as.map a.eval = l.toArray := by rw [← he]; apply Array.ext'; simp
    unfold execOp
    have hty : ∀ ty xs, Builtin.max_ ts ty xs = Builtin.max_ ts 0 xs := fun _ _ => rfl; simp only [ho, resolve, invoke, builtin, pure_bind, hm, hty o.type]
  case min =>
    simp only [stepBuiltin] at h; obtain ⟨z, h1, rfl, rfl⟩ := lits_some h; simp only [Option.bind_eq_some_iff] at h1; obtain ⟨l, h2, h3⟩ := h1; refine Local.scalar fun C E X a hr => ⟨Builtin.min_ ts 0 l.toArray, ?_, h3⟩; have he := toVals_ev hr h2
    have hm : as.map a.eval = l.toArray := by rw [← he]; apply Array.ext'; simp
    unfold execOp
    have hty : ∀ ty xs, Builtin.min_ ts ty xs = Builtin.min_ ts 0 xs := fun _ _ => rfl; simp only [ho, resolve, invoke, builtin, pure_bind, hm, hty o.type]
theorem stepQ_sound {P : Program} {σ : St} {id : Nat} {o : Oper} {v : AV} {new : List (Nat × Obj)} (h : stepQ P σ id o.op = some (v, new)) : Local P σ o v new := by
  generalize hop : o.op = op at h
  cases op <;> try (simp [stepQ] at h; done)
  case move x =>
    simp only [stepQ, Option.some.injEq, Prod.mk.injEq] at h; obtain ⟨rfl, rfl⟩ := h; exact Local.move (.inl hop)
  case assign x =>
    simp only [stepQ, Option.some.injEq, Prod.mk.injEq] at h; obtain ⟨rfl, rfl⟩ := h; exact Local.move (.inr hop)
  case pick c x y =>
    simp only [stepQ] at h
    split at h
    · rename_i t hc
      simp only [Option.some.injEq, Prod.mk.injEq] at h; obtain ⟨rfl, rfl⟩ := h; exact Local.pick hop hc
    · cases h
  case binOp op t x y yt =>
    simp only [stepQ] at h
    split at h
    · rename_i a b ha hb
      obtain ⟨z, h1, rfl, rfl⟩ := lits_some h; refine Local.scalar fun C E X act hr => ⟨(do eqGuard op t x y a b; binOp op t a b), ?_, h1⟩
      unfold execOp
      simp only [hop, toVal_ev hr ha, toVal_ev hr hb]
    · cases h
  case unOp op t x =>
    simp only [stepQ] at h; obtain ⟨z, h1, rfl, rfl⟩ := lits_some h; simp only [Option.bind_eq_some_iff] at h1; obtain ⟨a, h2, h3⟩ := h1; refine Local.scalar fun C E X act hr => ⟨Op.unary op a, ?_, h3⟩
    unfold execOp
    simp only [hop, toVal_ev hr h2]
  case convert s d x =>
    simp only [stepQ] at h; obtain ⟨z, h1, rfl, rfl⟩ := lits_some h; simp only [Option.bind_eq_some_iff] at h1; obtain ⟨a, h2, h3⟩ := h1; refine Local.scalar fun C E X act hr => ⟨convert s d a, ?_, h3⟩
    unfold execOp
    simp only [hop, toVal_ev hr h2]
  case makeInterface t x =>
    simp only [stepQ] at h; obtain ⟨z, h1, rfl, rfl⟩ := lits_some h; simp only [Option.bind_eq_some_iff] at h1; obtain ⟨a, h2, h3⟩ := h1; refine Local.scalar fun C E X act hr => ⟨Instr.makeInterface t a, ?_, h3⟩
    unfold execOp
    simp only [hop, toVal_ev hr h2]
  case index t x i =>
    simp only [stepQ] at h
    split at h
    · rename_i a b ha hb
      obtain ⟨z, h1, rfl, rfl⟩ := lits_some h; refine Local.scalar fun C E X act hr => ⟨Instr.index t a b, ?_, h1⟩
      unfold execOp
      simp only [hop, toVal_ev hr ha, toVal_ev hr hb]
    · cases h
  case load t x =>
    simp only [stepQ] at h; obtain ⟨h1, rfl⟩ := vals_some h; exact Local.load hop h1
  case fieldAddr s x f =>
    simp only [stepQ, Option.bind_eq_some_iff] at h; obtain ⟨⟨off, ty⟩, hf, h⟩ := h; obtain ⟨hb, h⟩ := bif_none h; obtain ⟨h1, rfl⟩ := vals_some h; exact Local.fieldAddr hop hf (beq_false_ne hb) h1
  case field s x f =>
    simp only [stepQ, Option.bind_eq_some_iff] at h; obtain ⟨⟨off, ty⟩, hf, h⟩ := h
    split at h
    · rename_i cs hx
      obtain ⟨h1, rfl⟩ := vals_some h; exact Local.field hop hf hx h1
    · cases h
  case indexAddr t x i =>
    simp only [stepQ] at h
    split at h
    · rename_i k n hi
      split at h
      · rename_i e he
        obtain ⟨hb, h⟩ := bif_none h; obtain ⟨h1, rfl⟩ := vals_some h; exact Local.indexAddr hop he hi (beq_false_ne hb) h1
      · obtain ⟨h1, rfl⟩ := vals_some h; simp only [arrAV, Option.bind_eq_some_iff] at h1; obtain ⟨⟨m, e⟩, ha, h1⟩ := h1; obtain ⟨hb, h1⟩ := bif_none h1
        split at h1
        · rename_i hlt
          exact Local.indexArr hop (arrOf_eq ha) hi hlt (beq_false_ne hb) h1
        · cases h1
    · cases h
  case slice t x lo hi mx =>
    cases mx with
    | some m => simp [stepQ] at h
    | none =>
      simp only [stepQ] at h
      split at h
      · rename_i e he
        obtain ⟨hb, h⟩ := bif_none h; simp only [Option.bind_eq_some_iff] at h; obtain ⟨n, hn, l, hl, hh, hhi, h⟩ := h
        split at h
        · rename_i r a b hx
          simp only [Option.bind_eq_some_iff] at h; obtain ⟨ob, hob, h⟩ := h; obtain ⟨hz, h⟩ := bif_some h; obtain ⟨h1, rfl⟩ := vals_some h; rw [Nat.beq_eq] at hz; refine Local.slice hop he (beq_false_ne hb) hn hl hhi (fun r' a' b' e' => ?_) (fun s rows e' => ?_) (by rw [hx]; exact h1)
          · rw [hx] at e'; simp only [AV.als.injEq] at e'; obtain ⟨rfl, _, _⟩ := e'; exact ⟨ob, hob, hz⟩
          · rw [hx] at e'; cases e'
        · rename_i s rows hx
          obtain ⟨hz, h⟩ := bif_some h; obtain ⟨h1, rfl⟩ := vals_some h; rw [Nat.beq_eq] at hz; refine Local.slice hop he (beq_false_ne hb) hn hl hhi (fun r' a' b' e' => ?_) (fun s' rows' e' => ?_) (by rw [hx]; exact h1)
          · rw [hx] at e'; cases e'
          · rw [hx] at e'; simp only [AV.sh.injEq] at e'; rw [← e'.1, hz]
        · cases h
      · split at h
        · rename_i a l hh ha hl hhi
          obtain ⟨z, h1, rfl, rfl⟩ := lits_some h; refine Local.scalar fun C E X act hr => ⟨Instr.sliceAt t a l hh none, ?_, h1⟩
          unfold execOp
          simp only [hop, toVal_ev hr ha, optVal_ev hr hl, optVal_ev hr hhi, Option.map_none]
        · cases h
  case alloc t =>
    simp only [stepQ, Option.map_eq_some_iff, Prod.mk.injEq] at h; obtain ⟨cs, h1, rfl, rfl⟩ := h; exact Local.alloc1 hop h1
  case box t x =>
    simp only [stepQ, Option.map_eq_some_iff, Prod.mk.injEq] at h; obtain ⟨cs, h1, rfl, rfl⟩ := h; exact Local.box hop h1
  case build t parts =>
    simp only [stepQ, Option.bind_eq_some_iff] at h; obtain ⟨zs, hz, pl, hpl, h⟩ := h; obtain ⟨h1, rfl⟩ := vals_some h; simp only [Option.map_eq_some_iff] at h1; obtain ⟨cs, h2, rfl⟩ := h1; exact Local.build hop hz (placesOf_G hpl) h2
  case buildSlice t len parts =>
    simp only [stepQ, Option.bind_eq_some_iff] at h; obtain ⟨e, he, zs, hz, rows, hrows, h⟩ := h; obtain ⟨hb, h⟩ := bif_some h; simp only [Option.some.injEq, Prod.mk.injEq] at h; obtain ⟨rfl, rfl⟩ := h; simp only [Bool.and_eq_true, Nat.beq_eq, Bool.not_eq_true'] at hb; obtain ⟨⟨⟨hb1, hb2⟩, hb3⟩, hb4⟩ := hb; exact Local.buildSlice hop he hz hb1 (beq_false_ne hb2) hrows hb3 (ble_le hb4)
  case makeSlice t x y =>
    simp only [stepQ] at h
    split at h
    · rename_i k1 m k2 m' hx hy
      simp only [Option.bind_eq_some_iff] at h; obtain ⟨e, he, zs, hz, h⟩ := h; obtain ⟨hb, h⟩ := bif_some h; simp only [Option.some.injEq, Prod.mk.injEq] at h; obtain ⟨rfl, rfl⟩ := h; obtain ⟨h1, h2, h3, h4, h5, h6, h7⟩ := of_decide_eq_true hb; subst h1
      have hm : m' = ((m'.toNat : Nat) : Int) := by omega
      exact Local.makeSlice (k1 := k1) (k2 := k2) hop he hz h4 h5 rfl (by rw [← hm]; exact hx) (by rw [← hm]; exact hy) (by omega) h6 (by omega)
    · cases h
  case makeFunc f first caps =>
    simp only [stepQ, Option.some.injEq, Prod.mk.injEq] at h; obtain ⟨rfl, rfl⟩ := h; exact Local.makeFunc hop
  case extract x k =>
    simp only [stepQ] at h
    split at h
    · rename_i vs hx
      obtain ⟨h1, rfl⟩ := vals_some h; exact Local.extract hop hx h1
    · cases h
  case nilCheck x =>
    simp only [stepQ] at h
    split at h
    · rename_i r i j hx
      simp only [Option.some.injEq, Prod.mk.injEq] at h; obtain ⟨rfl, rfl⟩ := h; have := Local.nilCheck (P := P) hop (.inl ⟨r, i, j, hx⟩)
      rwa [hx] at this
    · rename_i row j hx
      simp only [Option.some.injEq, Prod.mk.injEq] at h; obtain ⟨rfl, rfl⟩ := h; have := Local.nilCheck (P := P) hop (.inr ⟨row, j, hx⟩)
      rwa [hx] at this
    · cases h
  case call c =>
    obtain ⟨callee, as, ts⟩ := c
    cases callee <;> try (simp [stepQ] at h; done)
    case builtin b =>
      simp only [stepQ] at h; exact stepBuiltin_sound hop h
  case makeMap t res =>
    cases res with
    | some x => simp [stepQ] at h
    | none =>
      simp only [stepQ, Option.map_eq_some_iff, Prod.mk.injEq] at h; obtain ⟨p, h1, rfl, rfl⟩ := h; exact Local.makeMap hop
  case lookup t x i ok =>
    simp only [stepQ, Option.bind_eq_some_iff] at h; obtain ⟨⟨d, z⟩, h1, ⟨sz, rows⟩, h2, k, h3, h⟩ := h; obtain ⟨hb, h⟩ := bif_some h; simp only [Bool.and_eq_true, Nat.beq_eq] at hb; simp only [Option.bind_eq_some_iff] at h; obtain ⟨r, h4, h⟩ := h; obtain ⟨h5, rfl⟩ := vals_some h; obtain ⟨rfl, hb2⟩ := hb; exact Local.lookup hop h1 h2 h3 hb2 h4 h5
  case range t x =>
    simp only [stepQ] at h
    split at h
    · rename_i sz rows hx
      simp only [Option.map_eq_some_iff, Prod.mk.injEq] at h; obtain ⟨p, h1, rfl, rfl⟩ := h; exact Local.range hop h1 hx
    · cases h
  case entry x =>
    simp only [stepQ, Option.bind_eq_some_iff] at h; obtain ⟨⟨k, vs⟩, h1, h⟩ := h; obtain ⟨h2, rfl⟩ := vals_some h; simp only [Option.map_eq_some_iff] at h2; obtain ⟨u, h3, rfl⟩ := h2; exact Local.entry hop h1 h3
def appendAV (P : Program) (σ : St) (dst : Option Nat) (x y : AV) (t : TypeId) : Option St :=
  (elemOfSlice P t).bind fun e => (zeroCellsAV P e).bind fun zs => (headAV σ e (P.cellsOf e) x).bind fun h => (rowsAV σ y).bind fun q =>
    bif Nat.beq zs.length (P.cellsOf e) && !Nat.beq (P.cellsOf e) 0 && Nat.beq q.1 (P.cellsOf e) && Nat.ble ((h.2.1.length + q.2.1.length) * P.bytesOf e) 140737488355328 && Nat.ble (h.2.1.length + q.2.1.length) 140737488355328 then
        some ({ σ with objs := (σ.next, ⟨true, e, P.cellsOf e, h.2.1 ++ q.2.1, h.2.2 && q.2.2⟩) :: σ.drop1 h.1, next := σ.next + 1 }.put dst (.als σ.next 0 (h.2.1.length + q.2.1.length)))
      else none
def withinB (σ : St) : AV → Bool
  | .als r lo m => match find σ.objs r with
    | some o => Nat.ble (lo + m) o.rows.length
    | none => true
  | _ => true
theorem withinB_spec {σ : St} {v : AV} (h : withinB σ v = true) : ∀ r lo m ob, v = .als r lo m → find σ.objs r = some ob → lo + m ≤ ob.rows.length := by
  rintro r lo m ob rfl hob; simp only [withinB, hob] at h; exact Nat.le_of_ble_eq_true h
theorem appendAV_sound {P : Program} {σ σ' : St} {o : Oper} {x y : Operand} {t : TypeId} (ho : o.op = .call { callee := .builtin .append, args := #[x, y], argTypes := #[t, t] }) (hd : ∀ d, o.dst = some d → d < σ.nt)
    (h : appendAV P σ o.dst (σ.ev x) (σ.ev y) t = some σ') (hw : withinB σ (σ.ev y) = true) : Writer P σ o σ' := by
  simp only [appendAV, Option.bind_eq_some_iff] at h; obtain ⟨e, he, zs, hz, ⟨h0, rows1, c1⟩, hh, ⟨s, rows2, c2⟩, hq, h⟩ := h; obtain ⟨hb, h⟩ := bif_some h; simp only [Bool.and_eq_true, Nat.beq_eq, Bool.not_eq_true'] at hb; obtain ⟨⟨⟨⟨hb1, hb2⟩, hb3⟩, hb4⟩, hb5⟩ := hb; simp only [Option.some.injEq] at h; subst h; subst hb3; obtain ⟨i, z, hi, _⟩ := zeroCellsAV_spec hz
  have hml : (140737488355328 : Nat) ≤ maxLen := by decide
  refine Writer.append ho he hz hb1 (beq_false_ne hb2) hi hh hq (withinB_spec hw) ?_ (Nat.le_trans (ble_le hb5) hml) hd
  have : P.bytesOf e = i.bytes := by simp [Program.bytesOf, hi]
  rw [← this]; exact ble_le hb4
def stepAppend (P : Program) (σ : St) (dst : Option Nat) (as : Array Operand) (ts : Array TypeId) : Option St :=
  match as.toList, ts.toList with
  | [x, y], [t, u] => bif Nat.beq t u && withinB σ (σ.ev y) then appendAV P σ dst (σ.ev x) (σ.ev y) t else none
  | _, _ => none
theorem stepAppend_sound {P : Program} {σ σ' : St} {o : Oper} {as : Array Operand} {ts : Array TypeId} (ho : o.op = .call { callee := .builtin .append, args := as, argTypes := ts }) (hd : ∀ d, o.dst = some d → d < σ.nt)
    (h : stepAppend P σ o.dst as ts = some σ') : Writer P σ o σ' := by
  unfold stepAppend at h
  split at h
  · rename_i x y t u h1 h2
    obtain ⟨hb, h'⟩ := bif_some h; simp only [Bool.and_eq_true, Nat.beq_eq] at hb; obtain ⟨rfl, hb⟩ := hb
    have e1 : as = #[x, y] := by cases as; simp at h1; simp [h1]
    have e2 : ts = #[t, t] := by cases ts; simp at h2; simp [h2]
    subst e1 e2; exact appendAV_sound ho hd h' hb
  · cases h
def stepO (P : Program) (σ : St) (o : Oper) : Option St :=
  match o.op with
  | .store t x y => bif (P.info? t).isSome then (storeAV P σ t (σ.ev x) (σ.ev y)).map fun σ' => σ'.put o.dst .top else none
  | .call { callee := .builtin .append, args := as, argTypes := ts } => stepAppend P σ o.dst as ts
  | op => match stepQ P σ σ.next op with
    | some (v, new) => some (σ.ext o.dst v new (σ.next + new.length))
    | none => none
def dstOk (σ : St) : Option Nat → Bool
  | none => true
  | some d => Nat.blt d σ.nt
theorem dstOk_spec {σ : St} {x : Option Nat} (h : dstOk σ x = true) : ∀ d, x = some d → d < σ.nt := by
  rintro d rfl; exact Nat.le_of_ble_eq_true h
theorem stepQ_new {P : Program} {σ : St} {op : Op} {v : AV} {new : List (Nat × Obj)} {id : Nat} (h : stepQ P σ id op = some (v, new)) : new = [] ∨ ∃ ob, new = [(id, ob)] := by
  cases op <;> try (simp [stepQ] at h; done)
  case makeMap t res =>
    cases res with
    | some x => simp [stepQ] at h
    | none =>
      simp only [stepQ, Option.map_eq_some_iff, Prod.mk.injEq] at h; obtain ⟨p, h1, rfl, rfl⟩ := h; exact .inr ⟨_, rfl⟩
  case lookup t x i ok =>
    simp only [stepQ, Option.bind_eq_some_iff] at h; obtain ⟨⟨d, z⟩, h1, ⟨sz, rows⟩, h2, k, h3, h⟩ := h; obtain ⟨hb, h⟩ := bif_some h; simp only [Option.bind_eq_some_iff] at h; obtain ⟨r, h4, h⟩ := h; exact .inl (vals_some h).2
  case entry x =>
    simp only [stepQ, Option.bind_eq_some_iff] at h; obtain ⟨⟨k, vs⟩, h1, h⟩ := h; exact .inl (vals_some h).2
  case range t x =>
    simp only [stepQ] at h
    split at h
    · simp only [Option.map_eq_some_iff, Prod.mk.injEq] at h; obtain ⟨p, h1, rfl, rfl⟩ := h; exact .inr ⟨_, rfl⟩
    · cases h
  case alloc t =>
    simp only [stepQ, Option.map_eq_some_iff, Prod.mk.injEq] at h; obtain ⟨cs, h1, rfl, rfl⟩ := h; exact .inr ⟨_, rfl⟩
  case box t x =>
    simp only [stepQ, Option.map_eq_some_iff, Prod.mk.injEq] at h; obtain ⟨cs, h1, rfl, rfl⟩ := h; exact .inr ⟨_, rfl⟩
  case buildSlice t len parts =>
    simp only [stepQ, Option.bind_eq_some_iff] at h; obtain ⟨e, he, zs, hz, rows, hrows, h⟩ := h; obtain ⟨hb, h⟩ := bif_some h; simp only [Option.some.injEq, Prod.mk.injEq] at h; obtain ⟨rfl, rfl⟩ := h; exact .inr ⟨_, rfl⟩
  case makeSlice t x y =>
    simp only [stepQ] at h
    split at h
    · simp only [Option.bind_eq_some_iff] at h; obtain ⟨e, he, zs, hz, h⟩ := h; obtain ⟨hb, h⟩ := bif_some h; simp only [Option.some.injEq, Prod.mk.injEq] at h; obtain ⟨rfl, rfl⟩ := h; exact .inr ⟨_, rfl⟩
    · cases h
  case slice t x lo hi mx =>
    left
    cases mx with
    | some m => simp [stepQ] at h
    | none =>
      simp only [stepQ] at h
      split at h
      · obtain ⟨_, h⟩ := bif_none h; simp only [Option.bind_eq_some_iff] at h; obtain ⟨n, hn, l, hl, hh, hhi, h⟩ := h
        split at h
        · simp only [Option.bind_eq_some_iff] at h; obtain ⟨ob, hob, h⟩ := h; exact (vals_some (bif_some h).2).2
        · exact (vals_some (bif_some h).2).2
        · cases h
      · split at h
        · exact (lits_some h).choose_spec.2.2
        · cases h
  case call c =>
    obtain ⟨callee, as, ts⟩ := c
    cases callee <;> try (simp [stepQ] at h; done)
    case builtin b =>
      left
      simp only [stepQ] at h
      cases b <;> try (simp [stepBuiltin] at h; done)
      case len =>
        simp only [stepBuiltin] at h
        split at h
        · split at h
          · simp only [Option.map_eq_some_iff, Prod.mk.injEq] at h; obtain ⟨n, h1, _, rfl⟩ := h; rfl
          · split at h
            · simp only [Option.bind_eq_some_iff] at h; obtain ⟨p, _, h⟩ := h; have := (bif_some h).2; simp only [Option.some.injEq, Prod.mk.injEq] at this; exact this.2.symm
            · exact (lits_some h).choose_spec.2.2
        · cases h
      case unsafeSliceData =>
        simp only [stepBuiltin] at h
        split at h
        · unfold sdataAV at h
          split at h
          · have := (bif_some h).2; simp only [Option.some.injEq, Prod.mk.injEq] at this; exact this.2.symm
          · simp only [Option.some.injEq, Prod.mk.injEq] at h; exact h.2.symm
          · cases h
        · cases h
      case cap =>
        simp only [stepBuiltin] at h
        split at h
        · split at h
          · unfold capAV at h
            split at h
            · simp only [Option.some.injEq, Prod.mk.injEq] at h; exact h.2.symm
            · cases h
          · cases h
        · cases h
      case max => simp only [stepBuiltin] at h; exact (lits_some h).choose_spec.2.2
      case min => simp only [stepBuiltin] at h; exact (lits_some h).choose_spec.2.2
  all_goals left
  all_goals simp only [stepQ] at h
  all_goals first
    | exact (lits_some h).choose_spec.2.2
    | exact (vals_some h).2
    | (simp only [Option.some.injEq, Prod.mk.injEq] at h; exact h.2.symm)
    | (simp only [Option.bind_eq_some_iff] at h; obtain ⟨_, _, h⟩ := h; exact (vals_some (bif_none h).2).2)
    | (simp only [Option.bind_eq_some_iff] at h; obtain ⟨_, _, _, _, h⟩ := h; exact (vals_some h).2)
    | (simp only [Option.bind_eq_some_iff] at h; obtain ⟨_, _, h⟩ := h; split at h <;> first | exact (vals_some h).2 | cases h)
    | (split at h <;> (first | (cases h; done) | exact (lits_some h).choose_spec.2.2 | exact (vals_some h).2 | (simp only [Option.some.injEq, Prod.mk.injEq] at h; exact h.2.symm) | (simp only [Option.bind_eq_some_iff] at h; obtain ⟨_, _, h⟩ := h; exact (vals_some (bif_none h).2).2) | (split at h <;> first | exact (vals_some (bif_none h).2).2 | exact (vals_some h).2)))
theorem stepO_sound {P : Program} {σ σ' : St} {o : Oper} (hd : dstOk σ o.dst = true) (h : stepO P σ o = some σ') : Writer P σ o σ' := by
  unfold stepO at h
  split at h
  · rename_i t x y hop
    obtain ⟨hi, h⟩ := bif_some h; simp only [Option.map_eq_some_iff] at h; obtain ⟨σ1, h1, rfl⟩ := h; exact Writer.store hop (Option.isSome_iff_exists.1 hi) (dstOk_spec hd) h1
  · rename_i as ts hop
    exact stepAppend_sound hop (dstOk_spec hd) h
  · split at h
    · rename_i v new hq
      simp only [Option.some.injEq] at h; subst h; refine Writer.of_local (stepQ_sound hq) (dstOk_spec hd) ?_ (by omega)
      rcases stepQ_new hq with rfl | ⟨ob, rfl⟩
      · intro r ob hf; simp [find] at hf
      · intro r ob' hf; rw [find_cons] at hf
        split at hf
        · simp; omega
        · simp [find] at hf
    · cases h
def seqF (P : Program) (ops : Array Oper) (ds : List (Option Nat)) : List Oper → St → (St → Prop) → Prop
  | [], σ, Q => Q σ
  | o :: rest, σ, Q => match guardGo ds σ o.guard with
    | some true => bif dstOk σ o.dst then (match stepO P σ o with
      | some σ' => seqF P ops ds rest σ' Q
      | none => SeqL P ops (o :: rest) σ Q) else False
    | some false => bif dstOk σ o.dst then seqF P ops ds rest (σ.put o.dst (.lit undef)) Q else False
    | none => False
end Go.AM
namespace Go.AM
set_option linter.unusedVariables false
set_option linter.unusedSimpArgs false
set_option linter.unusedSectionVars false
theorem ble_dec (m n : Nat) : Nat.ble m n = decide (m ≤ n) := by
  by_cases h : m ≤ n
  · simp [h, Nat.ble_eq]
  · cases hb : Nat.ble m n
    · simp [h]
    · exact absurd (Nat.le_of_ble_eq_true hb) h
theorem pureOn_underlying {P : Program} {t : TypeId} {d : TypeDesc} (h : P.underlying t = some d) : pureOn P (underlying t) = some d := by
  simp only [underlying, pureOn_bind]; have : pureOn P program = some P := rfl; rw [this, Option.bind_some, h]; rfl
section
variable (P : Program) (t : TypeId) (x y : Operand) (k : IntKind) (a b : Int)
theorem bin_add : bin P .add t x y (.int k a) (.int k b) = some (.int k (k.wrap (a + b))) := by simp [bin, pureOn_bind, eqGuard, binOp, Op.intArith, pureOn_pure]
theorem bin_sub : bin P .sub t x y (.int k a) (.int k b) = some (.int k (k.wrap (a - b))) := by simp [bin, pureOn_bind, eqGuard, binOp, Op.intArith, pureOn_pure]
theorem bin_mul : bin P .mul t x y (.int k a) (.int k b) = some (.int k (k.wrap (a * b))) := by simp [bin, pureOn_bind, eqGuard, binOp, Op.intArith, pureOn_pure]
theorem bin_quo (h : b ≠ 0) : bin P .quo t x y (.int k a) (.int k b) = some (.int k (k.wrap (a.tdiv b))) := by simp [bin, pureOn_bind, eqGuard, binOp, Op.intDiv, pureOn_pure, h]
theorem bin_rem (h : b ≠ 0) : bin P .rem t x y (.int k a) (.int k b) = some (.int k (a.tmod b)) := by simp [bin, pureOn_bind, eqGuard, binOp, Op.intDiv, pureOn_pure, h]
theorem bin_eql : bin P .eql t x y (.int k a) (.int k b) = some (.bool (decide (a = b))) := by
  simp [bin, pureOn_bind, eqGuard_at_int, binOp, Op.intCmp, pureOn_pure]
  rfl
theorem bin_neq : bin P .neq t x y (.int k a) (.int k b) = some (.bool (!decide (a = b))) := by
  simp [bin, pureOn_bind, eqGuard_at_int, binOp, Op.intCmp, pureOn_pure]
  rfl
theorem bin_lss : bin P .lss t x y (.int k a) (.int k b) = some (.bool (decide (a < b))) := by simp [bin, pureOn_bind, eqGuard, binOp, Op.intCmp, pureOn_pure]
theorem bin_leq : bin P .leq t x y (.int k a) (.int k b) = some (.bool (decide (a ≤ b))) := by simp [bin, pureOn_bind, eqGuard, binOp, Op.intCmp, pureOn_pure]
theorem bin_gtr : bin P .gtr t x y (.int k a) (.int k b) = some (.bool (decide (b < a))) := by simp [bin, pureOn_bind, eqGuard, binOp, Op.intCmp, pureOn_pure]
theorem bin_geq : bin P .geq t x y (.int k a) (.int k b) = some (.bool (decide (b ≤ a))) := by simp [bin, pureOn_bind, eqGuard, binOp, Op.intCmp, pureOn_pure]
theorem una_not (c : Bool) : una P .not (.bool c) = some (.bool (!c)) := rfl
theorem una_neg : una P .neg (.int k a) = some (.int k (k.wrap (0 - a))) := rfl
theorem maxV_int (ts : Array TypeId) : maxV P ts [.int k a, .int k b] = some (.int k (max a b)) := by
  have : (if b > a then b else a) = max a b := by rw [Int.max_def]; split <;> split <;> omega
  simp [maxV, Builtin.max_, Builtin.max2, pureOn_bind, pureOn_pure, this]
theorem minV_int (ts : Array TypeId) : minV P ts [.int k a, .int k b] = some (.int k (min a b)) := by
  have : (if b < a then b else a) = min a b := by rw [Int.min_def]; split <;> split <;> omega
  simp [minV, Builtin.min_, Builtin.min2, pureOn_bind, pureOn_pure, this]
end
theorem wrap_i64 {x : Int} (h : -9223372036854775808 ≤ x) (h' : x ≤ 9223372036854775807) : IntKind.i64.wrap x = x := by
  have e : IntKind.i64.wrap x = if x % 18446744073709551616 ≥ 9223372036854775808 then x % 18446744073709551616 - 18446744073709551616 else x % 18446744073709551616 := by
    simp [IntKind.wrap, IntKind.bits, IntKind.signed]
  rw [e]
  split <;> omega
theorem tdiv_nn {a b : Int} (h : 0 ≤ a) : a.tdiv b = a / b := Int.tdiv_eq_ediv_of_nonneg h
theorem tmod_nn {a b : Int} (h : 0 ≤ a) : a.tmod b = a % b := Int.tmod_eq_emod_of_nonneg h
theorem Fun.of {P : Program} {f : FuncId} {fn : Func} {c : Code} {args : List AV} {Post : AV → List (Nat × Obj) → Prop} {nt : Nat} {rs : List ResultVar} (hf : P.funcs[f]? = some fn) (hb : fn.body = some c) (ht : fn.ntmps = nt)
    (hr : fn.results.toList = rs) (hnm : (fn.name == "runtime.NumGoroutine") = false) (hn : Nat.ble args.length nt = true) (h : Ev P c ⟨argSlots 0 args, [], 0, nt, 0⟩ (endP P rs Post)) : Fun P f args Post :=
  Fun.of_body hf hb hnm (by rw [ht]; exact ble_le hn) (by rw [ht, hr]; exact h)
end Go.AM
