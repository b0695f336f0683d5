/-
  Part 4 of the proof: the abstract machine, proved sound over the model.
  Conditions: none.
-/
import Derived.Lib.UnsafeStr
import Derived.Test.YtlpgjlnkfgacbaaGreatDoorX3
set_option linter.unusedVariables false
set_option linter.unusedSimpArgs false
set_option linter.unusedSectionVars false
set_option linter.unnecessarySimpa false
namespace Go.AM
def Eb (P : Program) (t : TypeId) : Option (List (Nat × Nat)) :=
  match P.underlying t with
  | some (.struct fields) => fields.toList.mapM (fun f => (P.info? f.type).map fun i => (f.offset, i.size))
  | _ => none
theorem placesOf_L {P : Program} {t : TypeId} {pl : List (Nat × Nat)} (h : Eb P t = some pl) : placesOf P t = some fun i => pl[i]? := by
  unfold Eb at h
  unfold placesOf
  split at h
  · rename_i fields hu
    simp only [hu, h, Option.map_some]
    congr 1
    funext i
    simp
  cases h
theorem bif_none' {α : Type} {c : Bool} {x : Option α} {v : α} (h : (bif c then none else x) = some v) : c = false ∧ x = some v := by
  cases c
  · exact ⟨rfl, h⟩
  simp at h
def arrOf (P : Program) (t : TypeId) : Option (Nat × TypeId) :=
  match P.underlying t with
  | some (.array n e) => some (n, e)
  | _ => none
theorem arrOf_eq {P : Program} {t : TypeId} {n : Nat} {e : TypeId} (h : arrOf P t = some (n, e)) : P.underlying t = some (.array n e) := by
  unfold arrOf at h
  split at h
  · rename_i hu
    simp only [Option.some.injEq, Prod.mk.injEq] at h; rw [hu, h.1, h.2]
  cases h
def placesG (P : Program) (t : TypeId) : Option (Nat → Option (Nat × Nat)) :=
  match Eb P t with
  | some pl => some fun i => pl[i]?
  | none => (arrOf P t).bind fun q => bif Nat.beq (P.cellsOf q.2) 0 then none else some fun k => some (k * P.cellsOf q.2, P.cellsOf q.2)
theorem placesOf_G {P : Program} {t : TypeId} {f : Nat → Option (Nat × Nat)} (h : placesG P t = some f) : placesOf P t = some f := by
  unfold placesG at h
  split at h
  · rename_i pl hpl
    simp only [Option.some.injEq] at h; rw [← h, placesOf_L hpl]
  simp only [Option.bind_eq_some_iff] at h; obtain ⟨⟨n, e⟩, ha, h⟩ := h; have hu := arrOf_eq ha
  unfold placesOf
  simp only [hu]
  cases hi : P.info? e with
  | none => simp [Program.cellsOf, hi, Nat.beq] at h
  | some i =>
    simp only [CM hi] at h; obtain ⟨hb, h⟩ := bif_none' h
    simpa using h
def arrAV (P : Program) (t : TypeId) (n : Int) (v : AV) : Option AV :=
  (arrOf P t).bind fun q => bif Nat.beq (P.cellsOf q.2) 0 then none else if 0 ≤ n ∧ n < q.1 then shift (n.toNat * P.cellsOf q.2) v else none
def Db (x : Option Value) : Option (AV × List (Nat × Obj)) := x.map fun z => (.lit z, [])
def Fr (x : Option AV) : Option (AV × List (Nat × Obj)) := x.map fun v => (v, [])
def Eu (P : Program) (op : BinOp) (t : TypeId) (x y : Operand) (a b : Value) : Option Value := BK P (do eqGuard op t x y a b; binOp op t a b)
def una (P : Program) (op : UnOp) (a : Value) : Option Value := BK P (Op.unary op a)
def conv (P : Program) (s d : TypeId) (a : Value) : Option Value := BK P (convert s d a)
def mkIface (P : Program) (t : TypeId) (a : Value) : Option Value := BK P (Instr.makeInterface t a)
def idx (P : Program) (t : TypeId) (a i : Value) : Option Value := BK P (Instr.index t a i)
def sliceV (P : Program) (t : TypeId) (a : Value) (lo hi : Option Value) : Option Value := BK P (Instr.sliceAt t a lo hi none)
def maxV (P : Program) (ts : Array TypeId) (as : List Value) : Option Value := BK P (Builtin.max_ ts 0 as.toArray)
def minV (P : Program) (ts : Array TypeId) (as : List Value) : Option Value := BK P (Builtin.min_ ts 0 as.toArray)
def lenV (P : Program) (ts : Array TypeId) (as : List Value) : Option Value := BK P (Builtin.len_ ts 0 as.toArray)
def Fs (σ : St) : Option Operand → Option (Option Value)
  | none => some none
  | some x => (Cq (σ.ev x)).map some
def sdataAV : AV → Option (AV × List (Nat × Obj))
  | .als r lo n => bif Nat.beq lo 0 && Nat.blt 0 n then some (.adr r 0 0, []) else none
  | .lit (.slice none 0 0) => some (.lit (.pointer none), [])
  | _ => none
def capAV : AV → Option (AV × List (Nat × Obj))
  | .lit (.slice none 0 0) => some (.lit (.int .i64 0), [])
  | _ => none
def BT (P : Program) (σ : St) (b : Builtin) (as : Array Operand) (ts : Array TypeId) : Option (AV × List (Nat × Obj)) :=
  match b with
  | .len => match as.toList, ts.toList with
    | [x], [t] => match AX P t with
      | some _ => (Gk (σ.ev x)).map fun (n : Nat) => (.lit (.int .i64 (n : Int)), [])
      | none => match F0 σ (σ.ev x) with
        | some q => (mapTy P t).bind fun p => bif Nat.beq q.1 (msz p.2) then some (.lit (.int .i64 ((q.2.length : Nat) : Int)), []) else none
        | none => Db ((CU (as.toList.map σ.ev)).bind fun l => lenV P ts l)
    | _, _ => none
  | .max => Db ((CU (as.toList.map σ.ev)).bind fun l => maxV P ts l)
  | .min => Db ((CU (as.toList.map σ.ev)).bind fun l => minV P ts l)
  | .unsafeSliceData => match as.toList with
    | [x] => sdataAV (σ.ev x)
    | _ => none
  | .cap => match as.toList, ts.toList with
    | [x], [t] => match AX P t with
      | some _ => capAV (σ.ev x)
      | none => none
    | _, _ => none
  | _ => none
def mkOk (m m' : Int) (l c b : Nat) : Bool := decide (m' = m ∧ 0 ≤ m ∧ m ≤ 1000000 ∧ l = c ∧ c ≠ 0 ∧ m.toNat * b ≤ 100000000 ∧ m.toNat * c ≤ 16777216)
def Az (P : Program) (σ : St) (id : Nat) : Op → Option (AV × List (Nat × Obj))
  | .move x => some (σ.ev x, [])
  | .assign x => some (σ.ev x, [])
  | .pick c x y => match σ.ev c with
    | .lit (.bool t) => some (if t then σ.ev x else σ.ev y, [])
    | _ => none
  | .binOp op t x y _ => match Cq (σ.ev x), Cq (σ.ev y) with
    | some a, some b => Db (Eu P op t x y a b)
    | _, _ => none
  | .unOp op _ x => Db ((Cq (σ.ev x)).bind fun a => una P op a)
  | .convert s d x => Db ((Cq (σ.ev x)).bind fun a => conv P s d a)
  | .makeInterface t x => Db ((Cq (σ.ev x)).bind fun a => mkIface P t a)
  | .index t x i => match Cq (σ.ev x), Cq (σ.ev i) with
    | some a, some b => Db (idx P t a b)
    | _, _ => none
  | .load t x => Fr (G3 P σ t (σ.ev x))
  | .fieldAddr s x f => (Br P s f).bind fun p => bif Nat.beq (P.cellsOf p.2) 0 then none else Fr (shift p.1 (σ.ev x))
  | .field s x f => (Br P s f).bind fun p => match σ.ev x with
    | .agg cs => Fr (partAV P p.2 cs p.1)
    | _ => none
  | .indexAddr t x i => match σ.ev i with
    | .lit (.int _ n) => match AX P t with
      | some e => bif Nat.beq (P.cellsOf e) 0 then none else Fr (FE σ (P.cellsOf e) (σ.ev x) n)
      | none => Fr (arrAV P t n (σ.ev x))
    | _ => none
  | .slice t x lo hi none => match AX P t with
    | some e => bif Nat.beq (P.cellsOf e) 0 then none else
      (Gk (σ.ev x)).bind fun n => (Dm σ 0 lo).bind fun l => (Dm σ n hi).bind fun h =>
        match σ.ev x with
        | .als r a b => (Aw σ.objs r).bind fun ob => bif Nat.beq ob.sz (P.cellsOf e) then Fr (G4 (.als r a b) l h) else none
        | .sh s rows => bif Nat.beq s (P.cellsOf e) then Fr (G4 (.sh s rows) l h) else none
        | _ => none
    | none => match Cq (σ.ev x), Fs σ lo, Fs σ hi with
      | some a, some l, some h => Db (sliceV P t a l h)
      | _, _, _ => none
  | .alloc t => (Bt P t).map fun cs => (.adr id 0 0, [(id, ⟨false, t, cs.length, [cs], true⟩)])
  | .box t x => (Di (σ.ev x)).map fun cs => (.adr id 0 0, [(id, ⟨false, t, cs.length, [cs], BQ cs⟩)])
  | .build t parts => (Bt P t).bind fun zs => (placesG P t).bind fun pl => Fr ((fillAV pl zs (parts.toList.map fun p => (p.1, σ.ev p.2))).map .agg)
  | .buildSlice t len parts => (AX P t).bind fun e => (Bt P e).bind fun zs => (rowsOf (P.cellsOf e) 0 (parts.toList.map fun p => (p.1, σ.ev p.2))).bind fun rows =>
    bif Nat.beq zs.length (P.cellsOf e) && !Nat.beq (P.cellsOf e) 0 && Nat.beq rows.length len && Nat.ble (len * P.cellsOf e) 16777216 then some (.als id 0 len, [(id, ⟨true, e, P.cellsOf e, rows, closedR rows⟩)]) else none
  | .makeSlice t x y => match σ.ev x, σ.ev y with
    | .lit (.int _ m), .lit (.int _ m') => (AX P t).bind fun e => (Bt P e).bind fun zs => bif mkOk m m' zs.length (P.cellsOf e) (P.bytesOf e) then some (.als id 0 m.toNat, [(id, ⟨true, e, P.cellsOf e, List.replicate m.toNat zs, true⟩)]) else none
    | _, _ => none
  | .makeFunc f first caps => some (.fn f (first.toList.map σ.ev) (caps.toList.map σ.ev), [])
  | .extract x k => match σ.ev x with
    | .tup vs => Fr (vs[k]?)
    | _ => none
  | .nilCheck x => match σ.ev x with
    | .adr r i j => some (.adr r i j, [])
    | .sadr row j => some (.sadr row j, [])
    | _ => none
  | .call { callee := .builtin b, args := as, argTypes := ts } => BT P σ b as ts
  | .makeMap t none => (mapTy P t).map fun p => (.hd id, [(id, ⟨true, t, msz p.2, [], true⟩)])
  | .lookup t x i ok => (mapTy P t).bind fun p => (F0 σ (σ.ev x)).bind fun q => (Cq (σ.ev i)).bind fun k => bif Nat.beq q.1 (msz p.2) && keyB p.1 k then (findAV p.1 k q.2 0).bind fun r => Fr (lookAV p.2 ok r) else none
  | .range t x => match σ.ev x with
    | .shm sz rows => (mapTy P t).map fun _ => (.hd id, [(id, ⟨false, 0, 1, [[.rem sz [] rows]], true⟩)])
    | _ => none
  | .entry x => (iterAV σ (σ.ev x)).bind fun q => Fr ((entAV q.2).map fun u => .tup [q.1, u])
  | _ => none
theorem EG {C : Ctx} {E : Env} {X : Nat → List Value} {σ : St} {a : Act} (h : Rel C E X σ a) {x : Operand} {v : Value} (hv : Cq (σ.ev x) = some v) : a.eval x = v := FV.toVal hv (h.ev x)
theorem toVals_ev {C : Ctx} {E : Env} {X : Nat → List Value} {σ : St} {a : Act} (h : Rel C E X σ a) {l : List Operand} {vs : List Value} (hv : CU (l.map σ.ev) = some vs) : l.map a.eval = vs := FVs.toVals hv (h.evs l)
theorem optVal_ev {C : Ctx} {E : Env} {X : Nat → List Value} {σ : St} {a : Act} (h : Rel C E X σ a) {x : Option Operand} {v : Option Value} (hv : Fs σ x = some v) : x.map a.eval = v := by
  cases x with
  | none => simp only [Fs, Option.some.injEq] at hv; exact hv
  | some y =>
    simp only [Fs, Option.map_eq_some_iff] at hv; obtain ⟨u, h1, rfl⟩ := hv
    simp [EG h h1]
theorem Df {x : Option Value} {v : AV} {new : List (Nat × Obj)} (h : Db x = some (v, new)) : ∃ z, x = some z ∧ v = .lit z ∧ new = [] := by
  unfold Db at h
  simp only [Option.map_eq_some_iff, Prod.mk.injEq] at h; obtain ⟨z, h1, h2, h3⟩ := h; exact ⟨z, h1, h2.symm, h3.symm⟩
theorem CE {x : Option AV} {v : AV} {new : List (Nat × Obj)} (h : Fr x = some (v, new)) : x = some v ∧ new = [] := by
  unfold Fr at h
  simp only [Option.map_eq_some_iff, Prod.mk.injEq] at h; obtain ⟨z, h1, h2, h3⟩ := h; exact ⟨by rw [h1, h2], h3.symm⟩
theorem DS {α : Type} {c : Bool} {x : Option α} {v : α} (h : (bif c then x else none) = some v) : c = true ∧ x = some v := by
  cases c
  · simp at h
  exact ⟨rfl, h⟩
theorem GG {α : Type} {c : Bool} {x : Option α} {v : α} (h : (bif c then none else x) = some v) : c = false ∧ x = some v := by
  cases c
  · exact ⟨rfl, h⟩
  simp at h
theorem En {m n : Nat} (h : Nat.beq m n = false) : m ≠ n := by
  intro e; subst e; rw [Nat.beq_refl] at h
  cases h
theorem wrapI {x : Int} (h : -9223372036854775808 ≤ x) (h' : x ≤ 9223372036854775807) : IntKind.i64.wrap x = x := by
  have e : IntKind.i64.wrap x = if x % 18446744073709551616 ≥ 9223372036854775808 then x % 18446744073709551616 - 18446744073709551616 else x % 18446744073709551616 := by
    simp [IntKind.wrap, IntKind.bits, IntKind.signed]
  rw [e]
  split <;> omega
theorem range_rep {α : Type} [Inhabited α] (zc : Array α) : ∀ n, ((Array.range (n * zc.size)).map (fun k => zc[k % zc.size]!)).toList = (List.replicate n zc.toList).flatten := by
  intro n; rw [Array.toList_map, Array.toList_range]
  induction n with
  | zero => simp
  | succ n ih =>
    rw [Nat.succ_mul, List.range_add, List.map_append, ih, List.replicate_succ', List.flatten_append]
    congr 1
    simp only [List.flatten_cons, List.flatten_nil, List.append_nil, List.map_map]
    apply List.ext_getElem
    · simp
    intro i h1 h2; simp only [List.length_map, List.length_range] at h1; simp only [List.getElem_map, List.getElem_range, Function.comp_apply, Array.getElem_toList]
    have e : (n * zc.size + i) % zc.size = i := by rw [Nat.mul_comm, Nat.mul_add_mod, Nat.mod_eq_of_lt h1]
    rw [e, getElem!_pos zc i h1]
theorem FVr_rep {E : Env} {sz : Nat} {zs : List AV} {ys : List Value} (hl : zs.length = sz) (h : FVc E zs ys) : ∀ n, FVr E sz (List.replicate n zs) (List.replicate n ys).flatten
  | 0 => rfl
  | n + 1 => by
    rw [List.replicate_succ, List.replicate_succ, List.flatten_cons]; simp only [FVr]; exact ⟨ys, _, rfl, hl, h, FVr_rep hl h n⟩
theorem Local.makeSlice {P : Program} {σ : St} {o : Oper} {ty el by' m id : Nat} {x y : Operand} {k1 k2 : IntKind} {zs : List AV} (ho : o.op = .makeSlice ty x y) (ht : AX P ty = some el) (hz : Bt P el = some zs) (hzl : zs.length = P.cellsOf el) (hpos : P.cellsOf el ≠ 0)
    (hby : P.bytesOf el = by') (hx : σ.ev x = .lit (.int k1 (m : Int))) (hy : σ.ev y = .lit (.int k2 (m : Int))) (hm : m ≤ 1000000) (hmb : m * by' ≤ 100000000) (hmc : m * P.cellsOf el ≤ 2 ^ 24) :
    Local P σ o (.als id 0 m) [(id, ⟨true, el, P.cellsOf el, List.replicate m zs, true⟩)] :=
  Local.alloc fun C E X a hr => by
    obtain ⟨i, z, hi, hzz, rfl, hzr, hfv⟩ := DQ hz; have hsz := CM hi; rw [hsz] at hpos hzl hmc; simp only [List.length_map, Array.length_toList] at hzl
    have hbi : i.bytes = by' := by rw [← hby]; simp [Program.bytesOf, hi]
    have hund := DZ ht; have hX : a.eval x = .int k1 (m : Int) := EG hr (by rw [hx]; rfl); have hY : a.eval y = .int k2 (m : Int) := EG hr (by rw [hy]; rfl)
    have hrow : ((Array.range (m * i.size)).map (fun k => z.cells[k % z.cells.size]!)).toList = (List.replicate m z.cells.toList).flatten := by
      rw [← hzl]; exact range_rep z.cells m
    have hcs : ((Array.range (m * i.size)).map (fun k => z.cells[k % z.cells.size]!)).size = m * i.size := by simp
    have hW : IntKind.i64.wrap (m : Int) = m := wrapI (by omega) (by omega); refine ⟨.slice (some ⟨E.w.heap.size, 0, none⟩) m m, (List.replicate m z.cells.toList).flatten, (Array.range (m * i.size)).map (fun k => z.cells[k % z.cells.size]!), el, ?_, rfl, ?_, by rw [hsz]; exact FVr_rep (by simp [hzl]) (hfv _) m, ?_⟩
    · unfold execOp
      have hb0 : ¬ ((i.bytes : Int) * (m : Int) > 2 ^ 48) := by
        have : (i.bytes : Int) * (m : Int) = ((m * by' : Nat) : Int) := by rw [hbi, Nat.mul_comm]; simp
        rw [this]; omega
      have hroom : ¬ (m * i.bytes > roomBytes) := by rw [hbi]; simp only [roomBytes]; omega
      have hm0 : ¬ ((m : Int) < 0) := by omega
      have hmm : ¬ ((m : Int) > (m : Int)) := by omega
      have hA : ∀ (k : IntKind) (w : World), (asInt (.int k (m : Int))).run P w = .ok (m : Int) w := fun k w => by simp [asInt, asIntOf]
      have hT : ∀ w, (typeInfo el).run P w = .ok i w := fun w => by simp [typeInfo, hi]
      have hR : ∀ w, (askRoom (m * i.bytes)).run P w = .ok () w := fun w => by simp [askRoom, hroom]
      simp only [ho, Instr.makeSlice, Sem.run_bind, run_underlying hund, Result.andThen_ok, hX, hY, hA, hT, hW, hm0, hb0, hmm, decide_false, Bool.or_self, Bool.false_eq_true, or_self, if_false, Int.toNat_natCast, hR, D2 hi]
      by_cases h0 : m * i.size = 0
      · simp only [h0, if_true, Sem.run_pure, Result.andThen_ok, Array.range_zero', List.map_toArray, List.map_nil, Array.map_empty]
        simp [newRow]
      · simp only [h0, if_false, Sem.run_bind, hzr, Result.andThen_ok, Sem.run_pure]
        simp [newRow]
    · refine Or.inr (Or.inl ⟨E.w.heap.size, m, (Array.range (m * i.size)).map (fun k => z.cells[k % z.cells.size]!), by simp, heap_alloc_new E.w _, by simp, ?_, by rw [hsz, hcs], ?_⟩)
      · simp only [maxLen]; omega
      · rw [hrow, hsz, List.take_of_length_le]; rw [← hrow, Array.length_toList, hcs]; simp
    · intro E' hd hH hZ; simp only [FV]; refine ⟨hd, _, _, _, _, _, hH, rfl, Nat.le_refl _, fun _ => ⟨rfl, rfl⟩, fun _ => ⟨_, rfl, rfl, ?_⟩⟩
      simp [Addr.add_zero']
theorem stepBuiltin_sound {P : Program} {σ : St} {o : Oper} {b : Builtin} {as : Array Operand} {ts : Array TypeId} {v : AV} {new : List (Nat × Obj)} (ho : o.op = .call { callee := .builtin b, args := as, argTypes := ts })
    (h : BT P σ b as ts = some (v, new)) : Local P σ o v new := by
  cases b <;> try (simp [BT] at h; done)
  case len =>
    simp only [BT] at h
    split at h
    · rename_i x t hx ht
      have hxe : as = #[x] := by cases as; simp at hx; simp [hx]
      have hte : ts = #[t] := by cases ts; simp at ht; simp [ht]
      subst hxe hte
      split at h
      · rename_i e he
        simp only [Option.map_eq_some_iff, Prod.mk.injEq] at h; obtain ⟨n, h1, rfl, rfl⟩ := h; exact Local.len ho he h1
      split at h
      · rename_i q hq
        simp only [Option.bind_eq_some_iff] at h; obtain ⟨p, hp, h⟩ := h; obtain ⟨hb, h⟩ := DS h; simp only [Option.some.injEq, Prod.mk.injEq] at h; obtain ⟨rfl, rfl⟩ := h; rw [Nat.beq_eq] at hb; exact Local.lenMap ho (d := p.1) (z := p.2) hp (rows := q.2) (by rw [← hb]; exact hq)
      obtain ⟨z, h1, rfl, rfl⟩ := Df h; simp only [Option.bind_eq_some_iff] at h1; obtain ⟨l, h2, h3⟩ := h1; refine Local.scalar fun C E X a hr => ⟨Builtin.len_ #[t] 0 l.toArray, ?_, h3⟩; have he := toVals_ev hr h2; have hty : ∀ ty xs, Builtin.len_ #[t] ty xs = Builtin.len_ #[t] 0 xs := fun _ _ => rfl
      unfold execOp
      have hm : (#[x] : Array Operand).map a.eval = l.toArray := by rw [← he]; simp
      simp only [ho, resolve, invoke, builtin, pure_bind, hty o.type, hm]
    cases h
  case unsafeSliceData =>
    simp only [BT] at h
    split at h
    · rename_i x hx
      have hxe : as = #[x] := by cases as; simp at hx; simp [hx]
      subst hxe
      unfold sdataAV at h
      split at h
      · rename_i r lo n hev
        obtain ⟨hb, h⟩ := DS h; simp only [Option.some.injEq, Prod.mk.injEq] at h; obtain ⟨rfl, rfl⟩ := h; simp only [Bool.and_eq_true, Nat.beq_eq] at hb; obtain ⟨rfl, hb2⟩ := hb; have hn : 0 < n := Nat.le_of_ble_eq_true hb2; refine Local.value fun C E X a hr => ?_; have hv := hr.ev x; rw [hev] at hv; simp only [FV] at hv; obtain ⟨hD, A0, n0, c0, A, c, hH, hxv, hnc, _, hA⟩ := hv; obtain ⟨a0, rfl, hs, rfl⟩ := hA hn; refine ⟨.pointer (some (a0.add (0 * E.Z r))), ?_, ?_⟩
        · unfold execOp
          have hc : c ≠ 0 := by omega
          simp only [ho, resolve, invoke, builtin, Sem.run_bind, Sem.run_pure, Result.andThen_ok, List.map_toArray, List.map_cons, List.map_nil, hxv, Go.Lib.run_unsafeSliceData_row (w := E.w) ts _ _ _ _ hc]
        simp only [FV]; exact ⟨hD, a0, by rw [hH]; rfl, hs, by rw [Nat.add_zero]⟩
      · rename_i hev
        simp only [Option.some.injEq, Prod.mk.injEq] at h; obtain ⟨rfl, rfl⟩ := h; refine Local.value fun C E X a hr => ⟨.pointer none, ?_, by simp [FV]⟩; have hv := hr.ev x; rw [hev] at hv; simp only [FV] at hv
        unfold execOp
        simp only [ho, resolve, invoke, builtin, Sem.run_bind, Sem.run_pure, Result.andThen_ok, List.map_toArray, List.map_cons, List.map_nil, hv, Go.Lib.run_unsafeSliceData_nil (w := E.w) ts]
      cases h
    cases h
  case cap =>
    simp only [BT] at h
    split at h
    · rename_i x t hx ht
      have hxe : as = #[x] := by cases as; simp at hx; simp [hx]
      have hte : ts = #[t] := by cases ts; simp at ht; simp [ht]
      subst hxe hte
      split at h
      · rename_i el he
        unfold capAV at h
        split at h
        · rename_i hev
          simp only [Option.some.injEq, Prod.mk.injEq] at h; obtain ⟨rfl, rfl⟩ := h; have hund := DZ he; refine Local.value fun C E X a hr => ⟨.int .i64 0, ?_, by simp [FV]⟩; have hv := hr.ev x; rw [hev] at hv; simp only [FV] at hv
          have hrun : (Builtin.cap_ #[t] o.type #[.slice none 0 0]).run P E.w = .ok (.int .i64 0) E.w := by
            simp [Builtin.cap_, run_underlying hund]
            rfl
          unfold execOp
          simp only [ho, resolve, invoke, builtin, Sem.run_bind, Sem.run_pure, Result.andThen_ok, List.map_toArray, List.map_cons, List.map_nil, hv, hrun]
        cases h
      cases h
    cases h
  case max =>
    simp only [BT] at h; obtain ⟨z, h1, rfl, rfl⟩ := Df h; simp only [Option.bind_eq_some_iff] at h1; obtain ⟨l, h2, h3⟩ := h1; refine Local.scalar fun C E X a hr => ⟨Builtin.max_ ts 0 l.toArray, ?_, h3⟩; have he := toVals_ev hr h2
    have hm : as.map a.eval = l.toArray := by rw [← he]; apply Array.ext'; simp
    unfold execOp
    have hty : ∀ ty xs, Builtin.max_ ts ty xs = Builtin.max_ ts 0 xs := fun _ _ => rfl; simp only [ho, resolve, invoke, builtin, pure_bind, hm, hty o.type]
  case min =>
    simp only [BT] at h; obtain ⟨z, h1, rfl, rfl⟩ := Df h; simp only [Option.bind_eq_some_iff] at h1; obtain ⟨l, h2, h3⟩ := h1; refine Local.scalar fun C E X a hr => ⟨Builtin.min_ ts 0 l.toArray, ?_, h3⟩; have he := toVals_ev hr h2
    have hm : as.map a.eval = l.toArray := by rw [← he]; apply Array.ext'; simp
    unfold execOp
    have hty : ∀ ty xs, Builtin.min_ ts ty xs = Builtin.min_ ts 0 xs := fun _ _ => rfl; simp only [ho, resolve, invoke, builtin, pure_bind, hm, hty o.type]
theorem stepQ_sound {P : Program} {σ : St} {id : Nat} {o : Oper} {v : AV} {new : List (Nat × Obj)} (h : Az P σ id o.op = some (v, new)) : Local P σ o v new := by
  generalize hop : o.op = op at h
  cases op <;> try (simp [Az] at h; done)
  case move x =>
    simp only [Az, Option.some.injEq, Prod.mk.injEq] at h; obtain ⟨rfl, rfl⟩ := h; exact Local.move (.inl hop)
  case assign x =>
    simp only [Az, Option.some.injEq, Prod.mk.injEq] at h; obtain ⟨rfl, rfl⟩ := h; exact Local.move (.inr hop)
  case pick c x y =>
    simp only [Az] at h
    split at h
    · rename_i t hc
      simp only [Option.some.injEq, Prod.mk.injEq] at h; obtain ⟨rfl, rfl⟩ := h; exact Local.pick hop hc
    cases h
  case binOp op t x y yt =>
    simp only [Az] at h
    split at h
    · rename_i a b ha hb
      obtain ⟨z, h1, rfl, rfl⟩ := Df h; refine Local.scalar fun C E X act hr => ⟨(do eqGuard op t x y a b; binOp op t a b), ?_, h1⟩
      unfold execOp
      simp only [hop, EG hr ha, EG hr hb]
    cases h
  case unOp op t x =>
    simp only [Az] at h; obtain ⟨z, h1, rfl, rfl⟩ := Df h; simp only [Option.bind_eq_some_iff] at h1; obtain ⟨a, h2, h3⟩ := h1; refine Local.scalar fun C E X act hr => ⟨Op.unary op a, ?_, h3⟩
    unfold execOp
    simp only [hop, EG hr h2]
  case convert s d x =>
    simp only [Az] at h; obtain ⟨z, h1, rfl, rfl⟩ := Df h; simp only [Option.bind_eq_some_iff] at h1; obtain ⟨a, h2, h3⟩ := h1; refine Local.scalar fun C E X act hr => ⟨convert s d a, ?_, h3⟩
    unfold execOp
    simp only [hop, EG hr h2]
  case makeInterface t x =>
    simp only [Az] at h; obtain ⟨z, h1, rfl, rfl⟩ := Df h; simp only [Option.bind_eq_some_iff] at h1; obtain ⟨a, h2, h3⟩ := h1; refine Local.scalar fun C E X act hr => ⟨Instr.makeInterface t a, ?_, h3⟩
    unfold execOp
    simp only [hop, EG hr h2]
  case index t x i =>
    simp only [Az] at h
    split at h
    · rename_i a b ha hb
      obtain ⟨z, h1, rfl, rfl⟩ := Df h; refine Local.scalar fun C E X act hr => ⟨Instr.index t a b, ?_, h1⟩
      unfold execOp
      simp only [hop, EG hr ha, EG hr hb]
    cases h
  case load t x =>
    simp only [Az] at h; obtain ⟨h1, rfl⟩ := CE h; exact Local.load hop h1
  case fieldAddr s x f =>
    simp only [Az, Option.bind_eq_some_iff] at h; obtain ⟨⟨off, ty⟩, hf, h⟩ := h; obtain ⟨hb, h⟩ := GG h; obtain ⟨h1, rfl⟩ := CE h; exact Local.fieldAddr hop hf (En hb) h1
  case field s x f =>
    simp only [Az, Option.bind_eq_some_iff] at h; obtain ⟨⟨off, ty⟩, hf, h⟩ := h
    split at h
    · rename_i cs hx
      obtain ⟨h1, rfl⟩ := CE h; exact Local.field hop hf hx h1
    cases h
  case indexAddr t x i =>
    simp only [Az] at h
    split at h
    · rename_i k n hi
      split at h
      · rename_i e he
        obtain ⟨hb, h⟩ := GG h; obtain ⟨h1, rfl⟩ := CE h; exact Local.indexAddr hop he hi (En hb) h1
      obtain ⟨h1, rfl⟩ := CE h; simp only [arrAV, Option.bind_eq_some_iff] at h1; obtain ⟨⟨m, e⟩, ha, h1⟩ := h1; obtain ⟨hb, h1⟩ := GG h1
      split at h1
      · rename_i hlt
        exact Local.indexArr hop (arrOf_eq ha) hi hlt (En hb) h1
      cases h1
    cases h
  case slice t x lo hi mx =>
    cases mx with
    | some m => simp [Az] at h
    | none =>
      simp only [Az] at h
      split at h
      · rename_i e he
        obtain ⟨hb, h⟩ := GG h; simp only [Option.bind_eq_some_iff] at h; obtain ⟨n, hn, l, hl, hh, hhi, h⟩ := h
        split at h
        · rename_i r a b hx
          simp only [Option.bind_eq_some_iff] at h; obtain ⟨ob, hob, h⟩ := h; obtain ⟨hz, h⟩ := DS h; obtain ⟨h1, rfl⟩ := CE h; rw [Nat.beq_eq] at hz; refine Local.slice hop he (En hb) hn hl hhi (fun r' a' b' e' => ?_) (fun s rows e' => ?_) (by rw [hx]; exact h1)
          · rw [hx] at e'; simp only [AV.als.injEq] at e'; obtain ⟨rfl, _, _⟩ := e'; exact ⟨ob, hob, hz⟩
          rw [hx] at e'; cases e'
        · rename_i s rows hx
          obtain ⟨hz, h⟩ := DS h; obtain ⟨h1, rfl⟩ := CE h; rw [Nat.beq_eq] at hz; refine Local.slice hop he (En hb) hn hl hhi (fun r' a' b' e' => ?_) (fun s' rows' e' => ?_) (by rw [hx]; exact h1)
          · rw [hx] at e'; cases e'
          rw [hx] at e'; simp only [AV.sh.injEq] at e'; rw [← e'.1, hz]
        cases h
      split at h
      · rename_i a l hh ha hl hhi
        obtain ⟨z, h1, rfl, rfl⟩ := Df h; refine Local.scalar fun C E X act hr => ⟨Instr.sliceAt t a l hh none, ?_, h1⟩
        unfold execOp
        simp only [hop, EG hr ha, optVal_ev hr hl, optVal_ev hr hhi, Option.map_none]
      cases h
  case alloc t =>
    simp only [Az, Option.map_eq_some_iff, Prod.mk.injEq] at h; obtain ⟨cs, h1, rfl, rfl⟩ := h; exact Local.alloc1 hop h1
  case box t x =>
    simp only [Az, Option.map_eq_some_iff, Prod.mk.injEq] at h; obtain ⟨cs, h1, rfl, rfl⟩ := h; exact Local.box hop h1
  case build t parts =>
    simp only [Az, Option.bind_eq_some_iff] at h; obtain ⟨zs, hz, pl, hpl, h⟩ := h; obtain ⟨h1, rfl⟩ := CE h; simp only [Option.map_eq_some_iff] at h1; obtain ⟨cs, h2, rfl⟩ := h1; exact Local.build hop hz (placesOf_G hpl) h2
  case buildSlice t len parts =>
    simp only [Az, Option.bind_eq_some_iff] at h; obtain ⟨e, he, zs, hz, rows, hrows, h⟩ := h; obtain ⟨hb, h⟩ := DS h; simp only [Option.some.injEq, Prod.mk.injEq] at h; obtain ⟨rfl, rfl⟩ := h; simp only [Bool.and_eq_true, Nat.beq_eq, Bool.not_eq_true'] at hb; obtain ⟨⟨⟨hb1, hb2⟩, hb3⟩, hb4⟩ := hb; exact Local.buildSlice hop he hz hb1 (En hb2) hrows hb3 (EV hb4)
  case makeSlice t x y =>
    simp only [Az] at h
    split at h
    · rename_i k1 m k2 m' hx hy
      simp only [Option.bind_eq_some_iff] at h; obtain ⟨e, he, zs, hz, h⟩ := h; obtain ⟨hb, h⟩ := DS h; simp only [Option.some.injEq, Prod.mk.injEq] at h; obtain ⟨rfl, rfl⟩ := h; obtain ⟨h1, h2, h3, h4, h5, h6, h7⟩ := of_decide_eq_true hb; subst h1
      have hm : m' = ((m'.toNat : Nat) : Int) := by omega
      exact Local.makeSlice (k1 := k1) (k2 := k2) hop he hz h4 h5 rfl (by rw [← hm]; exact hx) (by rw [← hm]; exact hy) (by omega) h6 (by omega)
    cases h
  case makeFunc f first caps =>
    simp only [Az, Option.some.injEq, Prod.mk.injEq] at h; obtain ⟨rfl, rfl⟩ := h; exact Local.makeFunc hop
  case extract x k =>
    simp only [Az] at h
    split at h
    · rename_i vs hx
      obtain ⟨h1, rfl⟩ := CE h; exact Local.extract hop hx h1
    cases h
  case nilCheck x =>
    simp only [Az] at h
    split at h
    · rename_i r i j hx
      simp only [Option.some.injEq, Prod.mk.injEq] at h; obtain ⟨rfl, rfl⟩ := h; have := Local.nilCheck (P := P) hop (.inl ⟨r, i, j, hx⟩)
      rwa [hx] at this
    · rename_i row j hx
      simp only [Option.some.injEq, Prod.mk.injEq] at h; obtain ⟨rfl, rfl⟩ := h; have := Local.nilCheck (P := P) hop (.inr ⟨row, j, hx⟩)
      rwa [hx] at this
    cases h
  case call c =>
    obtain ⟨callee, as, ts⟩ := c
    cases callee <;> try (simp [Az] at h; done)
    case builtin b =>
      simp only [Az] at h; exact stepBuiltin_sound hop h
  case makeMap t res =>
    cases res with
    | some x => simp [Az] at h
    | none =>
      simp only [Az, Option.map_eq_some_iff, Prod.mk.injEq] at h; obtain ⟨p, h1, rfl, rfl⟩ := h; exact Local.makeMap hop
  case lookup t x i ok =>
    simp only [Az, Option.bind_eq_some_iff] at h; obtain ⟨⟨d, z⟩, h1, ⟨sz, rows⟩, h2, k, h3, h⟩ := h; obtain ⟨hb, h⟩ := DS h; simp only [Bool.and_eq_true, Nat.beq_eq] at hb; simp only [Option.bind_eq_some_iff] at h; obtain ⟨r, h4, h⟩ := h; obtain ⟨h5, rfl⟩ := CE h; obtain ⟨rfl, hb2⟩ := hb; exact Local.lookup hop h1 h2 h3 hb2 h4 h5
  case range t x =>
    simp only [Az] at h
    split at h
    · rename_i sz rows hx
      simp only [Option.map_eq_some_iff, Prod.mk.injEq] at h; obtain ⟨p, h1, rfl, rfl⟩ := h; exact Local.range hop h1 hx
    cases h
  case entry x =>
    simp only [Az, Option.bind_eq_some_iff] at h; obtain ⟨⟨k, vs⟩, h1, h⟩ := h; obtain ⟨h2, rfl⟩ := CE h; simp only [Option.map_eq_some_iff] at h2; obtain ⟨u, h3, rfl⟩ := h2; exact Local.entry hop h1 h3
def appendAV (P : Program) (σ : St) (dst : Option Nat) (x y : AV) (t : TypeId) : Option St :=
  (AX P t).bind fun e => (Bt P e).bind fun zs => (headAV σ e (P.cellsOf e) x).bind fun h => (rowsAV σ y).bind fun q =>
    bif Nat.beq zs.length (P.cellsOf e) && !Nat.beq (P.cellsOf e) 0 && Nat.beq q.1 (P.cellsOf e) && Nat.ble ((h.2.1.length + q.2.1.length) * P.bytesOf e) 140737488355328 && Nat.ble (h.2.1.length + q.2.1.length) 140737488355328 then
        some ({ σ with objs := (σ.next, ⟨true, e, P.cellsOf e, h.2.1 ++ q.2.1, h.2.2 && q.2.2⟩) :: σ.drop1 h.1, next := σ.next + 1 }.put dst (.als σ.next 0 (h.2.1.length + q.2.1.length)))
      else none
def withinB (σ : St) : AV → Bool
  | .als r lo m => match Aw σ.objs r with
    | some o => Nat.ble (lo + m) o.rows.length
    | none => true
  | _ => true
theorem withinB_spec {σ : St} {v : AV} (h : withinB σ v = true) : ∀ r lo m ob, v = .als r lo m → Aw σ.objs r = some ob → lo + m ≤ ob.rows.length := by
  rintro r lo m ob rfl hob; simp only [withinB, hob] at h; exact Nat.le_of_ble_eq_true h
theorem appendAV_sound {P : Program} {σ σ' : St} {o : Oper} {x y : Operand} {t : TypeId} (ho : o.op = .call { callee := .builtin .append, args := #[x, y], argTypes := #[t, t] }) (hd : ∀ d, o.dst = some d → d < σ.nt)
    (h : appendAV P σ o.dst (σ.ev x) (σ.ev y) t = some σ') (hw : withinB σ (σ.ev y) = true) : Writer P σ o σ' := by
  simp only [appendAV, Option.bind_eq_some_iff] at h; obtain ⟨e, he, zs, hz, ⟨h0, rows1, c1⟩, hh, ⟨s, rows2, c2⟩, hq, h⟩ := h; obtain ⟨hb, h⟩ := DS h; simp only [Bool.and_eq_true, Nat.beq_eq, Bool.not_eq_true'] at hb; obtain ⟨⟨⟨⟨hb1, hb2⟩, hb3⟩, hb4⟩, hb5⟩ := hb; simp only [Option.some.injEq] at h; subst h; subst hb3; obtain ⟨i, z, hi, _⟩ := DQ hz
  have hml : (140737488355328 : Nat) ≤ maxLen := by decide
  refine Writer.append ho he hz hb1 (En hb2) hi hh hq (withinB_spec hw) ?_ (Nat.le_trans (EV hb5) hml) hd
  have : P.bytesOf e = i.bytes := by simp [Program.bytesOf, hi]
  rw [← this]; exact EV hb4
def stepAppend (P : Program) (σ : St) (dst : Option Nat) (as : Array Operand) (ts : Array TypeId) : Option St :=
  match as.toList, ts.toList with
  | [x, y], [t, u] => bif Nat.beq t u && withinB σ (σ.ev y) then appendAV P σ dst (σ.ev x) (σ.ev y) t else none
  | _, _ => none
theorem stepAppend_sound {P : Program} {σ σ' : St} {o : Oper} {as : Array Operand} {ts : Array TypeId} (ho : o.op = .call { callee := .builtin .append, args := as, argTypes := ts }) (hd : ∀ d, o.dst = some d → d < σ.nt)
    (h : stepAppend P σ o.dst as ts = some σ') : Writer P σ o σ' := by
  unfold stepAppend at h
  split at h
  · rename_i x y t u h1 h2
    obtain ⟨hb, h'⟩ := DS h; simp only [Bool.and_eq_true, Nat.beq_eq] at hb; obtain ⟨rfl, hb⟩ := hb
    have e1 : as = #[x, y] := by cases as; simp at h1; simp [h1]
    have e2 : ts = #[t, t] := by cases ts; simp at h2; simp [h2]
    subst e1 e2; exact appendAV_sound ho hd h' hb
  cases h
def stepO (P : Program) (σ : St) (o : Oper) : Option St :=
  match o.op with
  | .store t x y => bif (P.info? t).isSome then (storeAV P σ t (σ.ev x) (σ.ev y)).map fun σ' => σ'.put o.dst .top else none
  | .call { callee := .builtin .append, args := as, argTypes := ts } => stepAppend P σ o.dst as ts
  | op => match Az P σ σ.next op with
    | some (v, new) => some (σ.ext o.dst v new (σ.next + new.length))
    | none => none
def dstOk (σ : St) : Option Nat → Bool
  | none => true
  | some d => Nat.blt d σ.nt
theorem dstOk_spec {σ : St} {x : Option Nat} (h : dstOk σ x = true) : ∀ d, x = some d → d < σ.nt := by
  rintro d rfl; exact Nat.le_of_ble_eq_true h
theorem stepQ_new {P : Program} {σ : St} {op : Op} {v : AV} {new : List (Nat × Obj)} {id : Nat} (h : Az P σ id op = some (v, new)) : new = [] ∨ ∃ ob, new = [(id, ob)] := by
  cases op <;> try (simp [Az] at h; done)
  case makeMap t res =>
    cases res with
    | some x => simp [Az] at h
    | none =>
      simp only [Az, Option.map_eq_some_iff, Prod.mk.injEq] at h; obtain ⟨p, h1, rfl, rfl⟩ := h; exact .inr ⟨_, rfl⟩
  case lookup t x i ok =>
    simp only [Az, Option.bind_eq_some_iff] at h; obtain ⟨⟨d, z⟩, h1, ⟨sz, rows⟩, h2, k, h3, h⟩ := h; obtain ⟨hb, h⟩ := DS h; simp only [Option.bind_eq_some_iff] at h; obtain ⟨r, h4, h⟩ := h; exact .inl (CE h).2
  case entry x =>
    simp only [Az, Option.bind_eq_some_iff] at h; obtain ⟨⟨k, vs⟩, h1, h⟩ := h; exact .inl (CE h).2
  case range t x =>
    simp only [Az] at h
    split at h
    · simp only [Option.map_eq_some_iff, Prod.mk.injEq] at h; obtain ⟨p, h1, rfl, rfl⟩ := h; exact .inr ⟨_, rfl⟩
    cases h
  case alloc t =>
    simp only [Az, Option.map_eq_some_iff, Prod.mk.injEq] at h; obtain ⟨cs, h1, rfl, rfl⟩ := h; exact .inr ⟨_, rfl⟩
  case box t x =>
    simp only [Az, Option.map_eq_some_iff, Prod.mk.injEq] at h; obtain ⟨cs, h1, rfl, rfl⟩ := h; exact .inr ⟨_, rfl⟩
  case buildSlice t len parts =>
    simp only [Az, Option.bind_eq_some_iff] at h; obtain ⟨e, he, zs, hz, rows, hrows, h⟩ := h; obtain ⟨hb, h⟩ := DS h; simp only [Option.some.injEq, Prod.mk.injEq] at h; obtain ⟨rfl, rfl⟩ := h; exact .inr ⟨_, rfl⟩
  case makeSlice t x y =>
    simp only [Az] at h
    split at h
    · simp only [Option.bind_eq_some_iff] at h; obtain ⟨e, he, zs, hz, h⟩ := h; obtain ⟨hb, h⟩ := DS h; simp only [Option.some.injEq, Prod.mk.injEq] at h; obtain ⟨rfl, rfl⟩ := h; exact .inr ⟨_, rfl⟩
    cases h
  case slice t x lo hi mx =>
    left
    cases mx with
    | some m => simp [Az] at h
    | none =>
      simp only [Az] at h
      split at h
      · obtain ⟨_, h⟩ := GG h; simp only [Option.bind_eq_some_iff] at h; obtain ⟨n, hn, l, hl, hh, hhi, h⟩ := h
        split at h
        · simp only [Option.bind_eq_some_iff] at h; obtain ⟨ob, hob, h⟩ := h; exact (CE (DS h).2).2
        · exact (CE (DS h).2).2
        cases h
      split at h
      · exact (Df h).choose_spec.2.2
      cases h
  case call c =>
    obtain ⟨callee, as, ts⟩ := c
    cases callee <;> try (simp [Az] at h; done)
    case builtin b =>
      left
      simp only [Az] at h
      cases b <;> try (simp [BT] at h; done)
      case len =>
        simp only [BT] at h
        split at h
        · split at h
          · simp only [Option.map_eq_some_iff, Prod.mk.injEq] at h; obtain ⟨n, h1, _, rfl⟩ := h; rfl
          split at h
          · simp only [Option.bind_eq_some_iff] at h; obtain ⟨p, _, h⟩ := h; have := (DS h).2; simp only [Option.some.injEq, Prod.mk.injEq] at this; exact this.2.symm
          exact (Df h).choose_spec.2.2
        cases h
      case unsafeSliceData =>
        simp only [BT] at h
        split at h
        · unfold sdataAV at h
          split at h
          · have := (DS h).2; simp only [Option.some.injEq, Prod.mk.injEq] at this; exact this.2.symm
          · simp only [Option.some.injEq, Prod.mk.injEq] at h; exact h.2.symm
          cases h
        cases h
      case cap =>
        simp only [BT] at h
        split at h
        · split at h
          · unfold capAV at h
            split at h
            · simp only [Option.some.injEq, Prod.mk.injEq] at h; exact h.2.symm
            cases h
          cases h
        cases h
      case max => simp only [BT] at h; exact (Df h).choose_spec.2.2
      case min => simp only [BT] at h; exact (Df h).choose_spec.2.2
  all_goals left
  all_goals simp only [Az] at h
  all_goals first
    | exact (Df h).choose_spec.2.2
    | exact (CE h).2
    | (simp only [Option.some.injEq, Prod.mk.injEq] at h; exact h.2.symm)
    | (simp only [Option.bind_eq_some_iff] at h; obtain ⟨_, _, h⟩ := h; exact (CE (GG h).2).2)
    | (simp only [Option.bind_eq_some_iff] at h; obtain ⟨_, _, _, _, h⟩ := h; exact (CE h).2)
    | (simp only [Option.bind_eq_some_iff] at h; obtain ⟨_, _, h⟩ := h; split at h <;> first | exact (CE h).2 | cases h)
    | (split at h <;> (first | (cases h; done) | exact (Df h).choose_spec.2.2 | exact (CE h).2 | (simp only [Option.some.injEq, Prod.mk.injEq] at h; exact h.2.symm) | (split at h <;> first | exact (CE (GG h).2).2 | exact (CE h).2)))
theorem stepO_sound {P : Program} {σ σ' : St} {o : Oper} (hd : dstOk σ o.dst = true) (h : stepO P σ o = some σ') : Writer P σ o σ' := by
  unfold stepO at h
  split at h
  · rename_i t x y hop
    obtain ⟨hi, h⟩ := DS h; simp only [Option.map_eq_some_iff] at h; obtain ⟨σ1, h1, rfl⟩ := h; exact Writer.store hop (Option.isSome_iff_exists.1 hi) (dstOk_spec hd) h1
  · rename_i as ts hop
    exact stepAppend_sound hop (dstOk_spec hd) h
  split at h
  · rename_i v new hq
    simp only [Option.some.injEq] at h; subst h; refine Writer.of_local (stepQ_sound hq) (dstOk_spec hd) ?_ (by omega)
    rcases stepQ_new hq with rfl | ⟨ob, rfl⟩
    · intro r ob hf; simp [Aw] at hf
    intro r ob' hf; rw [AZ] at hf
    split at hf
    · simp; omega
    simp [Aw] at hf
  cases h
end Go.AM
namespace Go.AM
theorem beq_dec (m n : Nat) : Nat.beq m n = decide (m = n) := by
  by_cases h : m = n
  · subst h; simp [Nat.beq_refl]
  cases hb : Nat.beq m n
  · simp [h]
  rw [Nat.beq_eq] at hb; exact absurd hb h
theorem ble_dec (m n : Nat) : Nat.ble m n = decide (m ≤ n) := by
  by_cases h : m ≤ n
  · simp [h, Nat.ble_eq]
  cases hb : Nat.ble m n
  · simp [h]
  exact absurd (Nat.le_of_ble_eq_true hb) h
theorem del_nil {α : Type} (n : Nat) : Fl ([] : List (Nat × α)) n = [] := rfl
theorem del_cons {α : Type} (k : Nat) (v : α) (l : List (Nat × α)) (n : Nat) : Fl ((k, v) :: l) n = if k = n then Fl l n else (k, v) :: Fl l n := by
  simp only [Fl, beq_dec]
  by_cases h : k = n <;> simp [h]
theorem CW {P : Program} {t : TypeId} {d : TypeDesc} (h : P.underlying t = some d) : BK P (underlying t) = some d := by
  simp only [underlying, Bn]; have : BK P program = some P := rfl; rw [this, Option.bind_some, h]; rfl
section
variable (P : Program) (t : TypeId) (x y : Operand) (k : IntKind) (a b : Int)
theorem bin_add : Eu P .add t x y (.int k a) (.int k b) = some (.int k (k.wrap (a + b))) := by simp [Eu, Bn, eqGuard, binOp, Op.intArith, Bw]
theorem bin_sub : Eu P .sub t x y (.int k a) (.int k b) = some (.int k (k.wrap (a - b))) := by simp [Eu, Bn, eqGuard, binOp, Op.intArith, Bw]
theorem bin_mul : Eu P .mul t x y (.int k a) (.int k b) = some (.int k (k.wrap (a * b))) := by simp [Eu, Bn, eqGuard, binOp, Op.intArith, Bw]
theorem bin_quo (h : b ≠ 0) : Eu P .quo t x y (.int k a) (.int k b) = some (.int k (k.wrap (a.tdiv b))) := by simp [Eu, Bn, eqGuard, binOp, Op.intDiv, Bw, h]
theorem bin_rem (h : b ≠ 0) : Eu P .rem t x y (.int k a) (.int k b) = some (.int k (a.tmod b)) := by simp [Eu, Bn, eqGuard, binOp, Op.intDiv, Bw, h]
theorem bin_eql : Eu P .eql t x y (.int k a) (.int k b) = some (.bool (decide (a = b))) := by
  simp [Eu, Bn, eqGuard_at_int, binOp, Op.intCmp, Bw]
  rfl
theorem bin_neq : Eu P .neq t x y (.int k a) (.int k b) = some (.bool (!decide (a = b))) := by
  simp [Eu, Bn, eqGuard_at_int, binOp, Op.intCmp, Bw]
  rfl
theorem bin_lss : Eu P .lss t x y (.int k a) (.int k b) = some (.bool (decide (a < b))) := by simp [Eu, Bn, eqGuard, binOp, Op.intCmp, Bw]
theorem bin_leq : Eu P .leq t x y (.int k a) (.int k b) = some (.bool (decide (a ≤ b))) := by simp [Eu, Bn, eqGuard, binOp, Op.intCmp, Bw]
theorem bin_gtr : Eu P .gtr t x y (.int k a) (.int k b) = some (.bool (decide (b < a))) := by simp [Eu, Bn, eqGuard, binOp, Op.intCmp, Bw]
theorem bin_geq : Eu P .geq t x y (.int k a) (.int k b) = some (.bool (decide (b ≤ a))) := by simp [Eu, Bn, eqGuard, binOp, Op.intCmp, Bw]
theorem una_not (c : Bool) : una P .not (.bool c) = some (.bool (!c)) := rfl
theorem una_neg : una P .neg (.int k a) = some (.int k (k.wrap (0 - a))) := rfl
theorem maxV_int (ts : Array TypeId) : maxV P ts [.int k a, .int k b] = some (.int k (max a b)) := by
  have : (if b > a then b else a) = max a b := by rw [Int.max_def]; split <;> split <;> omega
  simp [maxV, Builtin.max_, Builtin.max2, Bn, Bw, this]
theorem minV_int (ts : Array TypeId) : minV P ts [.int k a, .int k b] = some (.int k (min a b)) := by
  have : (if b < a then b else a) = min a b := by rw [Int.min_def]; split <;> split <;> omega
  simp [minV, Builtin.min_, Builtin.min2, Bn, Bw, this]
theorem conv_int (s d : TypeId) (k' : IntKind) (hd : P.underlying d = some (.int k')) (hs : (P.underlying s).isSome = true) : conv P s d (.int k a) = some (.int k' (k'.wrap a)) := by
  obtain ⟨u, hu⟩ := Option.isSome_iff_exists.1 hs; have h1 := CW hu; have h2 := CW hd; simp only [conv, convert, Bn, h1, h2, Option.bind_some]
  cases u <;> rfl
end
theorem wrap_i64 {x : Int} (h : -9223372036854775808 ≤ x) (h' : x ≤ 9223372036854775807) : IntKind.i64.wrap x = x := by
  have e : IntKind.i64.wrap x = if x % 18446744073709551616 ≥ 9223372036854775808 then x % 18446744073709551616 - 18446744073709551616 else x % 18446744073709551616 := by
    simp [IntKind.wrap, IntKind.bits, IntKind.signed]
  rw [e]
  split <;> omega
theorem tdiv_nn {a b : Int} (h : 0 ≤ a) : a.tdiv b = a / b := Int.tdiv_eq_ediv_of_nonneg h
theorem tmod_nn {a b : Int} (h : 0 ≤ a) : a.tmod b = a % b := Int.tmod_eq_emod_of_nonneg h
theorem Fun.of {P : Program} {f : FuncId} {fn : Func} {c : Code} {args : List AV} {Post : AV → List (Nat × Obj) → Prop} {nt : Nat} {rs : List ResultVar} (hf : P.funcs[f]? = some fn) (hb : fn.body = some c) (ht : fn.ntmps = nt)
    (hr : fn.results.toList = rs) (hnm : (fn.name == "runtime.NumGoroutine") = false) (hn : Nat.ble args.length nt = true) (h : Ev P c ⟨Dx 0 args, [], 0, nt, 0⟩ (endP P rs Post)) : Fun P f args Post :=
  Fun.of_body hf hb hnm (by rw [ht]; exact EV hn) (by rw [ht, hr]; exact h)
end Go.AM
namespace Go.AM
section
variable {C : Ctx} {i : Nat} {l : List Oper} {listed : Array Bool} {nx : Nat} {σ : St}
structure Res where
  dst : Nat
  v : AV
  new : List (Nat × Obj)
def D4 : List Bool → List Res → List (Nat × AV)
  | b :: bs, r :: rs => bif b then (r.dst, r.v) :: D4 bs rs else D4 bs rs
  | _, _ => []
def D9 : List Bool → List Res → List (Nat × Obj)
  | b :: bs, r :: rs => bif b then r.new ++ D9 bs rs else D9 bs rs
  | _, _ => []
def hide (ds : List Nat) : List (Nat × AV) → List (Nat × AV)
  | [] => []
  | p :: l => bif ds.elem p.1 then hide ds l else p :: hide ds l
def DW (σ : St) (ds : List Nat) (nx : Nat) (bs : List Bool) (R : List Res) : St :=
  { slots := D4 bs R ++ hide ds σ.slots, objs := D9 bs R ++ σ.objs, next := nx, nt := σ.nt, env := σ.env }
theorem Ek : ∀ (bs : List Bool) (R : List Res) (s : Nat) (v : AV), Aw (D4 bs R) s = some v → ∃ (j : Nat) (r : Res), bs[j]? = some true ∧ R[j]? = some r ∧ r.dst = s ∧ r.v = v
  | [], R, s, v, h => by cases R <;> simp [D4, Aw] at h
  | b :: bs, [], s, v, h => by simp [D4, Aw] at h
  | b :: bs, r :: R, s, v, h => by
    simp only [D4] at h
    cases b with
    | false =>
      obtain ⟨j, r', h1, h2, h3, h4⟩ := Ek bs R s v (by simpa using h); exact ⟨j + 1, r', by simpa using h1, by simpa using h2, h3, h4⟩
    | true =>
      simp only [cond_true] at h; rw [AZ] at h
      split at h
      · rename_i e
        simp only [Option.some.injEq] at h; exact ⟨0, r, rfl, rfl, e, h⟩
      · obtain ⟨j, r', h1, h2, h3, h4⟩ := Ek bs R s v h; exact ⟨j + 1, r', by simpa using h1, by simpa using h2, h3, h4⟩
theorem slotsM_find : ∀ (bs : List Bool) (R : List Res) (j : Nat) (r : Res), (R.map (·.dst)).Nodup → bs[j]? = some true → R[j]? = some r → Aw (D4 bs R) r.dst = some r.v
  | [], R, j, r, _, h, _ => by simp at h
  | b :: bs, [], j, r, _, _, h => by simp at h
  | b :: bs, r0 :: R, j, r, hn, hb, hr => by
    simp only [List.map_cons, List.nodup_cons] at hn; simp only [D4]
    cases j with
    | zero =>
      simp at hb hr
      subst hb hr; simp only [cond_true]; rw [AZ, if_pos rfl]
    | succ j =>
      have ih := slotsM_find bs R j r hn.2 (by simpa using hb) (by simpa using hr)
      have hne : r0.dst ≠ r.dst := by
        intro e
        apply hn.1
        rw [e]; exact List.mem_map.2 ⟨r, List.mem_of_getElem? (by simpa using hr), rfl⟩
      cases b with
      | false => simpa using ih
      | true =>
        simp only [cond_true]; rw [AZ, if_neg hne]; exact ih
theorem Et : ∀ (bs : List Bool) (R : List Res) (k : Nat) (o : Obj), Aw (D9 bs R) k = some o → ∃ (j : Nat) (r : Res), bs[j]? = some true ∧ R[j]? = some r ∧ Aw r.new k = some o
  | [], R, k, o, h => by cases R <;> simp [D9, Aw] at h
  | b :: bs, [], k, o, h => by simp [D9, Aw] at h
  | b :: bs, r :: R, k, o, h => by
    simp only [D9] at h
    cases b with
    | false =>
      obtain ⟨j, r', h1, h2, h3⟩ := Et bs R k o (by simpa using h); exact ⟨j + 1, r', by simpa using h1, by simpa using h2, h3⟩
    | true =>
      simp only [cond_true] at h; rw [BE] at h
      cases hf : Aw r.new k with
      | some o' =>
        rw [hf] at h; simp only [Option.some_or, Option.some.injEq] at h; exact ⟨0, r, rfl, rfl, by rw [hf, h]⟩
      | none =>
        rw [hf] at h; obtain ⟨j, r', h1, h2, h3⟩ := Et bs R k o (by simpa using h); exact ⟨j + 1, r', by simpa using h1, by simpa using h2, h3⟩
theorem objsM_find (N : Nat) : ∀ (bs : List Bool) (R : List Res) (i j : Nat) (r : Res) (k : Nat) (o : Obj), (∀ m q, R[m]? = some q → ∀ k o, Aw q.new k = some o → N + 4 * (i + m) ≤ k ∧ k < N + 4 * (i + m) + 4) →
    bs[j]? = some true → R[j]? = some r → Aw r.new k = some o → Aw (D9 bs R) k = some o
  | [], R, i, j, r, k, o, _, h, _, _ => by simp at h
  | b :: bs, [], i, j, r, k, o, _, _, h, _ => by simp at h
  | b :: bs, r0 :: R, i, j, r, k, o, hn, hb, hr, hf => by
    simp only [D9]
    cases j with
    | zero =>
      simp at hb hr
      subst hb hr; simp only [cond_true]; rw [BE, hf]; rfl
    | succ j =>
      have ih := objsM_find N bs R (i + 1) j r k o (fun m q hq k o hf => by have := hn (m + 1) q (by simpa using hq) k o hf; omega) (by simpa using hb) (by simpa using hr) hf
      cases b with
      | false => simpa using ih
      | true =>
        simp only [cond_true]; rw [BE]
        have : Aw r0.new k = none := by
          cases h0 : Aw r0.new k with
          | none => rfl
          | some o' =>
            exfalso
            have h1 := hn 0 r0 rfl k o' h0; have h2 := hn (j + 1) r (by simpa using hr) k o hf; omega
        rw [this]
        simpa using ih
theorem find_hide (ds : List Nat) : ∀ (l : List (Nat × AV)) (s : Nat), Aw (hide ds l) s = if s ∈ ds then none else Aw l s
  | [], s => by simp [hide, Aw]
  | (k, v) :: l, s => by
    simp only [hide]
    cases he : ds.elem k with
    | true =>
      have hk : k ∈ ds := by simpa using he
      simp only [cond_true]; rw [find_hide ds l s, AZ]
      by_cases e : k = s
      · subst e; simp [hk]
      · simp [e]
    | false =>
      have hk : ¬ k ∈ ds := by simpa using he
      simp only [cond_false]; rw [AZ, find_hide ds l s, AZ]
      by_cases e : k = s
      · subst e; simp [hk]
      · simp [e]
def preds (o : Oper) : List Nat := (o.after.toList.filter (Region.binds .any)).map (·.on)
def Gb (T : List (List Bool)) (i j : Nat) : Bool := ((T[i]?).getD []).getD j false
def chk (l : List Oper) (T : List (List Bool)) (K : Nat) : Bool :=
  (List.range l.length).all fun i => match l[i]? with
    | none => true
    | some o => Nat.ble ((T[i]?).getD []).length i && (preds o).all (fun e => Nat.blt e i) && (List.range i).all fun j => (!(Gb T i j) || (preds o).any fun e => Nat.beq e j || (Nat.blt j e && Gb T e j)) && (Nat.blt i K || Gb T i j)
theorem FO {T : List (List Bool)} {K : Nat} (h : chk l T K = true) {o : Oper} (hi : l[i]? = some o) :
    ((T[i]?).getD []).length ≤ i ∧ (∀ e ∈ preds o, e < i) ∧ ∀ j, j < i → (Gb T i j = true → ∃ e ∈ preds o, e = j ∨ (j < e ∧ Gb T e j = true)) ∧ (K ≤ i → Gb T i j = true) := by
  unfold chk at h
  rw [List.all_eq_true] at h; have hlt : i < l.length := (List.getElem?_eq_some_iff.1 hi).1; have := h i (by simpa using hlt); simp only [hi, Bool.and_eq_true, List.all_eq_true] at this; refine ⟨EV this.1.1, fun e he => Nat.le_of_ble_eq_true (this.1.2 e he), fun j hj => ?_⟩; have hj' := this.2 j (by simpa using hj); simp only [Bool.or_eq_true, Bool.not_eq_true', List.any_eq_true] at hj'; refine ⟨fun hb => ?_, fun hK => ?_⟩
  · rcases hj'.1 with h0 | ⟨e, he, h1⟩
    · rw [hb] at h0; cases h0
    refine ⟨e, he, h1.imp (fun h => by rwa [Nat.beq_eq] at h) (fun h => ?_)⟩; rw [Bool.and_eq_true] at h; exact ⟨Nat.le_of_ble_eq_true h.1, h.2⟩
  rcases hj'.2 with h0 | h0
  · have := Nat.le_of_ble_eq_true h0; omega
  exact h0
def ResOk (P : Program) (l : List Oper) (σ : St) (ds : List Nat) (nx K : Nat) (T : List (List Bool)) (R : List Res) (i : Nat) : Prop :=
  ∀ o r, l[i]? = some o → R[i]? = some r → o.dst = some r.dst ∧ r.dst < σ.nt ∧ (∀ k ob, Aw r.new k = some ob → σ.next + 4 * i ≤ k ∧ k < σ.next + 4 * i + 4) ∧
    ((B0 (B8 ⟨l⟩) (DW σ ds nx ((T[i]?).getD []) R) o.guard = some true ∧ Local P (DW σ ds nx ((T[i]?).getD []) R) o r.v r.new) ∨
     (B0 (B8 ⟨l⟩) (DW σ ds nx ((T[i]?).getD []) R) o.guard = some false ∧ r.v = (.lit undef) ∧ r.new = []))
theorem countP_set {n i : Nat} (hn : listed.size = n) (hi : i < n) (hf : listed.getD i true = false) :
    (List.range n).countP (fun j => !(listed.setIfInBounds i true).getD j true) + 1 = (List.range n).countP (fun j => !listed.getD j true) := by
  have key : ∀ (m : Nat), m ≤ n → (List.range m).countP (fun j => !(listed.setIfInBounds i true).getD j true) + (if i < m then 1 else 0) = (List.range m).countP (fun j => !listed.getD j true) := by
    intro m
    induction m with
    | zero => intro _; simp
    | succ m ih =>
      intro hm; have := ih (by omega); rw [List.range_succ, List.countP_append, List.countP_append]; simp only [List.countP_singleton]
      have hms : m < listed.size := by omega
      by_cases e : i = m
      · subst e
        have h1 : (listed.setIfInBounds i true).getD i true = true := by simp [Array.getD, hms]
        rw [h1, hf, if_pos (Nat.lt_succ_self i)]; rw [if_neg (Nat.lt_irrefl i)] at this; simp only [Bool.not_true, Bool.not_false, Bool.false_eq_true, if_false, if_true]; omega
      have h1 : (listed.setIfInBounds i true).getD m true = listed.getD m true := by simp [Array.getD, hms, e]
      rw [h1]
      by_cases c : i < m
      · rw [if_pos c] at this; rw [if_pos (show i < m + 1 by omega)]; omega
      rw [if_neg c] at this; rw [if_neg (show ¬ i < m + 1 by omega)]; omega
  have := key n (Nat.le_refl _); rw [if_pos hi] at this; exact this
section draw
variable {P : Program} {l : List Oper} {T : List (List Bool)} {K : Nat}
theorem mem_ready : i ∈ Region.ready .any ⟨l⟩ listed ↔ ∃ o, l[i]? = some o ∧ listed.getD i true = false ∧ ∀ e ∈ preds o, listed.getD e false = true := by
  unfold Region.ready preds
  simp only [List.mem_filter, List.mem_range, Bool.and_eq_true, Bool.not_eq_true']
  constructor
  · rintro ⟨hlt, h1, h2⟩
    have hlt' : i < l.length := by simpa using hlt
    have hi : l[i]? = some l[i] := List.getElem?_eq_getElem hlt'; refine ⟨l[i], hi, h1, ?_⟩
    have hi' : (⟨l⟩ : Array Oper)[i]? = some l[i] := by simpa using hi
    rw [hi'] at h2; simp only [Option.map_some, Option.getD_some] at h2; rw [← Array.all_toList, List.all_eq_true] at h2; intro e he; simp only [List.mem_map, List.mem_filter] at he; obtain ⟨ed, ⟨hm, hb⟩, rfl⟩ := he; have := h2 ed hm
    simpa [hb] using this
  rintro ⟨o, hi, h1, h2⟩; have hlt : i < l.length := (List.getElem?_eq_some_iff.1 hi).1; refine ⟨by simpa using hlt, h1, ?_⟩
  have hi' : (⟨l⟩ : Array Oper)[i]? = some o := by simpa using hi
  rw [hi']; simp only [Option.map_some, Option.getD_some]; rw [← Array.all_toList, List.all_eq_true]; intro ed hm
  cases hb : Region.binds .any ed with
  | false => simp
  | true =>
    have := h2 ed.on (by simp only [List.mem_map, List.mem_filter]; exact ⟨ed, ⟨hm, hb⟩, rfl⟩)
    simp [this]
def Shut (l : List Oper) (listed : Array Bool) : Prop := ∀ i o, l[i]? = some o → listed.getD i false = true → ∀ e ∈ preds o, listed.getD e false = true
theorem Fk (hc : chk l T K = true) (hs : Shut l listed) : ∀ (i : Nat) (o : Oper), l[i]? = some o → (∀ e ∈ preds o, listed.getD e false = true) → ∀ j, j < i → Gb T i j = true → listed.getD j false = true := by
  intro i
  induction i using Nat.strongRecOn with
  | _ i ih =>
    intro o ho hp j hj hb; obtain ⟨_, h1, h2⟩ := FO hc ho; obtain ⟨e, he, h3⟩ := (h2 j hj).1 hb; have hle := hp e he
    rcases h3 with rfl | h3
    · exact hle
    have hei := h1 e he; have helt : e < l.length := Nat.lt_trans hei (List.getElem?_eq_some_iff.1 ho).1; have heo : l[e]? = some l[e] := List.getElem?_eq_getElem helt; exact ih e hei _ heo (hs e _ heo hle) j h3.1 h3.2
theorem ready_exists (hc : chk l T K = true) (hsz : listed.size = l.length) (hi : i < l.length) (hn : listed.getD i false = false) : ∃ j, j ≤ i ∧ j ∈ Region.ready .any ⟨l⟩ listed := by
  induction i using Nat.strongRecOn with
  | _ i ih =>
    have ho : l[i]? = some l[i] := List.getElem?_eq_getElem hi
    by_cases hall : ∀ e ∈ preds l[i], listed.getD e false = true
    · refine ⟨i, Nat.le_refl _, mem_ready.2 ⟨l[i], ho, ?_, hall⟩⟩; simp only [Array.getD] at hn ⊢; rw [dif_pos (by omega)] at hn ⊢; exact hn
    obtain ⟨e, he⟩ := Classical.not_forall.1 hall; obtain ⟨he1, he2⟩ := Classical.not_imp.1 he; have hlt := (FO hc ho).2.1 e he1; obtain ⟨j, h1, h2⟩ := ih e hlt (by omega) (by simpa using he2); exact ⟨j, by omega, h2⟩
theorem Eg {i j : Nat} {d : Bool} (hi : i < listed.size) : (listed.setIfInBounds i true).getD j d = if i = j then true else listed.getD j d := by
  by_cases e : i = j
  · subst e; simp [Array.getD, hi]
  simp only [e, if_false, Array.getD, Array.size_setIfInBounds]
  by_cases hj : j < listed.size
  · simp [hj, e]
  simp [hj]
theorem Fe {j : Nat} (hj : j < listed.size) : listed.getD j true = listed.getD j false := by simp [Array.getD, hj]
theorem Shut.set (hc : chk l T K = true) (hs : Shut l listed) (hsz : listed.size = l.length) (hr : i ∈ Region.ready .any ⟨l⟩ listed) : Shut l (listed.setIfInBounds i true) := by
  obtain ⟨o, ho, _, hp⟩ := mem_ready.1 hr
  have hlt : i < listed.size := by rw [hsz]; exact (List.getElem?_eq_some_iff.1 ho).1
  intro k ok hk hl e he; rw [Eg hlt] at hl ⊢
  by_cases e1 : i = e
  · simp [e1]
  rw [if_neg e1]
  by_cases e2 : i = k
  · subst e2; rw [ho] at hk; simp only [Option.some.injEq] at hk; subst hk; exact hp e he
  rw [if_neg e2] at hl; exact hs k ok hk hl e he
theorem any_of_L (hc : chk l T K = true) {Q : Exit → Act → World → Prop} : ∀ (fuel m : Nat) (listed : Array Bool) (a : Act) (w : World), m + fuel = l.length → K ≤ m → listed.size = l.length → Shut l listed →
    (∀ j, j < l.length → listed.getD j false = decide (j < m)) → wpL P ⟨l⟩ Q (l.drop m) a w → wpAny P .any ⟨l⟩ Q fuel listed a w
  | 0, m, listed, a, w, hm, _, hsz, hs, hd, h => by
    have hnone : Region.ready .any ⟨l⟩ listed = [] := by
      apply List.eq_nil_iff_forall_not_mem.2
      intro i hi; obtain ⟨o, ho, h1, _⟩ := mem_ready.1 hi; have hlt := (List.getElem?_eq_some_iff.1 ho).1; rw [Fe (by omega), hd i hlt] at h1
      simp at h1
      omega
    rw [List.drop_of_length_le (by omega)] at h; exact ⟨hnone, (wpL_nil _ _ _ _ _).mp h⟩
  | fuel + 1, m, listed, a, w, hm, hK, hsz, hs, hd, h => by
    have hml : m < l.length := by omega
    have hone : ∀ i ∈ Region.ready .any ⟨l⟩ listed, i = m := by
      intro i hi; obtain ⟨o, ho, h1, hp⟩ := mem_ready.1 hi; have hlt := (List.getElem?_eq_some_iff.1 ho).1; rw [Fe (by omega), hd i hlt] at h1
      simp at h1
      rcases Nat.lt_or_ge m i with hmi | hmi
      · exfalso
        have hb := ((FO hc ho).2.2 m hmi).2 (by omega); have := Fk hc hs i o ho hp m hmi hb; rw [hd m hml] at this
        simp at this
      · omega
    refine ⟨fun hnil => ?_, fun i hi => ?_⟩
    · obtain ⟨j, _, hj⟩ := ready_exists hc hsz hml (by rw [hd m hml]; simp); rw [hnil] at hj
      cases hj
    · have := hone i hi; subst this; have hsh := hs.set hc hsz hi; rw [List.drop_eq_getElem_cons hml] at h
      have ho : (⟨l⟩ : Array Oper)[i]? = some l[i] := by simpa using List.getElem?_eq_getElem hml
      have hnext : ∀ a' w', wpL P ⟨l⟩ Q (l.drop (i + 1)) a' w' → wpAny P .any ⟨l⟩ Q fuel (listed.setIfInBounds i true) a' w' := by
        intro a' w' h'; refine any_of_L hc fuel (i + 1) _ a' w' (by omega) (by omega) (by simpa using hsz) hsh (fun j hj => ?_) h'; rw [Eg (by omega), hd j hj]
        by_cases e : i = j
        · subst e; simp
        · simp only [e, if_false]
          by_cases c : j < i
          · simp [c, show j < i + 1 by omega]
          · simp [c, show ¬ j < i + 1 by omega]
      unfold wpOp
      simp only [ho]; simp only [FN] at h
      split
      · rename_i hw
        simp only [hw, if_true] at h; exact .inl (Oper.wp_mono hnext h)
      · rename_i hw
        simp only [hw, if_false, Bool.false_eq_true] at h; exact hnext _ _ h
def Cf (K : Nat) (listed : Array Bool) : List Bool := (List.range K).map fun j => listed.getD j false
theorem De {j : Nat} : (Cf K listed)[j]? = some true ↔ j < K ∧ listed.getD j false = true := by
  unfold Cf
  simp only [List.getElem?_map, Option.map_eq_some_iff]
  constructor
  · rintro ⟨k, h1, h2⟩; obtain ⟨hlt, he⟩ := List.getElem?_eq_some_iff.1 h1
    simp at hlt he
    subst he; exact ⟨hlt, h2⟩
  rintro ⟨h1, h2⟩; exact ⟨j, by simp [h1], h2⟩
theorem Rel.sub {E : Env} {X : Nat → List Value} {σ σ' : St} {a : Act} (h : Rel C E X σ a) (hs : ∀ s v, Aw σ'.slots s = some v → Aw σ.slots s = some v) (ho : ∀ r o, Aw σ'.objs r = some o → Aw σ.objs r = some o)
    (hn : σ.next ≤ σ'.next) (ht : σ'.nt = σ.nt) (he : σ'.env = σ.env) : Rel C E X σ' a :=
  ⟨fun s v hv => h.slots s v (hs s v hv), h.size.trans ht.symm, h.defers, fun r o hr => h.objs r o (ho r o hr), fun r r' o o' b hr hr' => h.apart r r' o o' b (ho r o hr) (ho r' o' hr'),
    fun b hb => ⟨(h.stay b hb).1, fun r o hr => (h.stay b hb).2 r o (ho r o hr)⟩, fun r hr => Nat.lt_of_lt_of_le (h.fresh r hr) hn, h.kept, fun r o b hr => h.mine r o b (ho r o hr), h.env, h.envD, h.base, h.grow, h.envk.trans he.symm, h.glob⟩
theorem stM_sub {R : List Res} {bs bs' : List Bool} (hnd : (R.map (·.dst)).Nodup) (hid : ∀ (m : Nat) (q : Res), R[m]? = some q → ∀ k o, Aw q.new k = some o → σ.next + 4 * (0 + m) ≤ k ∧ k < σ.next + 4 * (0 + m) + 4)
    (hσ : ∀ k o, Aw σ.objs k = some o → k < σ.next) (hb : ∀ j : Nat, bs'[j]? = some true → bs[j]? = some true) :
    (∀ s v, Aw (DW σ (R.map (·.dst)) nx bs' R).slots s = some v → Aw (DW σ (R.map (·.dst)) nx bs R).slots s = some v) ∧
    (∀ r o, Aw (DW σ (R.map (·.dst)) nx bs' R).objs r = some o → Aw (DW σ (R.map (·.dst)) nx bs R).objs r = some o) := by
  constructor
  · intro s v h; simp only [DW] at h ⊢; rw [BE] at h ⊢
    cases h1 : Aw (D4 bs' R) s with
    | some u =>
      rw [h1] at h; simp only [Option.some_or, Option.some.injEq] at h; subst h; obtain ⟨j, r, g1, g2, rfl, rfl⟩ := Ek bs' R s u h1; rw [slotsM_find bs R j r hnd (hb j g1) g2]; rfl
    | none =>
      rw [h1] at h; simp only [Option.none_or] at h; have hh := h; rw [find_hide] at hh
      split at hh
      · cases hh
      rename_i hmem
      cases h2 : Aw (D4 bs R) s with
      | some u =>
        obtain ⟨j, r, g1, g2, rfl, rfl⟩ := Ek bs R s u h2; exact absurd (List.mem_map.2 ⟨r, List.mem_of_getElem? g2, rfl⟩) hmem
      | none => simpa using h
  intro k o h; simp only [DW] at h ⊢; rw [BE] at h ⊢
  cases h1 : Aw (D9 bs' R) k with
  | some u =>
    rw [h1] at h; simp only [Option.some_or, Option.some.injEq] at h; subst h; obtain ⟨j, r, g1, g2, g3⟩ := Et bs' R k u h1; rw [objsM_find σ.next bs R 0 j r k u hid (hb j g1) g2 g3]; rfl
  | none =>
    rw [h1] at h; simp only [Option.none_or] at h
    cases h2 : Aw (D9 bs R) k with
    | some u =>
      obtain ⟨j, r, g1, g2, g3⟩ := Et bs R k u h2; have := hid j r g2 k u g3; have := hσ k o h; omega
    | none => simpa using h
theorem any_of_draw {R : List Res} {Q : Exit → Act → World → Prop} (hc : chk l T K = true) (hKl : K ≤ l.length) (hRl : R.length = K) (hnd : (R.map (·.dst)).Nodup)
    (hR : ∀ i, i < K → ResOk P l σ (R.map (·.dst)) nx K T R i) (hnx : σ.next + 4 * K ≤ nx) (hσ : ∀ k o, Aw σ.objs k = some o → k < σ.next)
    (hfin : ∀ E X a, Rel C E X (DW σ (R.map (·.dst)) nx (List.replicate K true) R) a → wpL P ⟨l⟩ Q (l.drop K) a E.w) :
    ∀ (fuel : Nat) (listed : Array Bool) (E : Env) (X : Nat → List Value) (a : Act), listed.size = l.length → (List.range l.length).countP (fun j => !listed.getD j true) = fuel → Shut l listed → (∀ i, K ≤ i → listed.getD i false = false) →
      Rel C E X (DW σ (R.map (·.dst)) nx (Cf K listed) R) a → (∀ r, E.D r → r < σ.next ∨ ∃ j q ob, listed.getD j false = true ∧ R[j]? = some q ∧ Aw q.new r = some ob) →
      wpAny P .any ⟨l⟩ Q fuel listed a E.w := by
  have hid : ∀ (m : Nat) (q : Res), R[m]? = some q → ∀ k o, Aw q.new k = some o → σ.next + 4 * (0 + m) ≤ k ∧ k < σ.next + 4 * (0 + m) + 4 := by
    intro m q hq k o hf
    have hm : m < K := by rw [← hRl]; exact (List.getElem?_eq_some_iff.1 hq).1
    have ho : l[m]? = some l[m] := List.getElem?_eq_getElem (by omega); have := (hR m hm _ q ho hq).2.2.1 k o hf; omega
  intro fuel
  induction fuel with
  | zero =>
    intro listed E X a hsz hcnt hs hge hr hD
    have hall : ∀ j, j < l.length → listed.getD j true = true := by
      intro j hj; have := List.countP_eq_zero.1 hcnt j (by simpa using hj)
      simpa using this
    have hKn : K = l.length := by
      rcases Nat.lt_or_ge K l.length with h | h
      · have h1 := hall K h; rw [Fe (by omega), hge K (Nat.le_refl _)] at h1
        cases h1
      omega
    refine any_of_L hc 0 K listed a E.w (by omega) (Nat.le_refl _) hsz hs (fun j hj => ?_) (hfin E X a ?_)
    · rw [← Fe (by omega), hall j hj]
      simp; omega
    have hb := stM_sub (nx := nx) (bs := Cf K listed) (bs' := List.replicate K true) hnd hid hσ (fun j hj => De.2 (by
      obtain ⟨hlt, _⟩ := List.getElem?_eq_some_iff.1 hj
      simp at hlt
      exact ⟨hlt, by rw [← Fe (by omega)]; exact hall j (by omega)⟩))
    exact hr.sub hb.1 hb.2 (Nat.le_refl _) rfl rfl
  | succ fuel ih =>
    intro listed E X a hsz hcnt hs hge hr hD
    by_cases hallK : ∀ j, j < K → listed.getD j false = true
    · -- the quiet ones are done
      have hb := stM_sub (nx := nx) (bs := Cf K listed) (bs' := List.replicate K true) hnd hid hσ (fun j hj => De.2 (by
        obtain ⟨hlt, _⟩ := List.getElem?_eq_some_iff.1 hj
        simp at hlt
        exact ⟨hlt, hallK j hlt⟩))
      have hr' := hr.sub (σ' := DW σ (R.map (·.dst)) nx (List.replicate K true) R) hb.1 hb.2 (Nat.le_refl _) rfl rfl
      have hd : ∀ j, j < l.length → listed.getD j false = decide (j < K) := by
        intro j hj
        by_cases h : j < K
        · simp [hallK j h, h]
        simp [hge j (by omega), h]
      have hcnt2 : (List.range l.length).countP (fun j => !listed.getD j true) = l.length - K := by
        have e1 : (List.range l.length).countP (fun j => !listed.getD j true) = (List.range l.length).countP (fun j => decide (K ≤ j)) := by
          apply List.countP_congr
          intro j hj
          have hj' : j < l.length := by simpa using hj
          rw [Fe (by omega), hd j hj']
          simp
        rw [e1]
        have : ∀ n, (List.range n).countP (fun j => decide (K ≤ j)) = n - K := by
          intro n
          induction n with
          | zero => simp
          | succ n ihn =>
            rw [List.range_succ, List.countP_append, ihn, List.countP_singleton]
            by_cases h : K ≤ n
            · simp [h]; omega
            simp [h]; omega
        exact this _
      exact any_of_L hc (fuel + 1) K listed a E.w (by omega) (Nat.le_refl _) hsz hs hd (hfin E X a hr')
    obtain ⟨j0, hj0⟩ := Classical.not_forall.1 hallK; obtain ⟨hj1, hj2⟩ := Classical.not_imp.1 hj0
    have hj2 : listed.getD j0 false = false := by simpa using hj2
    refine ⟨fun hnil => ?_, fun i hi => ?_⟩
    · obtain ⟨j, _, hj⟩ := ready_exists hc hsz (show j0 < l.length by omega) hj2; rw [hnil] at hj
      cases hj
    obtain ⟨o, ho, h1, hp⟩ := mem_ready.1 hi; have hlt := (List.getElem?_eq_some_iff.1 ho).1
    have hiK : i < K := by
      rcases Nat.lt_or_ge i K with h | h
      · exact h
      exfalso
      have hb := ((FO hc ho).2.2 j0 (by omega)).2 h; have := Fk hc hs i o ho hp j0 (by omega) hb; rw [hj2] at this
      cases this
    have hRi : R[i]? = some (R[i]'(by omega)) := List.getElem?_eq_getElem (by omega)
    generalize hri : (R[i]'(by omega)) = ri at hRi
    obtain ⟨hdst, hdn, hids, hor⟩ := hR i hiK o ri ho hRi; have hsh := hs.set hc hsz hi; have hlen := (FO hc ho).1
    have hbits : ∀ j : Nat, ((T[i]?).getD [])[j]? = some true → (Cf K listed)[j]? = some true := by
      intro j hj; have hji : j < i := Nat.lt_of_lt_of_le (List.getElem?_eq_some_iff.1 hj).1 hlen; refine De.2 ⟨by omega, Fk hc hs i o ho hp j hji ?_⟩
      unfold Gb
      rw [List.getD_eq_getElem?_getD, hj]; rfl
    have hb := stM_sub (nx := nx) (bs := Cf K listed) (bs' := (T[i]?).getD []) hnd hid hσ hbits; have hrr := hr.sub (σ' := DW σ (R.map (·.dst)) nx ((T[i]?).getD []) R) hb.1 hb.2 (Nat.le_refl _) rfl rfl
    have ho' : (⟨l⟩ : Array Oper)[i]? = some o := by simpa using ho
    have hbn : ∀ j : Nat, (Cf K (listed.setIfInBounds i true))[j]? = some true → j = i ∨ (Cf K listed)[j]? = some true := by
      intro j hj; obtain ⟨g1, g2⟩ := De.1 hj; rw [Eg (by omega)] at g2
      by_cases e : i = j
      · exact .inl e.symm
      rw [if_neg e] at g2; exact .inr (De.2 ⟨g1, g2⟩)
    have hstep : ∀ (E' : Env) X' a', Rel C E' X' ((DW σ (R.map (·.dst)) nx (Cf K listed) R).ext o.dst ri.v ri.new nx) a' → (∀ r, E'.D r → E.D r ∨ ∃ ob, Aw ri.new r = some ob) →
        wpAny P .any ⟨l⟩ Q fuel (listed.setIfInBounds i true) a' E'.w := by
      intro E' X' a' hr' hD'; refine ih _ E' X' a' (by simpa using hsz) ?_ hsh ?_ ?_ ?_
      · have := countP_set hsz hlt h1; omega
      · intro k hk; rw [Eg (by omega), if_neg (by omega)]; exact hge k hk
      · refine hr'.sub ?_ ?_ (Nat.le_refl _) rfl rfl
        · intro s v hv; simp only [DW, St.ext, hdst] at hv ⊢; rw [AZ]; rw [BE] at hv
          cases g1 : Aw (D4 (Cf K (listed.setIfInBounds i true)) R) s with
          | some u =>
            rw [g1] at hv; simp only [Option.some_or, Option.some.injEq] at hv; subst hv; obtain ⟨j, q, k1, k2, rfl, rfl⟩ := Ek _ R s u g1
            rcases hbn j k1 with rfl | k1
            · rw [hRi] at k2; simp only [Option.some.injEq] at k2; subst k2
              simp
            · by_cases e : ri.dst = q.dst
              · rw [if_pos e]
                have hij : i = j := by
                  have e1 : (R.map (·.dst))[i]? = some ri.dst := by simp [hRi]
                  have e2 : (R.map (·.dst))[j]? = some ri.dst := by simp [k2, e]
                  obtain ⟨q1, q2⟩ := List.getElem?_eq_some_iff.1 e1; obtain ⟨q3, q4⟩ := List.getElem?_eq_some_iff.1 e2; exact (List.getElem_inj hnd).1 (q2.trans q4.symm)
                subst hij; rw [hRi] at k2; simp only [Option.some.injEq] at k2; rw [k2]
              · rw [if_neg e, BE, slotsM_find _ R j q hnd k1 k2]; rfl
          | none =>
            rw [g1] at hv; simp only [Option.none_or] at hv; have hh := hv; rw [find_hide] at hh
            split at hh
            · cases hh
            · rename_i hmem
              have hne : ri.dst ≠ s := fun e => hmem (List.mem_map.2 ⟨ri, List.mem_of_getElem? hRi, e⟩); rw [if_neg hne, BE]
              cases g2 : Aw (D4 (Cf K listed) R) s with
              | some u =>
                obtain ⟨j, q, k1, k2, rfl, rfl⟩ := Ek _ R s u g2; exact absurd (List.mem_map.2 ⟨q, List.mem_of_getElem? k2, rfl⟩) hmem
              | none => simpa using hv
        · intro k ob hv; simp only [DW, St.ext] at hv ⊢; rw [BE] at hv; rw [BE]
          cases g1 : Aw (D9 (Cf K (listed.setIfInBounds i true)) R) k with
          | some u =>
            rw [g1] at hv; simp only [Option.some_or, Option.some.injEq] at hv; subst hv; obtain ⟨j, q, k1, k2, k3⟩ := Et _ R k u g1
            rcases hbn j k1 with rfl | k1
            · rw [hRi] at k2; simp only [Option.some.injEq] at k2; subst k2; rw [k3]; rfl
            · by_cases e : j = i
              · subst e; rw [hRi] at k2; simp only [Option.some.injEq] at k2; subst k2; rw [k3]; rfl
              · have hnone : Aw ri.new k = none := by
                  cases g2 : Aw ri.new k with
                  | none => rfl
                  | some ob' =>
                    have r1 := hid i ri hRi k ob' g2; have r2 := hid j q k2 k u k3; omega
                rw [hnone, BE, objsM_find σ.next _ R 0 j q k u hid k1 k2 k3]; rfl
          | none =>
            rw [g1] at hv; simp only [Option.none_or] at hv; have hklt := hσ k ob hv
            have hnone : Aw ri.new k = none := by
              cases g2 : Aw ri.new k with
              | none => rfl
              | some ob' =>
                have r1 := hid i ri hRi k ob' g2; omega
            rw [hnone, BE]
            cases g2 : Aw (D9 (Cf K listed) R) k with
            | some u =>
              obtain ⟨j, q, k1, k2, k3⟩ := Et _ R k u g2; have := hid j q k2 k u k3; omega
            | none => simpa using hv
      · intro r hr2
        rcases hD' r hr2 with h | ⟨ob, h⟩
        · rcases hD r h with h | ⟨j, q, ob, k1, k2, k3⟩
          · exact .inl h
          · refine .inr ⟨j, q, ob, ?_, k2, k3⟩; rw [Eg (by omega)]
            split
            · rfl
            · exact k1
        · exact .inr ⟨i, ri, ob, by rw [Eg (by omega), if_pos rfl], hRi, h⟩
    have hst : ∀ d, o.dst = some d → d < (DW σ (R.map (·.dst)) nx (Cf K listed) R).nt := by
      intro d hd; rw [hdst] at hd; simp only [Option.some.injEq] at hd; subst hd; exact hdn
    unfold wpOp
    simp only [ho']
    rcases hor with ⟨hg, hloc⟩ | ⟨hg, hv, hnew⟩
    · rw [hrr.guard hg, if_pos rfl]; refine .inl (hloc C E X a hrr (fun r ob hf hDr => ?_) _ _ (fun y E' X' hLP => ?_))
      · have r1 := hid i ri hRi r ob hf
        rcases hD r hDr with h | ⟨j, q, ob', k1, k2, k3⟩
        · omega
        have r2 := hid j q k2 r ob' k3
        have hji : j = i := by omega
        subst hji
        have : listed.getD j true = true := by rw [Fe (by omega)]; exact k1
        rw [h1] at this
        cases this
      obtain ⟨X'', hr'⟩ := hr.ext hLP o.dst nx hst (fun r ob hf => by have := hid i ri hRi r ob hf; omega) (Nat.le_refl _); exact hstep E' X'' _ hr' hLP.dom
    rw [hrr.guard hg, if_neg (by simp)]; have hput := hr.put o.dst hst (v := (.lit undef)) (y := undef) (by simp [FV]); refine hstep E X _ ?_ (fun r hr => .inl hr); rw [hv, hnew]; exact hput.sub (fun s v h => h) (fun r ob h => h) (Nat.le_refl _) rfl rfl
end draw
def EE (σ : St) (nx : Nat) (bs : List Bool) (R : List Res) : St :=
  { slots := D4 bs R ++ σ.slots, objs := D9 bs R ++ σ.objs, next := nx, nt := σ.nt, env := σ.env }
def stAll (σ : St) (nx : Nat) (R : List Res) : St :=
  { slots := R.map (fun r => (r.dst, r.v)) ++ σ.slots, objs := R.flatMap (·.new) ++ σ.objs, next := nx, nt := σ.nt, env := σ.env }
def disj (ds : List Nat) : List (Nat × AV) → Bool
  | [] => true
  | p :: l => !(ds.elem p.1) && disj ds l
theorem hide_disj {ds : List Nat} : ∀ {l : List (Nat × AV)}, disj ds l = true → hide ds l = l
  | [], _ => rfl
  | p :: l, h => by
    simp only [disj, Bool.and_eq_true, Bool.not_eq_true'] at h; simp only [hide, h.1, cond_false, hide_disj h.2]
theorem slotsM_all : ∀ (R : List Res), D4 (List.replicate R.length true) R = R.map (fun r => (r.dst, r.v))
  | [] => rfl
  | r :: R => by simp [D4, List.replicate_succ, slotsM_all R]
theorem objsM_all : ∀ (R : List Res), D9 (List.replicate R.length true) R = R.flatMap (·.new)
  | [] => rfl
  | r :: R => by simp [D9, List.replicate_succ, objsM_all R]
theorem slotsM_prefix : ∀ (bs : List Bool) (R S : List Res), bs.length ≤ R.length → D4 bs (R ++ S) = D4 bs R
  | [], R, S, _ => by cases R <;> cases S <;> simp [D4]
  | b :: bs, [], S, h => by simp at h
  | b :: bs, r :: R, S, h => by
    simp only [List.cons_append, D4]; rw [slotsM_prefix bs R S (by simpa using h)]
theorem objsM_prefix : ∀ (bs : List Bool) (R S : List Res), bs.length ≤ R.length → D9 bs (R ++ S) = D9 bs R
  | [], R, S, _ => by cases R <;> cases S <;> simp [D9]
  | b :: bs, [], S, h => by simp at h
  | b :: bs, r :: R, S, h => by
    simp only [List.cons_append, D9]; rw [objsM_prefix bs R S (by simpa using h)]
def Gv (lo : Nat) (new : List (Nat × Obj)) : Prop := ∀ p ∈ new, lo ≤ p.1 ∧ p.1 < lo + 4
theorem F8 {lo : Nat} : ∀ {new : List (Nat × Obj)}, Gv lo new → ∀ k ob, Aw new k = some ob → lo ≤ k ∧ k < lo + 4
  | [], _, k, ob, h => by simp [Aw] at h
  | (j, o) :: l, h, k, ob, hf => by
    rw [AZ] at hf
    split at hf
    · rename_i e
      subst e; exact h (j, o) (by simp)
    · exact F8 (fun p hp => h p (by simp [hp])) k ob hf
def finS (P : Program) (l : List Oper) (σ : St) (nx : Nat) (Q : St → Prop) (rest : List Oper) (R : List Res) : Prop := SeqL P ⟨l⟩ rest (stAll σ nx R) Q
def Gi (P : Program) (l : List Oper) (gs : List (Option Nat)) (σ : St) (nx : Nat) (Fin : List Oper → List Res → Prop) : List Oper → List (List Bool) → List Res → Prop
  | rest, [], R => Fin rest R
  | [], _ :: _, _ => False
  | o :: rest, bs :: Ts, R => match o.dst with
    | none => False
    | some d => match B0 gs (EE σ nx bs R) o.guard with
      | some true => match Az P (EE σ nx bs R) (σ.next + 4 * R.length) o.op with
        | some (v, new) => Gi P l gs σ nx Fin rest Ts (R ++ [⟨d, v, new⟩])
        | none => ∃ v new, Gv (σ.next + 4 * R.length) new ∧ Local P (EE σ nx bs R) o v new ∧ Gi P l gs σ nx Fin rest Ts (R ++ [⟨d, v, new⟩])
      | some false => Gi P l gs σ nx Fin rest Ts (R ++ [⟨d, (.lit undef), []⟩])
      | none => False
theorem drawF_spec {P : Program} {Fin : List Oper → List Res → Prop} : ∀ (rest : List Oper) (Ts : List (List Bool)) (R : List Res), Gi P l (B8 ⟨l⟩) σ nx Fin rest Ts R → (∀ i, (h : i < Ts.length) → Ts[i].length ≤ R.length + i) →
    ∃ S : List Res, S.length = Ts.length ∧ Fin (rest.drop Ts.length) (R ++ S) ∧
      ∀ i, i < Ts.length → ∃ o r, rest[i]? = some o ∧ S[i]? = some r ∧ o.dst = some r.dst ∧ Gv (σ.next + 4 * (R.length + i)) r.new ∧
        ((B0 (B8 ⟨l⟩) (EE σ nx ((Ts[i]?).getD []) (R ++ S)) o.guard = some true ∧ Local P (EE σ nx ((Ts[i]?).getD []) (R ++ S)) o r.v r.new) ∨
         (B0 (B8 ⟨l⟩) (EE σ nx ((Ts[i]?).getD []) (R ++ S)) o.guard = some false ∧ r.v = (.lit undef) ∧ r.new = []))
  | rest, [], R, h, _ => by
    simp only [Gi] at h; exact ⟨[], rfl, by simpa using h, fun i hi => by simp at hi⟩
  | [], _ :: _, _, h, _ => by simp [Gi] at h
  | o :: rest, bs :: Ts, R, h, hlen => by
    have hbs : bs.length ≤ R.length := hlen 0 (Nat.succ_pos _); simp only [Gi] at h
    split at h
    · exact h.elim
    · rename_i d hd
      have key : ∀ v new, Gi P l (B8 ⟨l⟩) σ nx Fin rest Ts (R ++ [⟨d, v, new⟩]) → Gv (σ.next + 4 * R.length) new →
          ((B0 (B8 ⟨l⟩) (EE σ nx bs R) o.guard = some true ∧ Local P (EE σ nx bs R) o v new) ∨ (B0 (B8 ⟨l⟩) (EE σ nx bs R) o.guard = some false ∧ v = (.lit undef) ∧ new = [])) →
          ∃ S : List Res, S.length = (bs :: Ts).length ∧ Fin ((o :: rest).drop (bs :: Ts).length) (R ++ S) ∧
            ∀ i, i < (bs :: Ts).length → ∃ o' r, (o :: rest)[i]? = some o' ∧ S[i]? = some r ∧ o'.dst = some r.dst ∧ Gv (σ.next + 4 * (R.length + i)) r.new ∧
              ((B0 (B8 ⟨l⟩) (EE σ nx (((bs :: Ts)[i]?).getD []) (R ++ S)) o'.guard = some true ∧ Local P (EE σ nx (((bs :: Ts)[i]?).getD []) (R ++ S)) o' r.v r.new) ∨
               (B0 (B8 ⟨l⟩) (EE σ nx (((bs :: Ts)[i]?).getD []) (R ++ S)) o'.guard = some false ∧ r.v = (.lit undef) ∧ r.new = [])) := by
        intro v new hdr hids hor
        obtain ⟨S, h1, h2, h3⟩ := drawF_spec rest Ts _ hdr (fun i hi => by
          have := hlen (i + 1) (by simpa using hi); simp only [List.getElem_cons_succ, List.length_append, List.length_singleton] at this ⊢
          omega)
        refine ⟨⟨d, v, new⟩ :: S, by simp [h1], ?_, ?_⟩
        · rw [List.append_assoc] at h2
          simpa using h2
        · intro i hi
          cases i with
          | zero =>
            refine ⟨o, ⟨d, v, new⟩, rfl, rfl, hd, by simpa using hids, ?_⟩
            have e1 : EE σ nx (((bs :: Ts)[0]?).getD []) (R ++ ⟨d, v, new⟩ :: S) = EE σ nx bs R := by
              simp only [List.getElem?_cons_zero, Option.getD_some, EE, slotsM_prefix bs R _ hbs, objsM_prefix bs R _ hbs]
            rw [e1]; exact hor
          | succ i =>
            obtain ⟨o', r, k1, k2, k3, k4, k5⟩ := h3 i (by simpa using hi); refine ⟨o', r, by simpa using k1, by simpa using k2, k3, ?_, ?_⟩
            · have : R.length + (i + 1) = (R ++ [(⟨d, v, new⟩ : Res)]).length + i := by simp; omega
              rw [this]; exact k4
            · rw [List.append_assoc] at k5
              simpa using k5
      split at h
      · rename_i hg
        split at h
        · rename_i v new hq
          refine key v new h ?_ (.inl ⟨hg, stepQ_sound hq⟩)
          rcases stepQ_new hq with rfl | ⟨ob, rfl⟩
          · intro p hp; simp at hp
          · intro p hp
            simp at hp
            subst hp
            simp
        · obtain ⟨v, new, hids, hloc, h⟩ := h; exact key v new h hids (.inl ⟨hg, hloc⟩)
      · rename_i hg
        exact key (.lit undef) [] h (fun p hp => by simp at hp) (.inr ⟨hg, rfl, rfl⟩)
      · exact h.elim
theorem Rel.drew {E : Env} {X : Nat → List Value} {a : Act} (h : Rel C E X σ a) : Rel C { E with w := E.w.drew } X σ a := by
  have hle : E.le { E with w := E.w.drew } := ⟨fun b hb => ⟨hb, rfl⟩, fun r hr => ⟨hr, rfl, rfl⟩⟩
  exact ⟨fun s v hv => FV.le _ hle _ (h.slots s v hv), h.size, h.defers, fun r o hr => ⟨(h.objs r o hr).1, (h.objs r o hr).2.1, (h.objs r o hr).2.2.1.kept (fun b _ => rfl), FVr.le _ _ (hle.by _) _ (h.objs r o hr).2.2.2⟩, h.apart,
    h.stay, h.fresh, ⟨h.kept.os, h.kept.tape.trans ⟨rfl, Nat.le_succ _⟩, h.kept.output, h.kept.size, h.kept.block⟩, h.mine, h.env, h.envD, h.base, h.grow, h.envk, h.glob.le hle⟩
def Dp : List Oper → List Nat
  | [] => []
  | o :: l => match o.dst with
    | some d => d :: Dp l
    | none => Dp l
def drawOk (l : List Oper) (T : List (List Bool)) (σ : St) (K : Nat) : Bool :=
  chk l T K && Nat.ble K l.length && (let ds := Dp (l.take K); disj ds σ.slots && decide ds.Nodup && ds.all (fun d => Nat.blt d σ.nt))
theorem Ev.draw {P : Program} {Q : Exit → St → Prop} {id : Nat} (T : List (List Bool)) (K : Nat) (hm : P.follows .mixedOrders = true) (hok : drawOk l T σ K = true) (hTl : K ≤ T.length)
    (h : ∀ Kt : St → Prop, (∀ σ', Q .normal σ' → Kt σ') → Gi P l (B8 ⟨l⟩) σ (σ.next + 4 * K) (finS P l σ (σ.next + 4 * K) Kt) l (T.take K) []) : Ev P (.region id ⟨l⟩ true) σ Q := by
  simp only [drawOk, Bool.and_eq_true, decide_eq_true_eq, List.all_eq_true] at hok; obtain ⟨⟨hc, hKl⟩, ⟨hdj, hnd⟩, hdn⟩ := hok; have hKl := EV hKl
  have hTK : (T.take K).length = K := by simp; omega
  obtain ⟨S, h1, h2, h3⟩ := drawF_spec l (T.take K) [] (h (Q .normal) (fun _ h => h)) (fun i hi => by
    have hiK : i < K := by omega
    have ho : l[i]? = some l[i] := List.getElem?_eq_getElem (by omega); have := (FO hc ho).1; have e : T[i]? = some T[i] := List.getElem?_eq_getElem (by omega); rw [e] at this
    simpa using this)
  simp only [List.nil_append, List.length_nil, Nat.zero_add] at h2 h3; rw [hTK] at h1 h2 h3
  have hds : S.map (·.dst) = Dp (l.take K) := by
    have key : ∀ (n : Nat) (l' : List Oper) (S' : List Res), S'.length = n → l'.length = n → (∀ i, i < n → ∃ o r, l'[i]? = some o ∧ S'[i]? = some r ∧ o.dst = some r.dst) → S'.map (·.dst) = Dp l' := by
      intro n
      induction n with
      | zero =>
        intro l' S' e1 e2 _; rw [List.eq_nil_of_length_eq_zero e1, List.eq_nil_of_length_eq_zero e2]; rfl
      | succ n ih =>
        intro l' S' e1 e2 hh
        match l', S', e1, e2 with
        | o :: l', r :: S', e1, e2 =>
          obtain ⟨o0, r0, k1, k2, k3⟩ := hh 0 (by omega); simp only [List.getElem?_cons_zero, Option.some.injEq] at k1 k2; subst k1 k2; simp only [List.map_cons, Dp, k3]
          rw [ih l' S' (by simpa using e1) (by simpa using e2) (fun i hi => by
            obtain ⟨o1, r1, j1, j2, j3⟩ := hh (i + 1) (by omega)
            exact ⟨o1, r1, by simpa using j1, by simpa using j2, j3⟩)]
    refine key K (l.take K) S h1 (by simp; omega) (fun i hi => ?_); obtain ⟨o, r, k1, k2, k3, _⟩ := h3 i hi; exact ⟨o, r, by rw [List.getElem?_take, if_pos hi]; exact k1, k2, k3⟩
  have hst : ∀ bs, DW σ (S.map (·.dst)) (σ.next + 4 * K) bs S = EE σ (σ.next + 4 * K) bs S := by
    intro bs; simp only [DW, EE, hds, hide_disj hdj]
  intro C E X a hr; refine wp_region_any hm ?_; have hr' := hr.drew; have hσ : ∀ k o, Aw σ.objs k = some o → k < σ.next := fun k o hk => hr.fresh k (hr.objs k o hk).1
  have hR : ∀ i, i < K → ResOk P l σ (S.map (·.dst)) (σ.next + 4 * K) K T S i := by
    intro i hi o r ho hSr; obtain ⟨o', r', k1, k2, k3, k4, k5⟩ := h3 i hi; rw [ho] at k1; rw [hSr] at k2; simp only [Option.some.injEq] at k1 k2; subst k1 k2; refine ⟨k3, ?_, fun k ob hf => F8 k4 k ob hf, ?_⟩
    · have : r.dst ∈ Dp (l.take K) := by rw [← hds]; exact List.mem_map.2 ⟨r, List.mem_of_getElem? hSr, rfl⟩
      exact Nat.le_of_ble_eq_true (hdn _ this)
    rw [hst]
    have e : ((T.take K)[i]?).getD [] = (T[i]?).getD [] := by rw [List.getElem?_take, if_pos hi]
    rw [e] at k5; exact k5
  have hall : DW σ (S.map (·.dst)) (σ.next + 4 * K) (List.replicate K true) S = stAll σ (σ.next + 4 * K) S := by
    rw [hst]; simp only [EE, stAll]; rw [← h1, slotsM_all, objsM_all]
  have hgoal := any_of_draw (P := P) (nx := σ.next + 4 * K) (C := C) (Q := fun e a' w' => ∃ E' X' σ', E'.w = w' ∧ Rel C E' X' σ' a' ∧ Q e σ') hc hKl h1 (by rw [hds]; exact hnd) hR (Nat.le_refl _) hσ (fun E X a hr2 => by
      rw [hall] at hr2
      exact h2 C E X a hr2 _ (fun E' X' σ' a' hr3 hq => ⟨E', X', σ', rfl, hr3, hq⟩))
    l.length (Array.replicate l.length false) { E with w := E.w.drew } X a (by simp) ?_ ?_ ?_ ?_ ?_
  · simpa using hgoal
  · have : ∀ n, n ≤ l.length → (List.range n).countP (fun j => !(Array.replicate l.length false).getD j true) = n := by
      intro n
      induction n with
      | zero => intro _; simp
      | succ n ih =>
        intro hn; rw [List.range_succ, List.countP_append, ih (by omega), List.countP_singleton]
        simp [Array.getD, show n < l.length by omega]
    exact this _ (Nat.le_refl _)
  · intro i o _ hl
    simp [Array.getD] at hl
  · intro i _
    simp [Array.getD]
  · have hb : ∀ j : Nat, (Cf K (Array.replicate l.length false))[j]? ≠ some true := by
      intro j hj; have := (De.1 hj).2
      simp [Array.getD] at this
    refine hr'.sub ?_ ?_ (by simp [DW]) rfl rfl
    · intro s v hv; simp only [DW, hds, hide_disj hdj] at hv; rw [BE] at hv
      cases g : Aw (D4 (Cf K (Array.replicate l.length false)) S) s with
      | some u =>
        obtain ⟨j, r, g1, _⟩ := Ek _ S s u g; exact absurd g1 (hb j)
      | none => rw [g] at hv; simpa using hv
    intro k o hv; simp only [DW] at hv; rw [BE] at hv
    cases g : Aw (D9 (Cf K (Array.replicate l.length false)) S) k with
    | some u =>
      obtain ⟨j, r, g1, _⟩ := Et _ S k u g; exact absurd g1 (hb j)
    | none => rw [g] at hv; simpa using hv
  intro r hD; exact .inl (hr.fresh r hD)
end
section
variable {P : Program}
def Du : Op → Option (List Operand)
  | .move x => some [x]
  | .assign x => some [x]
  | .pick c x y => some [c, x, y]
  | .binOp _ _ x y _ => some [x, y]
  | .unOp _ _ x => some [x]
  | .convert _ _ x => some [x]
  | .makeInterface _ x => some [x]
  | .index _ x i => some [x, i]
  | .load _ x => some [x]
  | .fieldAddr _ x _ => some [x]
  | .field _ x _ => some [x]
  | .indexAddr _ x i => some [x, i]
  | .slice _ x lo hi none => some (x :: lo.toList ++ hi.toList)
  | .build _ parts => some (parts.toList.map (·.2))
  | .makeFunc _ first caps => some (first.toList ++ caps.toList)
  | .extract x _ => some [x]
  | .nilCheck x => some [x]
  | .call { callee := .builtin _, args := as, argTypes := _ } => some as.toList
  | .call { callee := .value x, args := as, argTypes := _ } => some (x :: as.toList)
  | _ => none
theorem cellsFrom_congr {σ σ' : St} (h : σ'.objs = σ.objs) (v : AV) : D5 σ' v = D5 σ v := by
  cases v <;> simp [D5, h]
theorem loadAV_congr {σ σ' : St} (h : σ'.objs = σ.objs) (t : TypeId) (v : AV) : G3 P σ' t v = G3 P σ t v := by
  simp [G3, cellsFrom_congr h]
theorem indexAV_congr {σ σ' : St} (h : σ'.objs = σ.objs) (sz : Nat) (v : AV) (n : Int) : FE σ' sz v n = FE σ sz v n := by
  cases v <;> simp [FE, h]
theorem mapRows_congr {σ σ' : St} (h : σ'.objs = σ.objs) (v : AV) : F0 σ' v = F0 σ v := by
  cases v <;> simp [F0, h]
theorem stepQ_congr {σ σ' : St} {op : Op} {xs : List Operand} (hx : Du op = some xs) (ho : σ'.objs = σ.objs) (he : ∀ x ∈ xs, σ'.ev x = σ.ev x) (id id' : Nat) : Az P σ' id' op = Az P σ id op := by
  cases op <;> try (simp [Du] at hx; done)
  case slice t x lo hi mx =>
    cases mx with
    | some m => simp [Du] at hx
    | none =>
      simp only [Du, Option.some.injEq] at hx; subst hx; have e1 := he x (by simp)
      have e2 : ∀ d, Dm σ' d lo = Dm σ d lo := by
        intro d
        cases lo with
        | none => rfl
        | some l => simp [Dm, he l (by simp)]
      have e3 : ∀ d, Dm σ' d hi = Dm σ d hi := by
        intro d
        cases hi with
        | none => rfl
        | some l => simp [Dm, he l (by simp)]
      have e4 : Fs σ' lo = Fs σ lo := by
        cases lo with
        | none => rfl
        | some l => simp [Fs, he l (by simp)]
      have e5 : Fs σ' hi = Fs σ hi := by
        cases hi with
        | none => rfl
        | some l => simp [Fs, he l (by simp)]
      simp only [Az, e1, e2, e3, e4, e5, ho]
  case build t parts =>
    simp only [Du, Option.some.injEq] at hx; subst hx
    have : (parts.toList.map fun p => (p.1, σ'.ev p.2)) = parts.toList.map fun p => (p.1, σ.ev p.2) := by
      apply List.map_congr_left
      intro p hp; rw [he p.2 (List.mem_map.2 ⟨p, hp, rfl⟩)]
    simp only [Az, this]
  case makeFunc f first caps =>
    simp only [Du, Option.some.injEq] at hx; subst hx; have e1 : first.toList.map σ'.ev = first.toList.map σ.ev := List.map_congr_left fun x h => he x (by simp [h]); have e2 : caps.toList.map σ'.ev = caps.toList.map σ.ev := List.map_congr_left fun x h => he x (by simp [h]); simp only [Az, e1, e2]
  case call c =>
    obtain ⟨callee, as, ts⟩ := c
    cases callee <;> try (simp [Du] at hx; done)
    case builtin b =>
      simp only [Du, Option.some.injEq] at hx; subst hx; have e1 : as.toList.map σ'.ev = as.toList.map σ.ev := List.map_congr_left fun x h => he x h; simp only [Az]
      cases b <;> simp only [BT, e1]
      case len =>
        split
        · rename_i x t h1 h2
          rw [he x (by rw [h1]; simp), mapRows_congr ho]
        rfl
      case cap =>
        split
        · rename_i x t h1 h2
          rw [he x (by rw [h1]; simp)]
        rfl
      case unsafeSliceData =>
        split
        · rename_i x h1
          rw [he x (by rw [h1]; simp)]
        rfl
    case value x => simp [Az]
  all_goals
    simp only [Du, Option.some.injEq] at hx; subst hx; simp only [List.mem_cons, List.not_mem_nil, or_false, forall_eq_or_imp, forall_eq] at he; simp only [Az, he, ho, loadAV_congr ho, indexAV_congr ho]
def okT : List Nat → List Bool → Nat → Bool
  | [], _, _ => true
  | d :: ds, bs, t => bif Nat.beq d t then (match bs with | b :: _ => b | [] => false) else okT ds bs.tail t
def okX (ds : List Nat) (bs : List Bool) : Operand → Bool
  | .tmp t => okT ds bs t
  | _ => true
theorem okT_spec : ∀ (ds : List Nat) (bs : List Bool) (t : Nat), okT ds bs t = true → ds.Nodup → ∀ (j : Nat), ds[j]? = some t → bs[j]? = some true
  | [], _, t, _, _, j, h => by simp at h
  | d :: ds, bs, t, h, hnd, j, hj => by
    simp only [okT] at h; simp only [List.nodup_cons] at hnd
    cases j with
    | zero =>
      simp at hj
      subst hj; rw [Nat.beq_refl] at h; simp only [cond_true] at h
      cases bs with
      | nil => simp at h
      | cons b bs => simp at h; simp [h]
    | succ j =>
      simp at hj
      have hne : Nat.beq d t = false := by
        cases hb : Nat.beq d t with
        | false => rfl
        | true =>
          rw [Nat.beq_eq] at hb; subst hb; exact absurd (List.mem_of_getElem? hj) hnd.1
      rw [hne] at h; simp only [cond_false] at h; have := okT_spec ds bs.tail t h hnd.2 j hj
      cases bs with
      | nil => simp at this
      | cons b bs => simpa using this
def Quiet (P : Program) (σ : St) (o : Oper) (v : AV) : Prop := ∀ σ' xs, Du o.op = some xs → σ'.objs = σ.objs → (∀ x ∈ xs, σ'.ev x = σ.ev x) → Local P σ' o v []
def drawS (P : Program) (l : List Oper) (gs : List (Option Nat)) (nx : Nat) (Q : St → Prop) (Fb : List Oper → Nat → St → Prop) : List Oper → Nat → St → Prop
  | rest, 0, σ => SeqL P ⟨l⟩ rest { σ with next := nx } Q
  | [], _ + 1, _ => False
  | o :: rest, n + 1, σ => match o.dst with
    | none => False
    | some d => match B0 gs σ o.guard with
      | some true => match Az P σ 0 o.op with
        | some (v, []) => drawS P l gs nx Q Fb rest n (σ.put (some d) v)
        | some (_, _ :: _) => False
        | none => Fb (o :: rest) n σ
      | some false => drawS P l gs nx Q Fb rest n (σ.put (some d) (.lit undef))
      | none => False
def drawN (P : Program) (l : List Oper) (gs : List (Option Nat)) (nx : Nat) (Q : St → Prop) : Nat → List Oper → Nat → St → Prop
  | 0 => drawS P l gs nx Q fun _ _ _ => False
  | c + 1 => drawS P l gs nx Q fun ops n σ => match ops with
    | [] => False
    | o :: rest => match o.dst with
      | none => False
      | some d => ∃ v, Quiet P σ o v ∧ drawN P l gs nx Q c rest n (σ.put (some d) v)
theorem dstsL_append : ∀ (l m : List Oper), Dp (l ++ m) = Dp l ++ Dp m
  | [], m => rfl
  | o :: l, m => by
    simp only [List.cons_append, Dp, dstsL_append l m]
    split <;> simp
theorem nodup_rev {α : Type} {l : List α} (h : l.Nodup) : l.reverse.Nodup := List.pairwise_reverse.2 (h.imp fun h e => h e.symm)
theorem find_rev : ∀ (R : List Res) (m : List (Nat × AV)) (t : Nat) (j : Nat) (r : Res), (R.map (·.dst)).Nodup → R[j]? = some r → r.dst = t → Aw ((R.map fun r => (r.dst, r.v)).reverse ++ m) t = some r.v := by
  intro R m t j r hnd hj hr
  have : ∀ (L : List (Nat × AV)), (L.map (·.1)).Nodup → (r.dst, r.v) ∈ L → Aw (L ++ m) t = some r.v := by
    intro L
    induction L with
    | nil => intro _ h; simp at h
    | cons p L ih =>
      intro h1 h2; obtain ⟨k, u⟩ := p; rw [List.cons_append, AZ]; simp only [List.map_cons, List.nodup_cons] at h1
      rcases List.mem_cons.1 h2 with h2 | h2
      · simp only [Prod.mk.injEq] at h2; rw [if_pos (by rw [← h2.1, hr]), h2.2]
      rw [if_neg]
      · exact ih h1.2 h2
      intro e; subst e; exact h1.1 (List.mem_map.2 ⟨_, h2, hr⟩)
  apply this
  · rw [List.map_reverse, List.map_map]; exact nodup_rev hnd
  rw [List.mem_reverse]; exact List.mem_map.2 ⟨r, List.mem_of_getElem? hj, rfl⟩
theorem FU : ∀ (R : List Res) (m : List (Nat × AV)) (t : Nat), t ∉ R.map (·.dst) → Aw ((R.map fun r => (r.dst, r.v)).reverse ++ m) t = Aw m t := by
  intro R m t h; rw [BE]
  have : ∀ (L : List (Nat × AV)), t ∉ L.map (·.1) → Aw L t = none := by
    intro L
    induction L with
    | nil => intro _; rfl
    | cons p L ih =>
      intro h; obtain ⟨k, u⟩ := p; simp only [List.map_cons, List.mem_cons, not_or] at h; rw [AZ, if_neg (fun e => h.1 e.symm)]; exact ih h.2
  rw [this _ (by rw [List.map_reverse, List.mem_reverse, List.map_map]; exact h)]
  simp
theorem find_slotsM_none : ∀ (bs : List Bool) (R : List Res) (m : List (Nat × AV)) (t : Nat), t ∉ R.map (·.dst) → Aw (D4 bs R ++ m) t = Aw m t := by
  intro bs R m t h; rw [BE]
  cases hf : Aw (D4 bs R) t with
  | none => simp
  | some v =>
    obtain ⟨j, r, _, h2, h3, _⟩ := Ek bs R t v hf; exact absurd (List.mem_map.2 ⟨r, List.mem_of_getElem? h2, h3⟩) h
mutual
theorem viewAV_congr {σ σ' : St} (h : σ'.objs = σ.objs) : ∀ v : AV, Cn σ' v = Cn σ v
  | .als r lo n => by simp only [Cn, h]
  | .adr r i j => by simp only [Cn, h]
  | .agg cs => by simp only [Cn, viewL_congr h cs]
  | .tup cs => by simp only [Cn, viewL_congr h cs]
  | .fn f first caps => by simp only [Cn, viewL_congr h first, viewL_congr h caps]
  | .top => rfl
  | .lit v => rfl
  | .sh s rows => rfl
  | .sadr row j => rfl
  | .hd r => by simp only [Cn, h]
  | .shm s rows => rfl
  | .rem s la rows => rfl
theorem viewL_congr {σ σ' : St} (h : σ'.objs = σ.objs) : ∀ l : List AV, DX σ' l = DX σ l
  | [] => rfl
  | c :: cs => by simp only [DX, viewAV_congr h c, viewL_congr h cs]
end
theorem Quiet.call {σ : St} {o : Oper} {x : Operand} {as : Array Operand} {ts : Array TypeId} {g : FuncId} {first caps : List AV} {vs : List AV} {v v' : AV}
    (ho : o.op = .call { callee := .value x, args := as, argTypes := ts }) (hc : F4 (σ.ev x) = some (g, first, caps)) (hv : DX σ (first ++ (as.toList.map σ.ev ++ caps)) = some vs) (hF : Fun P g vs (AK v []))
    (hm : BQ (first ++ (as.toList.map σ.ev ++ caps)) = true ∨ Ez v = true) (hl1 : liftAV 0 v = some v') : Quiet P σ o v' := by
  intro σ' xs hxs hob he; simp only [ho, Du, Option.some.injEq] at hxs; subst hxs; have e1 : σ'.ev x = σ.ev x := he x (by simp); have e2 : as.toList.map σ'.ev = as.toList.map σ.ev := List.map_congr_left fun y hy => he y (by simp [hy]); refine Local.call (N := 0) (new := []) ho (by rw [e1]; exact hc) (by rw [e2, viewL_congr hob]; exact hv) hF ?_ hl1 rfl; rw [e2]
  rcases hm with hm | hm
  · exact .inl hm
  exact .inr ⟨hm, fun r ob h => by simp [Aw] at h⟩
section rules
variable (P : Program) (l : List Oper) (ops : Array Oper) (gs : List (Option Nat)) (nx n : Nat) (Q : St → Prop) (Fb : List Oper → Nat → St → Prop) (o : Oper) (rest : List Oper) (σ : St)
theorem drawS_cons : drawS P l gs nx Q Fb (o :: rest) (n + 1) σ = match o.dst with
    | none => False
    | some d => match B0 gs σ o.guard with
      | some true => match Az P σ 0 o.op with
        | some (v, []) => drawS P l gs nx Q Fb rest n (σ.put (some d) v)
        | some (_, _ :: _) => False
        | none => Fb (o :: rest) n σ
      | some false => drawS P l gs nx Q Fb rest n (σ.put (some d) (.lit undef))
      | none => False := rfl
variable (s : List (Nat × AV)) (b : List (Nat × Obj)) (t e d n' : Nat) (v : AV) (new : List (Nat × Obj))
end rules
end
section
variable {c : Nat} {cl : Bool} {cs : List AV} {o : Obj} {parts : List (Nat × Operand)} {rows : List (List AV)} {slc : Bool} {ts : Array TypeId} {vs : List (Nat × AV)}
def Ba (s : List (Nat × AV)) : Operand → Option AV
  | .tmp t => Aw s t
  | .const v => some (.lit v)
  | .global g => some (gAV g)
  | .func f => some (.fn (.func f) [] [])
section rules
variable {P : Program} {ops : Array Oper} {rest : List Oper} {s : List (Nat × AV)} {b : List (Nat × Obj)} {n t e id : Nat} {Q : St → Prop} {d ty : Nat} {pos : String} {aft : Array Edge} {g : Option (Nat × Bool)} {op : Op}
variable {x y z : Operand} {u v w : AV} {k k' : IntKind} {i j : Int}
theorem AS (h : Ba s x = some v) : St.ev ⟨s, b, n, t, e⟩ x = v := by
  cases x with
  | tmp r => simp only [Ba] at h; simp [St.ev, St.get, h]
  | const z => simpa [Ba, St.ev] using h
  | global z => simpa [Ba, St.ev] using h
  | func z => simpa [Ba, St.ev] using h
theorem S.q (hg : B0 (B8 ops) ⟨s, b, n, t, e⟩ g = some true) (hd : Nat.blt d t = true) (hq : Az P ⟨s, b, n, t, e⟩ n op = some (v, [])) (h : SeqL P ops rest ⟨(d, v) :: s, b, n, t, e⟩ Q) :
    SeqL P ops (⟨some d, op, ty, pos, aft, g⟩ :: rest) ⟨s, b, n, t, e⟩ Q := by
  have hw : Writer P ⟨s, b, n, t, e⟩ ⟨some d, op, ty, pos, aft, g⟩ ((⟨s, b, n, t, e⟩ : St).ext (some d) v [] n) := by
    refine Writer.of_local (stepQ_sound hq) (fun d' e => ?_) (fun r o h => by simp [Aw] at h) (Nat.le_refl _); simp only [Option.some.injEq] at e; subst e; exact Nat.le_of_ble_eq_true hd
  exact SeqL.write hg hw h
theorem S.new (hq : Az P ⟨s, b, n, t, e⟩ n op = some (v, [(n, o)])) (hg : B0 (B8 ops) ⟨s, b, n, t, e⟩ g = some true) (hd : Nat.blt d t = true) (h : SeqL P ops rest ⟨(d, v) :: s, (n, o) :: b, n + 1, t, e⟩ Q) :
    SeqL P ops (⟨some d, op, ty, pos, aft, g⟩ :: rest) ⟨s, b, n, t, e⟩ Q := by
  have hw : Writer P ⟨s, b, n, t, e⟩ ⟨some d, op, ty, pos, aft, g⟩ ((⟨s, b, n, t, e⟩ : St).ext (some d) v [(n, o)] (n + 1)) := by
    refine Writer.of_local (stepQ_sound hq) (fun d' e => ?_) (fun r o h => ?_) (Nat.le_succ _)
    · simp only [Option.some.injEq] at e; subst e; exact Nat.le_of_ble_eq_true hd
    rw [AZ] at h
    split at h
    · show n ≤ r ∧ r < n + 1; omega
    simp [Aw] at h
  exact SeqL.write hg hw h
theorem S.skip (hg : B0 (B8 ops) ⟨s, b, n, t, e⟩ g = some false) (hd : Nat.blt d t = true) (h : SeqL P ops rest ⟨(d, (.lit undef)) :: s, b, n, t, e⟩ Q) : SeqL P ops (⟨some d, op, ty, pos, aft, g⟩ :: rest) ⟨s, b, n, t, e⟩ Q := by
  refine SeqL.skip hg (fun d' e => ?_) h; simp only [Option.some.injEq] at e; subst e; exact Nat.le_of_ble_eq_true hd
theorem AD (h : Q ⟨s, b, n, t, e⟩) : SeqL P ops [] ⟨s, b, n, t, e⟩ Q := SeqL.nil h
theorem S.st {r ri rj c st : Nat} {el sz : Nat} {rows rows' : List (List AV)} {cl cl' : Bool} {row row' cs : List AV} {b' : List (Nat × Obj)} (hg : B0 (B8 ops) ⟨s, b, n, t, e⟩ g = some true) (hin : (P.info? st).isSome = true)
    (hcl : P.cellsOf st = c) (hx : Ba s x = some (.adr r ri rj)) (hy : Ba s y = some u) (ho : Aw b r = some ⟨slc, el, sz, rows, cl⟩) (hrow : rows[ri]? = some row) (hc : Di u = some cs)
    (hchk : (Nat.ble (rj + cs.length) row.length && Nat.beq cs.length c) = true) (hsp : splice row rj cs = row') (hset : rows.set ri row' = rows') (hcl' : (cl && BQ cs) = cl') (hdel : Fl b r = b')
    (h : SeqL P ops rest ⟨s, (r, ⟨slc, el, sz, rows', cl'⟩) :: b', n, t, e⟩ Q) : SeqL P ops (⟨none, .store st x y, ty, pos, aft, g⟩ :: rest) ⟨s, b, n, t, e⟩ Q := by
  subst hsp hset hcl' hdel; refine SeqL.write hg (stepO_sound rfl (σ' := ⟨s, (r, ⟨slc, el, sz, rows.set ri (splice row rj cs), cl && BQ cs⟩) :: Fl b r, n, t, e⟩) ?_) h; simp only [stepO, hin, cond_true, AS hx, AS hy, storeAV, ho, Option.bind_some, hrow, hc, hcl, hchk, Option.map_some]; rfl
theorem S.ap {st el c : Nat} {zs : List AV} {hr0 : Option Nat} {rows1 rows2 rows : List (List AV)} {c1 c2 cl' : Bool} {by' : Nat} {b' : List (Nat × Obj)} {m : Nat} (hg : B0 (B8 ops) ⟨s, b, n, t, e⟩ g = some true) (hd : Nat.blt d t = true)
    (hel : AX P st = some el) (hze : Bt P el = some zs) (hcl : P.cellsOf el = c) (hby : P.bytesOf el = by') (hz : (Nat.beq zs.length c && !Nat.beq c 0) = true)
    (hx : Ba s x = some u) (hy : Ba s y = some v) (hh : headAV ⟨s, b, n, t, e⟩ el c u = some (hr0, rows1, c1)) (hr : rowsAV ⟨s, b, n, t, e⟩ v = some (c, rows2, c2)) (hw : withinB ⟨s, b, n, t, e⟩ v = true)
    (hlen : rows1.length + rows2.length = m) (hm1 : m * by' ≤ 140737488355328) (hm2 : m ≤ 140737488355328) (hrs : rows1 ++ rows2 = rows) (hcl' : (c1 && c2) = cl') (hb' : St.drop1 ⟨s, b, n, t, e⟩ hr0 = b')
    (h : SeqL P ops rest ⟨(d, .als n 0 m) :: s, (n, ⟨true, el, c, rows, cl'⟩) :: b', n + 1, t, e⟩ Q) :
    SeqL P ops (⟨some d, .call { callee := .builtin .append, args := #[x, y], argTypes := #[st, st] }, ty, pos, aft, g⟩ :: rest) ⟨s, b, n, t, e⟩ Q := by
  subst hrs hcl' hb' hlen; have hd' : dstOk ⟨s, b, n, t, e⟩ (some d) = true := hd; refine SeqL.write hg (stepO_sound hd' (σ' := ⟨(d, .als n 0 (rows1.length + rows2.length)) :: s, (n, ⟨true, el, c, rows1 ++ rows2, c1 && c2⟩) :: St.drop1 ⟨s, b, n, t, e⟩ hr0, n + 1, t, e⟩) ?_) h
  have e1 : Nat.ble ((rows1.length + rows2.length) * by') 140737488355328 = true := by rw [Nat.ble_eq]; exact hm1
  have e2 : Nat.ble (rows1.length + rows2.length) 140737488355328 = true := by rw [Nat.ble_eq]; exact hm2
  simp only [Bool.and_eq_true] at hz; simp only [stepO, stepAppend, Nat.beq_refl, Bool.true_and, AS hx, AS hy, hw, cond_true, appendAV, hel, Option.bind_some, hze, hcl, hby, hh, hr, hz.1, hz.2, e1, e2, Bool.and_self, Bool.and_true]; rfl
section draws
variable {l : List Oper} {gs : List (Option Nat)} {nx K c : Nat} {Fb : List Oper → Nat → St → Prop}
def DN (P : Program) (l : List Oper) (gs : List (Option Nat)) (nx : Nat) (Q : St → Prop) (c : Nat) (rest : List Oper) (K : Nat) (σ : St) : Prop := drawN P l gs nx Q c rest K σ
theorem D.skip (hg : B0 gs ⟨s, b, n, t, e⟩ g = some false) (h : DN P l gs nx Q c rest K ⟨(d, (.lit undef)) :: s, b, n, t, e⟩) :
    DN P l gs nx Q c (⟨some d, op, ty, pos, aft, g⟩ :: rest) (K + 1) ⟨s, b, n, t, e⟩ := by
  unfold DN at h ⊢
  cases c <;> (simp only [drawN, drawS_cons, hg] at h ⊢; exact h)
theorem D.call {as : Array Operand} (hg : B0 gs ⟨s, b, n, t, e⟩ g = some true) (hq : Quiet P ⟨s, b, n, t, e⟩ ⟨some d, .call { callee := .value x, args := as, argTypes := ts }, ty, pos, aft, g⟩ v) (h : DN P l gs nx Q c rest K ⟨(d, v) :: s, b, n, t, e⟩) :
    DN P l gs nx Q (c + 1) (⟨some d, .call { callee := .value x, args := as, argTypes := ts }, ty, pos, aft, g⟩ :: rest) (K + 1) ⟨s, b, n, t, e⟩ := by
  unfold DN at h ⊢
  simp only [drawN, drawS_cons, hg, Az]; exact ⟨v, hq, h⟩
end draws
theorem q_move (hx : Ba s x = some v) : Az P ⟨s, b, n, t, e⟩ id (.move x) = some (v, []) := by simp only [Az, AS hx]
theorem q_assign (hx : Ba s x = some v) : Az P ⟨s, b, n, t, e⟩ id (.assign x) = some (v, []) := by simp only [Az, AS hx]
theorem q_pick_t (hz : Ba s z = some (.lit (.bool true))) (hx : Ba s x = some v) : Az P ⟨s, b, n, t, e⟩ id (.pick z x y) = some (v, []) := by simp only [Az, AS hz, AS hx, if_true]
theorem q_pick_f (hz : Ba s z = some (.lit (.bool false))) (hy : Ba s y = some v) : Az P ⟨s, b, n, t, e⟩ id (.pick z x y) = some (v, []) := by simp only [Az, AS hz, AS hy, Bool.false_eq_true, if_false]
variable {r ri rj rj' : Nat}
theorem q_lss (hx : Ba s x = some (.lit (.int k i))) (hy : Ba s y = some (.lit (.int k j))) : Az P ⟨s, b, n, t, e⟩ id (.binOp .lss ty x y d) = some (.lit (.bool (decide (i < j))), []) := by simp only [Az, AS hx, AS hy, Cq, bin_lss, Db, Option.map_some]
theorem q_leq (hx : Ba s x = some (.lit (.int k i))) (hy : Ba s y = some (.lit (.int k j))) : Az P ⟨s, b, n, t, e⟩ id (.binOp .leq ty x y d) = some (.lit (.bool (decide (i ≤ j))), []) := by simp only [Az, AS hx, AS hy, Cq, bin_leq, Db, Option.map_some]
theorem q_gtr (hx : Ba s x = some (.lit (.int k i))) (hy : Ba s y = some (.lit (.int k j))) : Az P ⟨s, b, n, t, e⟩ id (.binOp .gtr ty x y d) = some (.lit (.bool (decide (j < i))), []) := by simp only [Az, AS hx, AS hy, Cq, bin_gtr, Db, Option.map_some]
theorem q_geq (hx : Ba s x = some (.lit (.int k i))) (hy : Ba s y = some (.lit (.int k j))) : Az P ⟨s, b, n, t, e⟩ id (.binOp .geq ty x y d) = some (.lit (.bool (decide (j ≤ i))), []) := by simp only [Az, AS hx, AS hy, Cq, bin_geq, Db, Option.map_some]
theorem q_eql (hx : Ba s x = some (.lit (.int k i))) (hy : Ba s y = some (.lit (.int k j))) : Az P ⟨s, b, n, t, e⟩ id (.binOp .eql ty x y d) = some (.lit (.bool (decide (i = j))), []) := by simp only [Az, AS hx, AS hy, Cq, bin_eql, Db, Option.map_some]
theorem q_neq (hx : Ba s x = some (.lit (.int k i))) (hy : Ba s y = some (.lit (.int k j))) : Az P ⟨s, b, n, t, e⟩ id (.binOp .neq ty x y d) = some (.lit (.bool (!decide (i = j))), []) := by simp only [Az, AS hx, AS hy, Cq, bin_neq, Db, Option.map_some]
theorem q_add (hx : Ba s x = some (.lit (.int .i64 i))) (hy : Ba s y = some (.lit (.int .i64 j))) (h1 : -9223372036854775808 ≤ i + j) (h2 : i + j ≤ 9223372036854775807) : Az P ⟨s, b, n, t, e⟩ id (.binOp .add ty x y d) = some (.lit (.int .i64 (i + j)), []) := by simp only [Az, AS hx, AS hy, Cq, bin_add, Db, Option.map_some, wrap_i64 h1 h2]
theorem q_sub (hx : Ba s x = some (.lit (.int .i64 i))) (hy : Ba s y = some (.lit (.int .i64 j))) (h1 : -9223372036854775808 ≤ i - j) (h2 : i - j ≤ 9223372036854775807) : Az P ⟨s, b, n, t, e⟩ id (.binOp .sub ty x y d) = some (.lit (.int .i64 (i - j)), []) := by simp only [Az, AS hx, AS hy, Cq, bin_sub, Db, Option.map_some, wrap_i64 h1 h2]
theorem q_mul (hx : Ba s x = some (.lit (.int .i64 i))) (hy : Ba s y = some (.lit (.int .i64 j))) (h1 : -9223372036854775808 ≤ i * j) (h2 : i * j ≤ 9223372036854775807) : Az P ⟨s, b, n, t, e⟩ id (.binOp .mul ty x y d) = some (.lit (.int .i64 (i * j)), []) := by simp only [Az, AS hx, AS hy, Cq, bin_mul, Db, Option.map_some, wrap_i64 h1 h2]
theorem q_quo (hx : Ba s x = some (.lit (.int .i64 i))) (hy : Ba s y = some (.lit (.int .i64 j))) (h1 : 0 ≤ i) (h2 : i ≤ 9223372036854775807) (h3 : 0 < j) : Az P ⟨s, b, n, t, e⟩ id (.binOp .quo ty x y d) = some (.lit (.int .i64 (i / j)), []) := by
  have h4 : 0 ≤ i / j := Int.ediv_nonneg h1 (by omega); have h5 : i / j ≤ i := Int.ediv_le_self j h1; simp only [Az, AS hx, AS hy, Cq, bin_quo _ _ _ _ _ _ _ (show j ≠ 0 by omega), Db, Option.map_some, tdiv_nn h1, wrap_i64 (show -9223372036854775808 ≤ i / j by omega) (show i / j ≤ 9223372036854775807 by omega)]
theorem q_rem (hx : Ba s x = some (.lit (.int .i64 i))) (hy : Ba s y = some (.lit (.int .i64 j))) (h1 : 0 ≤ i) (h3 : j ≠ 0) : Az P ⟨s, b, n, t, e⟩ id (.binOp .rem ty x y d) = some (.lit (.int .i64 (i % j)), []) := by simp only [Az, AS hx, AS hy, Cq, bin_rem _ _ _ _ _ _ _ h3, Db, Option.map_some, tmod_nn h1]
theorem q_neg (hx : Ba s x = some (.lit (.int .i64 i))) (h1 : -9223372036854775808 ≤ 0 - i) (h2 : 0 - i ≤ 9223372036854775807) : Az P ⟨s, b, n, t, e⟩ id (.unOp .neg ty x) = some (.lit (.int .i64 (0 - i)), []) := by simp only [Az, AS hx, Cq, Option.bind_some, una_neg, Db, Option.map_some, wrap_i64 h1 h2]
theorem q_not {c : Bool} (hx : Ba s x = some (.lit (.bool c))) : Az P ⟨s, b, n, t, e⟩ id (.unOp .not ty x) = some (.lit (.bool (!c)), []) := by simp only [Az, AS hx, Cq, Option.bind_some, una_not, Db, Option.map_some]
theorem q_max (hx : Ba s x = some (.lit (.int k i))) (hy : Ba s y = some (.lit (.int k j))) : Az P ⟨s, b, n, t, e⟩ id (.call { callee := .builtin .max, args := #[x, y], argTypes := ts }) = some (.lit (.int k (max i j)), []) := by
  simp only [Az, BT, List.map_cons, List.map_nil, AS hx, AS hy, CU, Cq, Option.bind_some, maxV_int, Db, Option.map_some]
theorem q_min (hx : Ba s x = some (.lit (.int k i))) (hy : Ba s y = some (.lit (.int k j))) : Az P ⟨s, b, n, t, e⟩ id (.call { callee := .builtin .min, args := #[x, y], argTypes := ts }) = some (.lit (.int k (min i j)), []) := by
  simp only [Az, BT, List.map_cons, List.map_nil, AS hx, AS hy, CU, Cq, Option.bind_some, minV_int, Db, Option.map_some]
theorem q_len {st el m : Nat} (he : AX P st = some el) (hx : Ba s x = some u) (hl : Gk u = some m) : Az P ⟨s, b, n, t, e⟩ id (.call { callee := .builtin .len, args := #[x], argTypes := #[st] }) = some (.lit (.int .i64 (m : Int)), []) := by
  simp only [Az, BT, he, AS hx, hl, Option.map_some]
theorem q_conv {sd dd : TypeId} (hd : P.underlying dd = some (.int k')) (hs : (P.underlying sd).isSome = true) (hx : Ba s x = some (.lit (.int k i))) (hw : k'.wrap i = j) : Az P ⟨s, b, n, t, e⟩ id (.convert sd dd x) = some (.lit (.int k' j), []) := by
  simp only [Az, AS hx, Cq, Option.bind_some, conv_int P k i sd dd k' hd hs, Db, Option.map_some, hw]
theorem q_load1 {lt : Nat} (ha : B9 P lt = some false) (hx : Ba s x = some u) (hc : D5 ⟨s, b, n, t, e⟩ u = some (v :: cs)) : Az P ⟨s, b, n, t, e⟩ id (.load lt x) = some (v, []) := by simp only [Az, AS hx, G3, ha, hc, Fr, Option.map_some]
theorem q_loadA {lt c : Nat} {cs cs' : List AV} (ha : B9 P lt = some true) (hcl : P.cellsOf lt = c) (hx : Ba s x = some u) (hc : D5 ⟨s, b, n, t, e⟩ u = some cs) (hl : Nat.ble c cs.length = true) (ht : cs.take c = cs') : Az P ⟨s, b, n, t, e⟩ id (.load lt x) = some (.agg cs', []) := by
  subst ht; simp only [Az, AS hx, G3, ha, hc, hcl, hl, cond_true, Fr, Option.map_some]
theorem q_fa {st f off ft c : Nat} (hf : Br P st f = some (off, ft)) (hcl : P.cellsOf ft = c) (hc : Nat.beq c 0 = false) (hx : Ba s x = some (.adr r ri rj)) (hj : rj + off = rj') : Az P ⟨s, b, n, t, e⟩ id (.fieldAddr st x f) = some (.adr r ri rj', []) := by
  subst hj; simp only [Az, hf, Option.bind_some, hcl, hc, cond_false, AS hx, shift, Fr, Option.map_some]
theorem q_fas {st f off ft c : Nat} {row : List AV} (hf : Br P st f = some (off, ft)) (hcl : P.cellsOf ft = c) (hc : Nat.beq c 0 = false) (hx : Ba s x = some (.sadr row rj)) (hj : rj + off = rj') : Az P ⟨s, b, n, t, e⟩ id (.fieldAddr st x f) = some (.sadr row rj', []) := by
  subst hj; simp only [Az, hf, Option.bind_some, hcl, hc, cond_false, AS hx, shift, Fr, Option.map_some]
theorem q_field {st f off ft : Nat} (hf : Br P st f = some (off, ft)) (hx : Ba s x = some (.agg cs)) (hp : partAV P ft cs off = some v) : Az P ⟨s, b, n, t, e⟩ id (.field st x f) = some (v, []) := by simp only [Az, hf, Option.bind_some, AS hx, hp, Fr, Option.map_some]
theorem q_ia {st el c m lo m' : Nat} (hel : AX P st = some el) (hcl : P.cellsOf el = c) (hc : Nat.beq c 0 = false) (hx : Ba s x = some (.als r lo m)) (hy : Ba s y = some (.lit (.int k i))) (ho : Aw b r = some o) (hsz : o.sz = c) (h0 : 0 ≤ i) (h1 : i < m) (hm : lo + i.toNat = m') : Az P ⟨s, b, n, t, e⟩ id (.indexAddr st x y) = some (.adr r m' 0, []) := by
  subst hm hsz; simp only [Az, AS hy, hel, hcl, hc, cond_false, AS hx, FE, ho, Option.bind_some, Nat.beq_refl, cond_true, h0, h1, and_self, if_true, Fr, Option.map_some]
theorem q_ias {st el c : Nat} {row : List AV} (hel : AX P st = some el) (hcl : P.cellsOf el = c) (hc : Nat.beq c 0 = false) (hx : Ba s x = some (.sh c rows)) (hy : Ba s y = some (.lit (.int k i))) (h0 : 0 ≤ i) (hr : rows[i.toNat]? = some row) : Az P ⟨s, b, n, t, e⟩ id (.indexAddr st x y) = some (.sadr row 0, []) := by
  simp only [Az, AS hy, hel, Option.bind_some, hcl, hc, cond_false, AS hx, FE, Nat.beq_refl, cond_true, h0, if_true, hr, Fr, Option.map_some]
theorem q_alloc {at' : Nat} (hz : Bt P at' = some cs) (hc : cs.length = c) : Az P ⟨s, b, n, t, e⟩ id (.alloc at') = some (.adr id 0 0, [(id, ⟨false, at', c, [cs], true⟩)]) := by
  subst hc; simp only [Az, hz, Option.map_some]
theorem q_box {bt : Nat} (hx : Ba s x = some u) (hc : Di u = some cs) (hl : cs.length = c) (hcl : BQ cs = cl) : Az P ⟨s, b, n, t, e⟩ id (.box bt x) = some (.adr id 0 0, [(id, ⟨false, bt, c, [cs], cl⟩)]) := by
  subst hl hcl; simp only [Az, AS hx, hc, Option.map_some]
theorem q_extract {vs : List AV} (hx : Ba s x = some (.tup vs)) (hv : vs[c]? = some v) : Az P ⟨s, b, n, t, e⟩ id (.extract x c) = some (v, []) := by simp only [Az, AS hx, hv, Fr, Option.map_some]
def opvs (s : List (Nat × AV)) : List (Nat × Operand) → Option (List (Nat × AV))
  | [] => some []
  | p :: l => match Ba s p.2, opvs s l with
    | some v, some vs => some ((p.1, v) :: vs)
    | _, _ => none
theorem opvs_ev : ∀ {l : List (Nat × Operand)} {vs : List (Nat × AV)}, opvs s l = some vs → (l.map fun p => (p.1, St.ev ⟨s, b, n, t, e⟩ p.2)) = vs
  | [], vs, h => by simp only [opvs, Option.some.injEq] at h; simp [h]
  | p :: l, vs, h => by
    simp only [opvs] at h
    split at h
    · rename_i v vs' h1 h2
      simp only [Option.some.injEq] at h; subst h; rw [List.map_cons, AS h1, opvs_ev h2]
    · cases h
def opvl (s : List (Nat × AV)) : List Operand → Option (List AV)
  | [] => some []
  | x :: l => match Ba s x, opvl s l with
    | some v, some vs => some (v :: vs)
    | _, _ => none
theorem opvl_ev : ∀ {l : List Operand} {vs : List AV}, opvl s l = some vs → l.map (St.ev ⟨s, b, n, t, e⟩) = vs
  | [], vs, h => by simp only [opvl, Option.some.injEq] at h; simp [h]
  | x :: l, vs, h => by
    simp only [opvl] at h
    split at h
    · rename_i v vs' h1 h2
      simp only [Option.some.injEq] at h; subst h; rw [List.map_cons, AS h1, opvl_ev h2]
    · cases h
theorem q_build {bt : Nat} {zs cs : List AV} {pl : List (Nat × Nat)} (hz : Bt P bt = some zs) (hpl : Eb P bt = some pl) (hp : opvs s parts = some vs) (hf : fillAV (fun i => pl[i]?) zs vs = some cs) : Az P ⟨s, b, n, t, e⟩ id (.build bt ⟨parts⟩) = some (.agg cs, []) := by
  simp only [Az, placesG, hz, hpl, Option.bind_some, opvs_ev hp, hf, Option.map_some, Fr]
theorem q_builda {bt el len c : Nat} {zs cs : List AV} (hz : Bt P bt = some zs) (hpl : Eb P bt = none) (har : arrOf P bt = some (len, el)) (hcl : P.cellsOf el = c) (hc : Nat.beq c 0 = false) (hp : opvs s parts = some vs) (hf : fillAV (fun k => some (k * c, c)) zs vs = some cs) : Az P ⟨s, b, n, t, e⟩ id (.build bt ⟨parts⟩) = some (.agg cs, []) := by
  simp only [Az, placesG, hz, hpl, har, hcl, hc, cond_false, Option.bind_some, opvs_ev hp, hf, Option.map_some, Fr]
theorem q_iaa {st el len c : Nat} (hel : AX P st = none) (har : arrOf P st = some (len, el)) (hcl : P.cellsOf el = c) (hc : Nat.beq c 0 = false) (hx : Ba s x = some (.adr r ri rj)) (hy : Ba s y = some (.lit (.int k i))) (h0 : 0 ≤ i) (h1 : i < len) (hj : rj + i.toNat * c = rj') : Az P ⟨s, b, n, t, e⟩ id (.indexAddr st x y) = some (.adr r ri rj', []) := by
  subst hj; simp only [Az, AS hy, hel, arrAV, har, Option.bind_some, hcl, hc, cond_false, AS hx, h0, h1, and_self, if_true, shift, Fr, Option.map_some]
theorem q_buildSlice {bt el len c : Nat} {zs : List AV} (hel : AX P bt = some el) (hz : Bt P el = some zs) (hcl : P.cellsOf el = c) (hp : opvs s parts = some vs) (hr : rowsOf c 0 vs = some rows) (hc : (Nat.beq zs.length c && !Nat.beq c 0 && Nat.beq rows.length len && Nat.ble (len * c) 16777216) = true) (hcc : closedR rows = cl) : Az P ⟨s, b, n, t, e⟩ id (.buildSlice bt len ⟨parts⟩) = some (.als id 0 len, [(id, ⟨true, el, c, rows, cl⟩)]) := by
  subst hcc; simp only [Az, hel, Option.bind_some, hz, hcl, opvs_ev hp, hr, hc, cond_true]
theorem q_makeFunc {f : Fn} {first caps : List Operand} {vs ws : List AV} (h1 : opvl s first = some vs) (h2 : opvl s caps = some ws) : Az P ⟨s, b, n, t, e⟩ id (.makeFunc f ⟨first⟩ ⟨caps⟩) = some (.fn f vs ws, []) := by simp only [Az, opvl_ev h1, opvl_ev h2]
def bndv (s : List (Nat × AV)) (d : Nat) : Option Operand → Option Int
  | none => some d
  | some x => match Ba s x with
    | some (.lit (.int _ n)) => some n
    | _ => none
theorem bndv_ev {dd m : Nat} {z : Int} {xo : Option Operand} (h : bndv s dd xo = some z) (h0 : 0 ≤ z) (hm : z.toNat = m) : Dm ⟨s, b, n, t, e⟩ dd xo = some m := by
  subst hm
  cases xo with
  | none => simp only [bndv, Option.some.injEq] at h; subst h; simp [Dm]
  | some x =>
    simp only [bndv] at h
    split at h
    · rename_i k' n' hx
      simp only [Option.some.injEq] at h; subst h; simp only [Dm, AS hx, h0, if_true]
    cases h
theorem q_slice {st el c lo0 m l' h' : Nat} {zl zh : Int} {lo hi : Option Operand} {lo1 m1 : Nat} (hel : AX P st = some el) (hcl : P.cellsOf el = c) (hc : Nat.beq c 0 = false) (hx : Ba s x = some (.als r lo0 m)) (hlo : bndv s 0 lo = some zl) (hhi : bndv s m hi = some zh) (h0 : 0 ≤ zl) (h1 : zl ≤ zh) (h2 : zh ≤ m) (ho : Aw b r = some o) (hsz : o.sz = c) (e1 : lo0 + zl.toNat = lo1) (e2 : zh.toNat - zl.toNat = m1) : Az P ⟨s, b, n, t, e⟩ id (.slice st x lo hi none) = some (.als r lo1 m1, []) := by
  subst e1 e2 hsz
  have hh : zl.toNat ≤ zh.toNat ∧ zh.toNat ≤ m := by omega
  simp only [Az, hel, hcl, hc, cond_false, AS hx, Gk, Option.bind_some, bndv_ev hlo h0 rfl, bndv_ev hhi (by omega) rfl, ho, Nat.beq_refl, cond_true, G4, hh, and_self, if_true, Fr, Option.map_some]
theorem q_slices {st el c l' h' : Nat} {zl zh : Int} {lo hi : Option Operand} {rows rows' : List (List AV)} (hel : AX P st = some el) (hcl : P.cellsOf el = c) (hc : Nat.beq c 0 = false) (hx : Ba s x = some (.sh c rows)) (hlo : bndv s 0 lo = some zl) (hhi : bndv s rows.length hi = some zh) (h0 : 0 ≤ zl) (h1 : zl ≤ zh) (h2 : zh ≤ rows.length) (e1 : (rows.drop zl.toNat).take (zh.toNat - zl.toNat) = rows') : Az P ⟨s, b, n, t, e⟩ id (.slice st x lo hi none) = some (.sh c rows', []) := by
  subst e1
  have hh : zl.toNat ≤ zh.toNat ∧ zh.toNat ≤ rows.length := by omega
  simp only [Az, hel, hcl, hc, cond_false, AS hx, Gk, Option.bind_some, bndv_ev hlo h0 rfl, bndv_ev hhi (by omega) rfl, Nat.beq_refl, cond_true, G4, hh, and_self, if_true, Fr, Option.map_some]
theorem q_field1 {st f off ft : Nat} (hf : Br P st f = some (off, ft)) (ha : B9 P ft = some false) (hx : Ba s x = some (.agg cs)) (hv : cs[off]? = some v) : Az P ⟨s, b, n, t, e⟩ id (.field st x f) = some (v, []) :=
  q_field hf hx (by simp only [partAV, ha]; exact hv)
theorem cells_adr {row row' : List AV} (ho : Aw b r = some o) (hr : o.rows[ri]? = some row) (hd : row.drop rj = row') : D5 ⟨s, b, n, t, e⟩ (.adr r ri rj) = some row' := by simp [D5, ho, hr, hd]
theorem cells_sadr {row row' : List AV} (hd : row.drop rj = row') : D5 ⟨s, b, n, t, e⟩ (.sadr row rj) = some row' := by simp [D5, hd]
theorem Ao {P : Program} {σ : St} {Q : Exit → St → Prop} {id : Nat} {l : List Oper} (h : ∀ K : St → Prop, (∀ σ', Q .normal σ' → K σ') → SeqL P ⟨l⟩ l σ K) : Ev P (.region id ⟨l⟩ false) σ Q := Ev.region_k h
theorem fresh1 {m r : Nat} {o ob : Obj} (h : Aw [(m, o)] r = some ob) : r < m + 1 := by
  rw [AZ] at h
  split at h
  · omega
  simp [Aw] at h
theorem head_own {el c m : Nat} (ho : Aw b r = some ⟨true, el, c, rows, cl⟩) (hm : rows.length = m) : headAV ⟨s, b, n, t, e⟩ el c (.als r 0 m) = some (some r, rows, cl) := by
  subst hm
  simp [headAV, ho, Nat.beq_refl]
theorem rows_own {el c m : Nat} (ho : Aw b r = some ⟨slc, el, c, rows, cl⟩) (hm : rows.length = m) : rowsAV ⟨s, b, n, t, e⟩ (.als r 0 m) = some (c, rows, cl) := by
  subst hm
  simp [rowsAV, ho]
theorem within_own {el c m : Nat} (ho : Aw b r = some ⟨slc, el, c, rows, cl⟩) (hm : rows.length = m) : withinB ⟨s, b, n, t, e⟩ (.als r 0 m) = true := by
  subst hm
  simp [withinB, ho, ble_dec]
end rules
end
section
variable {R : List Res} {listed : Array Bool} {nx : Nat} {σ : St}
def St.over (σ : St) (r : Nat) (o : Obj) : St := { σ with objs := (r, o) :: σ.objs }
section late
variable {P : Program} {l : List Oper} {T : List (List Bool)} {K : Nat}
theorem slots_step {i : Nat} {ri : Res} (hnd : (R.map (·.dst)).Nodup) (hRi : R[i]? = some ri) (hlt : i < listed.size) :
    ∀ s v, Aw (DW σ (R.map (·.dst)) nx (Cf K (listed.setIfInBounds i true)) R).slots s = some v → Aw ((ri.dst, ri.v) :: (DW σ (R.map (·.dst)) nx (Cf K listed) R).slots) s = some v := by
  have hbn : ∀ j : Nat, (Cf K (listed.setIfInBounds i true))[j]? = some true → j = i ∨ (Cf K listed)[j]? = some true := by
    intro j hj; obtain ⟨g1, g2⟩ := De.1 hj; rw [Eg hlt] at g2
    by_cases e : i = j
    · exact .inl e.symm
    rw [if_neg e] at g2; exact .inr (De.2 ⟨g1, g2⟩)
  intro s v hv; simp only [DW] at hv ⊢; rw [AZ]; rw [BE] at hv
  cases g1 : Aw (D4 (Cf K (listed.setIfInBounds i true)) R) s with
  | some u =>
    rw [g1] at hv; simp only [Option.some_or, Option.some.injEq] at hv; subst hv; obtain ⟨j, q, k1, k2, rfl, rfl⟩ := Ek _ R s u g1
    rcases hbn j k1 with rfl | k1
    · rw [hRi] at k2; simp only [Option.some.injEq] at k2; subst k2
      simp
    by_cases e : ri.dst = q.dst
    · rw [if_pos e]
      have hij : i = j := by
        have e1 : (R.map (·.dst))[i]? = some ri.dst := by simp [hRi]
        have e2 : (R.map (·.dst))[j]? = some ri.dst := by simp [k2, e]
        obtain ⟨q1, q2⟩ := List.getElem?_eq_some_iff.1 e1; obtain ⟨q3, q4⟩ := List.getElem?_eq_some_iff.1 e2; exact (List.getElem_inj hnd).1 (q2.trans q4.symm)
      subst hij; rw [hRi] at k2; simp only [Option.some.injEq] at k2; rw [k2]
    rw [if_neg e, BE, slotsM_find _ R j q hnd k1 k2]; rfl
  | none =>
    rw [g1] at hv; simp only [Option.none_or] at hv; have hh := hv; rw [find_hide] at hh
    split at hh
    · cases hh
    rename_i hmem
    have hne : ri.dst ≠ s := fun e => hmem (List.mem_map.2 ⟨ri, List.mem_of_getElem? hRi, e⟩); rw [if_neg hne, BE]
    cases g2 : Aw (D4 (Cf K listed) R) s with
    | some u =>
      obtain ⟨j, q, k1, k2, rfl, rfl⟩ := Ek _ R s u g2; exact absurd (List.mem_map.2 ⟨q, List.mem_of_getElem? k2, rfl⟩) hmem
    | none => simpa using hv
theorem objs_step {nx : Nat} {i : Nat} {ri : Res} (hid : ∀ (m : Nat) (q : Res), R[m]? = some q → ∀ k o, Aw q.new k = some o → σ.next + 4 * (0 + m) ≤ k ∧ k < σ.next + 4 * (0 + m) + 4)
    (hσ : ∀ k o, Aw σ.objs k = some o → k < σ.next) (hRi : R[i]? = some ri) (hlt : i < listed.size) :
    ∀ k ob, Aw (D9 (Cf K (listed.setIfInBounds i true)) R ++ σ.objs) k = some ob → Aw (ri.new ++ (D9 (Cf K listed) R ++ σ.objs)) k = some ob := by
  have hbn : ∀ j : Nat, (Cf K (listed.setIfInBounds i true))[j]? = some true → j = i ∨ (Cf K listed)[j]? = some true := by
    intro j hj; obtain ⟨g1, g2⟩ := De.1 hj; rw [Eg hlt] at g2
    by_cases e : i = j
    · exact .inl e.symm
    rw [if_neg e] at g2; exact .inr (De.2 ⟨g1, g2⟩)
  intro k ob hv; rw [BE] at hv; rw [BE]
  cases g1 : Aw (D9 (Cf K (listed.setIfInBounds i true)) R) k with
  | some u =>
    rw [g1] at hv; simp only [Option.some_or, Option.some.injEq] at hv; subst hv; obtain ⟨j, q, k1, k2, k3⟩ := Et _ R k u g1
    rcases hbn j k1 with rfl | k1
    · rw [hRi] at k2; simp only [Option.some.injEq] at k2; subst k2; rw [k3]; rfl
    by_cases e : j = i
    · subst e; rw [hRi] at k2; simp only [Option.some.injEq] at k2; subst k2; rw [k3]; rfl
    have hnone : Aw ri.new k = none := by
      cases g2 : Aw ri.new k with
      | none => rfl
      | some ob' =>
        have r1 := hid i ri hRi k ob' g2; have r2 := hid j q k2 k u k3; omega
    rw [hnone, BE, objsM_find σ.next _ R 0 j q k u hid k1 k2 k3]; rfl
  | none =>
    rw [g1] at hv; simp only [Option.none_or] at hv; have hklt := hσ k ob hv
    have hnone : Aw ri.new k = none := by
      cases g2 : Aw ri.new k with
      | none => rfl
      | some ob' =>
        have r1 := hid i ri hRi k ob' g2; omega
    rw [hnone, BE]
    cases g2 : Aw (D9 (Cf K listed) R) k with
    | some u =>
      obtain ⟨j, q, k1, k2, k3⟩ := Et _ R k u g2; have := hid j q k2 k u k3; omega
    | none => simpa using hv
theorem count_decide {m n : Nat} (hsz : listed.size = n) (hm : m ≤ n) (hd : ∀ j, j < n → listed.getD j false = decide (j < m)) : (List.range n).countP (fun j => !listed.getD j true) = n - m := by
  have e1 : (List.range n).countP (fun j => !listed.getD j true) = (List.range n).countP (fun j => decide (m ≤ j)) := by
    apply List.countP_congr
    intro j hj
    have hj' : j < n := by simpa using hj
    rw [Fe (by omega), hd j hj']
    simp
  rw [e1]
  have : ∀ k, (List.range k).countP (fun j => decide (m ≤ j)) = k - m := by
    intro k
    induction k with
    | zero => simp
    | succ k ihn =>
      rw [List.range_succ, List.countP_append, ihn, List.countP_singleton]
      by_cases h : m ≤ k
      · simp [h]; omega
      simp [h]; omega
  exact this _
theorem any_of_B {Q : Exit → Act → World → Prop} {C : Ctx} {r0 : Nat} {o0 : Obj} (hc : chk l T (K + 1) = true) (hKl : K < l.length) (hRl : R.length = K) (hnd : (R.map (·.dst)).Nodup)
    (hR : ∀ i, i < K → ResOk P l σ (R.map (·.dst)) nx K T R i) (hσ : ∀ k o, Aw σ.objs k = some o → k < σ.next)
    (hF : ∀ i, i < K → Gb T K i = false → Aw (D9 ((T[i]?).getD []) R) r0 = none ∧ ∀ q, R[i]? = some q → q.new = []) (hr0 : σ.next ≤ r0)
    (hfin : ∀ E X a, Rel C E X ((DW σ (R.map (·.dst)) nx (List.replicate K true) R).over r0 o0) a → wpL P ⟨l⟩ Q (l.drop (K + 1)) a E.w) :
    ∀ (fuel : Nat) (listed : Array Bool) (E : Env) (X : Nat → List Value) (a : Act), listed.size = l.length → (List.range l.length).countP (fun j => !listed.getD j true) = fuel → Shut l listed → (∀ i, K + 1 ≤ i → listed.getD i false = false) → listed.getD K false = true →
      Rel C E X ((DW σ (R.map (·.dst)) nx (Cf K listed) R).over r0 o0) a → wpAny P .any ⟨l⟩ Q fuel listed a E.w := by
  have hid : ∀ (m : Nat) (q : Res), R[m]? = some q → ∀ k o, Aw q.new k = some o → σ.next + 4 * (0 + m) ≤ k ∧ k < σ.next + 4 * (0 + m) + 4 := by
    intro m q hq k o hf
    have hm : m < K := by rw [← hRl]; exact (List.getElem?_eq_some_iff.1 hq).1
    have ho : l[m]? = some l[m] := List.getElem?_eq_getElem (by omega); have := (hR m hm _ q ho hq).2.2.1 k o hf; omega
  intro fuel
  induction fuel with
  | zero =>
    intro listed E X a hsz hcnt hs hge hlK hr
    have hall : ∀ j, j < l.length → listed.getD j true = true := by
      intro j hj; have := List.countP_eq_zero.1 hcnt j (by simpa using hj)
      simpa using this
    have hKn : K + 1 = l.length := by
      rcases Nat.lt_or_ge (K + 1) l.length with h | h
      · have h1 := hall (K + 1) h; rw [Fe (by omega), hge (K + 1) (Nat.le_refl _)] at h1
        cases h1
      omega
    refine any_of_L hc 0 (K + 1) listed a E.w (by omega) (Nat.le_refl _) hsz hs (fun j hj => ?_) (hfin E X a ?_)
    · rw [← Fe (by omega), hall j hj]
      simp; omega
    have hb := stM_sub (nx := nx) (bs := Cf K listed) (bs' := List.replicate K true) hnd hid hσ (fun j hj => De.2 (by
      obtain ⟨hlt, _⟩ := List.getElem?_eq_some_iff.1 hj
      simp at hlt
      exact ⟨hlt, by rw [← Fe (by omega)]; exact hall j (by omega)⟩))
    refine hr.sub hb.1 (fun k o hk => ?_) (Nat.le_refl _) rfl rfl; simp only [St.over, AZ] at hk ⊢
    split at hk
    · rename_i e; rw [if_pos e]; exact hk
    rename_i e; rw [if_neg e]; exact hb.2 k o hk
  | succ fuel ih =>
    intro listed E X a hsz hcnt hs hge hlK hr
    by_cases hallK : ∀ j, j < K → listed.getD j false = true
    · have hb := stM_sub (nx := nx) (bs := Cf K listed) (bs' := List.replicate K true) hnd hid hσ (fun j hj => De.2 (by
        obtain ⟨hlt, _⟩ := List.getElem?_eq_some_iff.1 hj
        simp at hlt
        exact ⟨hlt, hallK j hlt⟩))
      have hr' := hr.sub (σ' := St.over (DW σ (R.map (fun r : Res => r.dst)) nx (List.replicate K true) R) r0 o0) hb.1 (fun k o hk => by
        simp only [St.over, AZ] at hk ⊢
        split at hk
        · rename_i e; rw [if_pos e]; exact hk
        rename_i e; rw [if_neg e]; exact hb.2 k o hk) (Nat.le_refl _) rfl rfl
      have hd : ∀ j, j < l.length → listed.getD j false = decide (j < K + 1) := by
        intro j hj
        by_cases h : j < K
        · simp [hallK j h, show j < K + 1 by omega]
        by_cases h2 : j = K
        · subst h2; simp [hlK]
        simp [hge j (by omega), show ¬ j < K + 1 by omega]
      have hcnt2 := count_decide hsz (show K + 1 ≤ l.length by omega) hd; exact any_of_L hc (fuel + 1) (K + 1) listed a E.w (by omega) (Nat.le_refl _) hsz hs hd (hfin E X a hr')
    obtain ⟨j0, hj0⟩ := Classical.not_forall.1 hallK; obtain ⟨hj1, hj2⟩ := Classical.not_imp.1 hj0
    have hj2 : listed.getD j0 false = false := by simpa using hj2
    refine ⟨fun hnil => ?_, fun i hi => ?_⟩
    · obtain ⟨j, _, hj⟩ := ready_exists hc hsz (show j0 < l.length by omega) hj2; rw [hnil] at hj
      cases hj
    obtain ⟨o, ho, h1, hp⟩ := mem_ready.1 hi; have hlt := (List.getElem?_eq_some_iff.1 ho).1
    have hiK : i < K := by
      rcases Nat.lt_or_ge i K with h | h
      · exact h
      exfalso
      by_cases e : i = K
      · subst e; rw [Fe (by omega), hlK] at h1
        cases h1
      have hb := ((FO hc ho).2.2 j0 (by omega)).2 (by omega); have := Fk hc hs i o ho hp j0 (by omega) hb; rw [hj2] at this
      cases this
    have hfree : Gb T K i = false := by
      cases hb : Gb T K i with
      | false => rfl
      | true =>
        exfalso
        have hoK : l[K]? = some l[K] := List.getElem?_eq_getElem hKl; have := Fk hc hs K _ hoK (fun e he => hs K _ hoK hlK e he) i hiK hb; rw [Fe (by omega), this] at h1
        cases h1
    have hRi : R[i]? = some (R[i]'(by omega)) := List.getElem?_eq_getElem (by omega)
    generalize hri : (R[i]'(by omega)) = ri at hRi
    obtain ⟨hdst, hdn, hids, hor⟩ := hR i hiK o ri ho hRi; obtain ⟨hno, hnw⟩ := hF i hiK hfree; have hnew0 := hnw ri hRi; have hsh := hs.set hc hsz hi; have hlen := (FO hc ho).1
    have hbits : ∀ j : Nat, ((T[i]?).getD [])[j]? = some true → (Cf K listed)[j]? = some true := by
      intro j hj; have hji : j < i := Nat.lt_of_lt_of_le (List.getElem?_eq_some_iff.1 hj).1 hlen; refine De.2 ⟨by omega, Fk hc hs i o ho hp j hji ?_⟩
      unfold Gb
      rw [List.getD_eq_getElem?_getD, hj]; rfl
    have hb := stM_sub (nx := nx) (bs := Cf K listed) (bs' := (T[i]?).getD []) hnd hid hσ hbits
    have hrr := hr.sub (σ' := DW σ (R.map (·.dst)) nx ((T[i]?).getD []) R) hb.1 (fun k o hk => by
      simp only [St.over, AZ]
      by_cases e : r0 = k
      · exfalso
        subst e; simp only [DW] at hk; rw [BE, hno] at hk; have := hσ _ _ (by simpa using hk); omega
      rw [if_neg e]
      exact hb.2 k o hk) (Nat.le_refl _) rfl rfl
    have ho' : (⟨l⟩ : Array Oper)[i]? = some o := by simpa using ho
    have hstep : ∀ (E' : Env) X' a', Rel C E' X' (((DW σ (R.map (·.dst)) nx (Cf K listed) R).over r0 o0).ext o.dst ri.v ri.new nx) a' → wpAny P .any ⟨l⟩ Q fuel (listed.setIfInBounds i true) a' E'.w := by
      intro E' X' a' hr'; refine ih _ E' X' a' (by simpa using hsz) ?_ hsh ?_ ?_ ?_
      · have := countP_set hsz hlt h1; omega
      · intro k hk; rw [Eg (by omega), if_neg (by omega)]; exact hge k hk
      · rw [Eg (by omega), if_neg (by omega)]; exact hlK
      refine hr'.sub ?_ ?_ (Nat.le_refl _) rfl rfl
      · intro s v hv; simp only [St.ext, hdst, St.over] at hv ⊢; exact slots_step hnd hRi (by omega) s v hv
      intro k ob hv; simp only [St.ext, St.over, hnew0, List.nil_append, AZ] at hv ⊢
      split at hv
      · rename_i e; rw [if_pos e]; exact hv
      rename_i e
      rw [if_neg e]; have := objs_step (nx := nx) (K := K) hid hσ hRi (show i < listed.size by omega) k ob hv; rw [hnew0] at this; exact this
    have hst : ∀ d, o.dst = some d → d < ((DW σ (R.map (·.dst)) nx (Cf K listed) R).over r0 o0).nt := by
      intro d hd; rw [hdst] at hd; simp only [Option.some.injEq] at hd; subst hd; exact hdn
    unfold wpOp
    simp only [ho']
    rcases hor with ⟨hg, hloc⟩ | ⟨hg, hv, hnew⟩
    · rw [hrr.guard hg, if_pos rfl]; refine .inl (hloc C E X a hrr (fun r ob hf hDr => by rw [hnew0] at hf; simp [Aw] at hf) _ _ (fun y E' X' hLP => ?_)); obtain ⟨X'', hr'⟩ := hr.ext hLP o.dst nx hst (fun r ob hf => by rw [hnew0] at hf; simp [Aw] at hf) (Nat.le_refl _); exact hstep E' X'' _ hr'
    rw [hrr.guard hg, if_neg (by simp)]; have hput := hr.put o.dst hst (v := (.lit undef)) (y := undef) (by simp [FV]); refine hstep E X _ ?_; rw [hv, hnew]; exact hput.sub (fun s v h => h) (fun r ob h => h) (Nat.le_refl _) rfl rfl
theorem any_of_late {Q : Exit → Act → World → Prop} {C : Ctx} {oK : Oper} {r0 : Nat} {o0 : Obj} (hc : chk l T (K + 1) = true) (hoK : l[K]? = some oK) (hgK : oK.guard = none) (hRl : R.length = K) (hnd : (R.map (·.dst)).Nodup)
    (hR : ∀ i, i < K → ResOk P l σ (R.map (·.dst)) nx K T R i) (hnx : σ.next + 4 * K ≤ nx) (hσ : ∀ k o, Aw σ.objs k = some o → k < σ.next)
    (hF : ∀ i, i < K → Gb T K i = false → Aw (D9 ((T[i]?).getD []) R) r0 = none ∧ ∀ q, R[i]? = some q → q.new = []) (hr0 : σ.next ≤ r0)
    (hW : ∀ bs : List Bool, (∀ j, Gb T K j = true → bs[j]? = some true) → Writer P (DW σ (R.map (·.dst)) nx bs R) oK ((DW σ (R.map (·.dst)) nx bs R).over r0 o0))
    (hfin : ∀ E X a, Rel C E X ((DW σ (R.map (·.dst)) nx (List.replicate K true) R).over r0 o0) a → wpL P ⟨l⟩ Q (l.drop (K + 1)) a E.w) :
    ∀ (fuel : Nat) (listed : Array Bool) (E : Env) (X : Nat → List Value) (a : Act), listed.size = l.length → (List.range l.length).countP (fun j => !listed.getD j true) = fuel → Shut l listed → (∀ i, K ≤ i → listed.getD i false = false) →
      Rel C E X (DW σ (R.map (·.dst)) nx (Cf K listed) R) a → (∀ r, E.D r → r < σ.next ∨ ∃ j q ob, listed.getD j false = true ∧ R[j]? = some q ∧ Aw q.new r = some ob) →
      wpAny P .any ⟨l⟩ Q fuel listed a E.w := by
  have hKl : K < l.length := (List.getElem?_eq_some_iff.1 hoK).1
  have hid : ∀ (m : Nat) (q : Res), R[m]? = some q → ∀ k o, Aw q.new k = some o → σ.next + 4 * (0 + m) ≤ k ∧ k < σ.next + 4 * (0 + m) + 4 := by
    intro m q hq k o hf
    have hm : m < K := by rw [← hRl]; exact (List.getElem?_eq_some_iff.1 hq).1
    have ho : l[m]? = some l[m] := List.getElem?_eq_getElem (by omega); have := (hR m hm _ q ho hq).2.2.1 k o hf; omega
  intro fuel
  induction fuel with
  | zero =>
    intro listed E X a hsz hcnt hs hge hr hD; have := List.countP_eq_zero.1 hcnt K (by simpa using hKl); rw [Fe (by omega), hge K (Nat.le_refl _)] at this
    simp at this
  | succ fuel ih =>
    intro listed E X a hsz hcnt hs hge hr hD; have hKn : listed.getD K false = false := hge K (Nat.le_refl _); refine ⟨fun hnil => ?_, fun i hi => ?_⟩
    · obtain ⟨j, _, hj⟩ := ready_exists hc hsz hKl hKn; rw [hnil] at hj
      cases hj
    obtain ⟨o, ho, h1, hp⟩ := mem_ready.1 hi; have hlt := (List.getElem?_eq_some_iff.1 ho).1
    have hiK : i ≤ K := by
      rcases Nat.lt_or_ge K i with h | h
      · exfalso
        have hb := ((FO hc ho).2.2 K (by omega)).2 (by omega); have := Fk hc hs i o ho hp K (by omega) hb; rw [hKn] at this
        cases this
      exact h
    have hsh := hs.set hc hsz hi; have hlen := (FO hc ho).1
    have ho' : (⟨l⟩ : Array Oper)[i]? = some o := by simpa using ho
    by_cases hiK2 : i = K
    · -- the store
      subst hiK2; rw [hoK] at ho; simp only [Option.some.injEq] at ho; subst ho
      have hbits : ∀ j, Gb T i j = true → (Cf i listed)[j]? = some true := by
        intro j hj
        have hji : j < i := by
          unfold Gb at hj
          rw [List.getD_eq_getElem?_getD] at hj
          rcases Nat.lt_or_ge j ((T[i]?).getD []).length with h | h
          · omega
          rw [List.getElem?_eq_none h] at hj
          cases hj
        exact De.2 ⟨hji, Fk hc hs i _ hoK hp j hji hj⟩
      unfold wpOp
      simp only [ho']; rw [hr.guard (by rw [hgK]; rfl : B0 (B8 ⟨l⟩) _ oK.guard = some true), if_pos rfl]; refine .inl (hW _ hbits C E X a hr _ _ (fun E' X' a' hr' => ?_)); refine any_of_B (K := i) hc hKl hRl hnd hR hσ hF hr0 hfin fuel _ E' X' a' (by simpa using hsz) ?_ hsh ?_ ?_ ?_
      · have := countP_set hsz hlt h1; omega
      · intro k hk; rw [Eg (by omega), if_neg (by omega)]; exact hge k (by omega)
      · rw [Eg (by omega), if_pos rfl]
      have hb := stM_sub (nx := nx) (bs := Cf i listed) (bs' := Cf i (listed.setIfInBounds i true)) hnd hid hσ (fun j hj => by
        obtain ⟨g1, g2⟩ := De.1 hj; rw [Eg (by omega), if_neg (by omega)] at g2
        exact De.2 ⟨g1, g2⟩)
      refine hr'.sub hb.1 (fun k ob hk => ?_) (Nat.le_refl _) rfl rfl; simp only [St.over, AZ] at hk ⊢
      split at hk
      · rename_i e; rw [if_pos e]; exact hk
      rename_i e; rw [if_neg e]; exact hb.2 k ob hk
    have hiK : i < K := by omega
    have hRi : R[i]? = some (R[i]'(by omega)) := List.getElem?_eq_getElem (by omega)
    generalize hri : (R[i]'(by omega)) = ri at hRi
    obtain ⟨hdst, hdn, hids, hor⟩ := hR i hiK o ri ho hRi
    have hbits : ∀ j : Nat, ((T[i]?).getD [])[j]? = some true → (Cf K listed)[j]? = some true := by
      intro j hj; have hji : j < i := Nat.lt_of_lt_of_le (List.getElem?_eq_some_iff.1 hj).1 hlen; refine De.2 ⟨by omega, Fk hc hs i o ho hp j hji ?_⟩
      unfold Gb
      rw [List.getD_eq_getElem?_getD, hj]; rfl
    have hb := stM_sub (nx := nx) (bs := Cf K listed) (bs' := (T[i]?).getD []) hnd hid hσ hbits; have hrr := hr.sub (σ' := DW σ (R.map (fun r : Res => r.dst)) nx ((T[i]?).getD []) R) hb.1 hb.2 (Nat.le_refl _) rfl rfl
    have hstep : ∀ (E' : Env) X' a', Rel C E' X' ((DW σ (R.map (fun r : Res => r.dst)) nx (Cf K listed) R).ext o.dst ri.v ri.new nx) a' → (∀ r, E'.D r → E.D r ∨ ∃ ob, Aw ri.new r = some ob) →
        wpAny P .any ⟨l⟩ Q fuel (listed.setIfInBounds i true) a' E'.w := by
      intro E' X' a' hr' hD'; refine ih _ E' X' a' (by simpa using hsz) ?_ hsh ?_ ?_ ?_
      · have := countP_set hsz hlt h1; omega
      · intro k hk; rw [Eg (by omega), if_neg (by omega)]; exact hge k hk
      · refine hr'.sub ?_ ?_ (Nat.le_refl _) rfl rfl
        · intro s v hv; simp only [St.ext, hdst] at hv ⊢; exact slots_step hnd hRi (by omega) s v hv
        · intro k ob hv; simp only [St.ext] at hv ⊢; exact objs_step (nx := nx) (K := K) hid hσ hRi (show i < listed.size by omega) k ob hv
      · intro r hr2
        rcases hD' r hr2 with h | ⟨ob, h⟩
        · rcases hD r h with h | ⟨j, q, ob, k1, k2, k3⟩
          · exact .inl h
          · refine .inr ⟨j, q, ob, ?_, k2, k3⟩; rw [Eg (by omega)]
            split
            · rfl
            · exact k1
        · exact .inr ⟨i, ri, ob, by rw [Eg (by omega), if_pos rfl], hRi, h⟩
    have hst : ∀ d, o.dst = some d → d < (DW σ (R.map (fun r : Res => r.dst)) nx (Cf K listed) R).nt := by
      intro d hd; rw [hdst] at hd; simp only [Option.some.injEq] at hd; subst hd; exact hdn
    unfold wpOp
    simp only [ho']
    rcases hor with ⟨hg, hloc⟩ | ⟨hg, hv, hnew⟩
    · rw [hrr.guard hg, if_pos rfl]; refine .inl (hloc C E X a hrr (fun r ob hf hDr => ?_) _ _ (fun y E' X' hLP => ?_))
      · have r1 := hid i ri hRi r ob hf
        rcases hD r hDr with h | ⟨j, q, ob', k1, k2, k3⟩
        · omega
        have r2 := hid j q k2 r ob' k3
        have hji : j = i := by omega
        subst hji
        have : listed.getD j true = true := by rw [Fe (by omega)]; exact k1
        rw [h1] at this
        cases this
      obtain ⟨X'', hr'⟩ := hr.ext hLP o.dst nx hst (fun r ob hf => by have := hid i ri hRi r ob hf; omega) (Nat.le_refl _); exact hstep E' X'' _ hr' hLP.dom
    rw [hrr.guard hg, if_neg (by simp)]; have hput := hr.put o.dst hst (v := (.lit undef)) (y := undef) (by simp [FV]); refine hstep E X _ ?_ (fun r hr => .inl hr); rw [hv, hnew]; exact hput.sub (fun s v h => h) (fun r ob h => h) (Nat.le_refl _) rfl rfl
end late
def drawOkL (l : List Oper) (T : List (List Bool)) (σ : St) (K : Nat) : Bool :=
  chk l T (K + 1) && Nat.ble (K + 1) l.length && (let ds := Dp (l.take K); disj ds σ.slots && decide ds.Nodup && ds.all (fun d => Nat.blt d σ.nt))
def LateOk (P : Program) (l : List Oper) (T : List (List Bool)) (σ : St) (nx K : Nat) (Q : St → Prop) (rest : List Oper) (R : List Res) : Prop :=
  ∃ oK rest' r0 o0, rest = oK :: rest' ∧ oK.guard = none ∧ σ.next ≤ r0 ∧ (∀ i, i < K → Gb T K i = false → Aw (D9 ((T[i]?).getD []) R) r0 = none ∧ ∀ q, R[i]? = some q → q.new = []) ∧
    (∀ bs : List Bool, (∀ j, Gb T K j = true → bs[j]? = some true) → Writer P (EE σ nx bs R) oK ((EE σ nx bs R).over r0 o0)) ∧ SeqL P ⟨l⟩ rest' ((stAll σ nx R).over r0 o0) Q
theorem Ev.drawL {P : Program} {Q : Exit → St → Prop} {id : Nat} {l : List Oper} (T : List (List Bool)) (K : Nat) (hm : P.follows .mixedOrders = true) (hok : drawOkL l T σ K = true) (hTl : K ≤ T.length)
    (h : ∀ Kt : St → Prop, (∀ σ', Q .normal σ' → Kt σ') → Gi P l (B8 ⟨l⟩) σ (σ.next + 4 * K) (LateOk P l T σ (σ.next + 4 * K) K Kt) l (T.take K) []) : Ev P (.region id ⟨l⟩ true) σ Q := by
  simp only [drawOkL, Bool.and_eq_true, decide_eq_true_eq, List.all_eq_true] at hok; obtain ⟨⟨hc, hKl⟩, ⟨hdj, hnd⟩, hdn⟩ := hok; have hKl : K < l.length := Nat.le_of_ble_eq_true hKl
  have hTK : (T.take K).length = K := by simp; omega
  obtain ⟨S, h1, h2, h3⟩ := drawF_spec l (T.take K) [] (h (Q .normal) (fun _ h => h)) (fun i hi => by
    have hiK : i < K := by omega
    have ho : l[i]? = some l[i] := List.getElem?_eq_getElem (by omega); have := (FO hc ho).1; have e : T[i]? = some T[i] := List.getElem?_eq_getElem (by omega); rw [e] at this
    simpa using this)
  simp only [List.nil_append, List.length_nil, Nat.zero_add] at h2 h3; rw [hTK] at h1 h2 h3
  have hds : S.map (·.dst) = Dp (l.take K) := by
    have key : ∀ (n : Nat) (l' : List Oper) (S' : List Res), S'.length = n → l'.length = n → (∀ i, i < n → ∃ o r, l'[i]? = some o ∧ S'[i]? = some r ∧ o.dst = some r.dst) → S'.map (·.dst) = Dp l' := by
      intro n
      induction n with
      | zero =>
        intro l' S' e1 e2 _; rw [List.eq_nil_of_length_eq_zero e1, List.eq_nil_of_length_eq_zero e2]; rfl
      | succ n ih =>
        intro l' S' e1 e2 hh
        match l', S', e1, e2 with
        | o :: l', r :: S', e1, e2 =>
          obtain ⟨o0, r0, k1, k2, k3⟩ := hh 0 (by omega); simp only [List.getElem?_cons_zero, Option.some.injEq] at k1 k2; subst k1 k2; simp only [List.map_cons, Dp, k3]
          rw [ih l' S' (by simpa using e1) (by simpa using e2) (fun i hi => by
            obtain ⟨o1, r1, j1, j2, j3⟩ := hh (i + 1) (by omega)
            exact ⟨o1, r1, by simpa using j1, by simpa using j2, j3⟩)]
    refine key K (l.take K) S h1 (by simp; omega) (fun i hi => ?_); obtain ⟨o, r, k1, k2, k3, _⟩ := h3 i hi; exact ⟨o, r, by rw [List.getElem?_take, if_pos hi]; exact k1, k2, k3⟩
  have hst : ∀ bs, DW σ (S.map (·.dst)) (σ.next + 4 * K) bs S = EE σ (σ.next + 4 * K) bs S := by
    intro bs; simp only [DW, EE, hds, hide_disj hdj]
  intro C E X a hr; refine wp_region_any hm ?_; have hr' := hr.drew; have hσ : ∀ k o, Aw σ.objs k = some o → k < σ.next := fun k o hk => hr.fresh k (hr.objs k o hk).1
  have hR : ∀ i, i < K → ResOk P l σ (S.map (·.dst)) (σ.next + 4 * K) K T S i := by
    intro i hi o r ho hSr; obtain ⟨o', r', k1, k2, k3, k4, k5⟩ := h3 i hi; rw [ho] at k1; rw [hSr] at k2; simp only [Option.some.injEq] at k1 k2; subst k1 k2; refine ⟨k3, ?_, fun k ob hf => F8 k4 k ob hf, ?_⟩
    · have : r.dst ∈ Dp (l.take K) := by rw [← hds]; exact List.mem_map.2 ⟨r, List.mem_of_getElem? hSr, rfl⟩
      exact Nat.le_of_ble_eq_true (hdn _ this)
    rw [hst]
    have e : ((T.take K)[i]?).getD [] = (T[i]?).getD [] := by rw [List.getElem?_take, if_pos hi]
    rw [e] at k5; exact k5
  have hall : DW σ (S.map (·.dst)) (σ.next + 4 * K) (List.replicate K true) S = stAll σ (σ.next + 4 * K) S := by
    rw [hst]; simp only [EE, stAll]; rw [← h1, slotsM_all, objsM_all]
  obtain ⟨oK, rest', r0, o0, g1, g2, g3, g4, g5, g6⟩ := h2
  have hoK : l[K]? = some oK := by
    have := congrArg List.head? g1
    simpa [List.head?_drop] using this
  have hrest : l.drop (K + 1) = rest' := by
    rw [← List.drop_drop, g1]; rfl
  have hgoal := any_of_late (P := P) (nx := σ.next + 4 * K) (C := C) (Q := fun e a' w' => ∃ E' X' σ', E'.w = w' ∧ Rel C E' X' σ' a' ∧ Q e σ') hc hoK g2 h1 (by rw [hds]; exact hnd) hR (Nat.le_refl _) hσ g4 g3 (fun bs hbs => by
      rw [hst]
      exact g5 bs hbs) (fun E X a hr2 => by
      rw [hall] at hr2; rw [hrest]
      exact g6 C E X a hr2 _ (fun E' X' σ' a' hr3 hq => ⟨E', X', σ', rfl, hr3, hq⟩))
    l.length (Array.replicate l.length false) { E with w := E.w.drew } X a (by simp) ?_ ?_ ?_ ?_ ?_
  · simpa using hgoal
  · have : ∀ n, n ≤ l.length → (List.range n).countP (fun j => !(Array.replicate l.length false).getD j true) = n := by
      intro n
      induction n with
      | zero => intro _; simp
      | succ n ih =>
        intro hn; rw [List.range_succ, List.countP_append, ih (by omega), List.countP_singleton]
        simp [Array.getD, show n < l.length by omega]
    exact this _ (Nat.le_refl _)
  · intro i o _ hl
    simp [Array.getD] at hl
  · intro i _
    simp [Array.getD]
  · have hb : ∀ j : Nat, (Cf K (Array.replicate l.length false))[j]? ≠ some true := by
      intro j hj; have := (De.1 hj).2
      simp [Array.getD] at this
    refine hr'.sub ?_ ?_ (by simp [DW]) rfl rfl
    · intro s v hv; simp only [DW, hds, hide_disj hdj] at hv; rw [BE] at hv
      cases g : Aw (D4 (Cf K (Array.replicate l.length false)) S) s with
      | some u =>
        obtain ⟨j, r, g1, _⟩ := Ek _ S s u g; exact absurd g1 (hb j)
      | none => rw [g] at hv; simpa using hv
    intro k o hv; simp only [DW] at hv; rw [BE] at hv
    cases g : Aw (D9 (Cf K (Array.replicate l.length false)) S) k with
    | some u =>
      obtain ⟨j, r, g1, _⟩ := Et _ S k u g; exact absurd g1 (hb j)
    | none => rw [g] at hv; simpa using hv
  intro r hD; exact .inl (hr.fresh r hD)
end
section
variable {K : Nat} {P : Program} {id : Nat} {l : List Oper} {nx : Nat} {v : AV} {σ : St}
def bitsL : Nat → Nat → List Bool
  | 0, _ => []
  | k + 1, m => Nat.beq (m % 2) 1 :: bitsL k (m / 2)
def C8 : List (Nat × Nat) → List (List Bool)
  | [] => []
  | p :: l => bitsL p.1 p.2 :: C8 l
def Ee : Op → Option (List Operand)
  | .alloc _ => some []
  | .box _ x => some [x]
  | .buildSlice _ _ parts => some (parts.toList.map (·.2))
  | .lookup _ x i _ => some [x, i]
  | .makeSlice _ x y => some [x, y]
  | .entry x => some [x]
  | op => Du op
def Ext (b b' : List (Nat × Obj)) : Prop := ∀ r o, Aw b r = some o → Aw b' r = some o
section mono
variable {P : Program} {σ σ' : St}
theorem cellsFrom_mono (h : Ext σ.objs σ'.objs) {cs : List AV} (hv : D5 σ v = some cs) : D5 σ' v = some cs := by
  cases v <;> simp only [D5] at hv ⊢ <;> try exact hv
  case adr r i j =>
    simp only [Option.bind_eq_some_iff] at hv ⊢; obtain ⟨o, ho, hv⟩ := hv; exact ⟨o, h r o ho, hv⟩
theorem loadAV_mono (h : Ext σ.objs σ'.objs) {t : TypeId} {v u : AV} (hv : G3 P σ t v = some u) : G3 P σ' t v = some u := by
  unfold G3 at hv ⊢
  cases hc : D5 σ v with
  | none => rw [hc] at hv; split at hv <;> simp_all
  | some cs => rw [hc] at hv; rw [cellsFrom_mono h hc]; exact hv
theorem indexAV_mono (h : Ext σ.objs σ'.objs) {sz : Nat} {v u : AV} {n : Int} (hv : FE σ sz v n = some u) : FE σ' sz v n = some u := by
  cases v <;> simp only [FE] at hv ⊢ <;> try exact hv
  case als r lo m =>
    simp only [Option.bind_eq_some_iff] at hv ⊢; obtain ⟨o, ho, hv⟩ := hv; exact ⟨o, h r o ho, hv⟩
mutual
theorem viewAV_mono (h : Ext σ.objs σ'.objs) : ∀ {v u : AV}, Cn σ v = some u → Cn σ' v = some u
  | .als r lo n, u, hv => by
    simp only [Cn, Option.bind_eq_some_iff] at hv ⊢; obtain ⟨o, ho, hv⟩ := hv; exact ⟨o, h r o ho, hv⟩
  | .adr r i j, u, hv => by
    simp only [Cn, Option.bind_eq_some_iff] at hv ⊢; obtain ⟨o, ho, hv⟩ := hv; exact ⟨o, h r o ho, hv⟩
  | .agg cs, u, hv => by
    simp only [Cn, Option.map_eq_some_iff] at hv ⊢; obtain ⟨cs', hc, rfl⟩ := hv; exact ⟨cs', viewL_mono h hc, rfl⟩
  | .tup cs, u, hv => by
    simp only [Cn, Option.map_eq_some_iff] at hv ⊢; obtain ⟨cs', hc, rfl⟩ := hv; exact ⟨cs', viewL_mono h hc, rfl⟩
  | .fn f first caps, u, hv => by
    simp only [Cn] at hv ⊢
    split at hv
    · rename_i x y h1 h2
      rw [viewL_mono h h1, viewL_mono h h2]; exact hv
    · cases hv
  | .top, u, hv => hv
  | .lit v, u, hv => hv
  | .sh s rows, u, hv => hv
  | .sadr row j, u, hv => hv
  | .hd r, u, hv => by
    simp only [Cn, Option.bind_eq_some_iff] at hv ⊢; obtain ⟨o, ho, hv⟩ := hv; exact ⟨o, h r o ho, hv⟩
  | .shm s rows, u, hv => hv
  | .rem s la rows, u, hv => hv
theorem viewL_mono (h : Ext σ.objs σ'.objs) : ∀ {l m : List AV}, DX σ l = some m → DX σ' l = some m
  | [], m, hv => hv
  | c :: cs, m, hv => by
    simp only [DX] at hv ⊢
    split at hv
    · rename_i x y h1 h2
      rw [viewAV_mono h h1, viewL_mono h h2]; exact hv
    · cases hv
end
theorem mapRows_mono (h : Ext σ.objs σ'.objs) {q : Nat × List (List AV)} (hv : F0 σ v = some q) : F0 σ' v = some q := by
  cases v <;> try (simp [F0] at hv; done)
  · simp only [F0, Option.bind_eq_some_iff] at hv ⊢; obtain ⟨o, ho, hv⟩ := hv; exact ⟨o, h _ o ho, hv⟩
  exact hv
theorem iterAV_mono (h : Ext σ.objs σ'.objs) {q : AV × List AV} (hv : iterAV σ v = some q) : iterAV σ' v = some q := by
  cases v <;> try (simp [iterAV] at hv; done)
  simp only [iterAV, Option.bind_eq_some_iff] at hv ⊢; obtain ⟨o, ho, hv⟩ := hv; exact ⟨o, h _ o ho, hv⟩
theorem stepQ_mono {op : Op} {xs : List Operand} {new : List (Nat × Obj)} (hx : Ee op = some xs) (ho : Ext σ.objs σ'.objs) (he : ∀ x ∈ xs, σ'.ev x = σ.ev x) (hq : Az P σ id op = some (v, new)) : Az P σ' id op = some (v, new) := by
  cases op <;> try (simp [Ee, Du] at hx; done)
  case slice t x lo hi mx =>
    cases mx with
    | some m => simp [Ee, Du] at hx
    | none =>
      simp only [Ee, Du, Option.some.injEq] at hx; subst hx; have e1 := he x (by simp)
      have e2 : ∀ d, Dm σ' d lo = Dm σ d lo := by
        intro d
        cases lo with
        | none => rfl
        | some l => simp [Dm, he l (by simp)]
      have e3 : ∀ d, Dm σ' d hi = Dm σ d hi := by
        intro d
        cases hi with
        | none => rfl
        | some l => simp [Dm, he l (by simp)]
      have e4 : Fs σ' lo = Fs σ lo := by
        cases lo with
        | none => rfl
        | some l => simp [Fs, he l (by simp)]
      have e5 : Fs σ' hi = Fs σ hi := by
        cases hi with
        | none => rfl
        | some l => simp [Fs, he l (by simp)]
      simp only [Az, e1, e2, e3, e4, e5] at hq ⊢
      split at hq
      · obtain ⟨hb, hq⟩ := GG hq; rw [hb]; simp only [cond_false]; simp only [Option.bind_eq_some_iff] at hq ⊢; obtain ⟨n, hn, l, hl, hh, hhi, hq⟩ := hq; refine ⟨n, hn, l, hl, hh, hhi, ?_⟩
        split at hq
        · simp only [Option.bind_eq_some_iff] at hq ⊢; obtain ⟨o, hob, hq⟩ := hq; exact ⟨o, ho _ o hob, hq⟩
        · exact hq
        cases hq
      exact hq
  case call c =>
    obtain ⟨callee, as, ts⟩ := c
    cases callee <;> try (simp [Ee, Du] at hx; done)
    case builtin b =>
      simp only [Ee, Du, Option.some.injEq] at hx; subst hx; have hm : as.toList.map σ'.ev = as.toList.map σ.ev := List.map_congr_left fun y hy => he y hy; simp only [Az] at hq ⊢
      cases b <;> try (simp [BT] at hq; done)
      case len =>
        simp only [BT] at hq ⊢
        split at hq
        · rename_i x t hxx htt
          have : σ'.ev x = σ.ev x := he x (by rw [hxx]; simp); rw [this]
          split at hq
          · exact hq
          rename_i hel
          rw [hm]
          split at hq
          · rename_i q hq0
            rw [mapRows_mono ho hq0]; exact hq
          rename_i hq0
          split
          · rename_i q hq1
            exfalso
            obtain ⟨z, h1, _⟩ := Df hq; simp only [Option.bind_eq_some_iff] at h1; obtain ⟨l, h2, _⟩ := h1; rw [hxx] at h2; simp only [List.map_cons, List.map_nil, CU] at h2
            cases hv : σ.ev x <;> simp [hv, F0, Cq] at hq0 hq1 h2
          exact hq
        cases hq
      case cap =>
        simp only [BT] at hq ⊢
        split at hq
        · rename_i x t hxx htt
          have : σ'.ev x = σ.ev x := he x (by rw [hxx]; simp); rw [this]; exact hq
        cases hq
      case unsafeSliceData =>
        simp only [BT] at hq ⊢
        split at hq
        · rename_i x hxx
          have : σ'.ev x = σ.ev x := he x (by rw [hxx]; simp); rw [this]; exact hq
        cases hq
      case max => simp only [BT, hm] at hq ⊢; exact hq
      case min => simp only [BT, hm] at hq ⊢; exact hq
    all_goals (simp [Az] at hq)
  case load t x =>
    simp only [Ee, Du, Option.some.injEq] at hx; subst hx; have e1 := he x (by simp); simp only [Az, e1] at hq ⊢; obtain ⟨h1, rfl⟩ := CE hq; rw [loadAV_mono ho h1]; rfl
  case indexAddr t x i =>
    simp only [Ee, Du, Option.some.injEq] at hx; subst hx; have e1 := he x (by simp); have e2 := he i (by simp); simp only [Az, e1, e2] at hq ⊢
    split at hq
    · split at hq
      · obtain ⟨hb, hq⟩ := GG hq; rw [hb]; obtain ⟨h1, rfl⟩ := CE hq; rw [indexAV_mono ho h1]; rfl
      exact hq
    cases hq
  case build t parts =>
    simp only [Ee, Du, Option.some.injEq] at hx; subst hx
    have hm : (parts.toList.map fun p => (p.1, σ'.ev p.2)) = (parts.toList.map fun p => (p.1, σ.ev p.2)) := List.map_congr_left fun p hp => by rw [he p.2 (List.mem_map.2 ⟨p, hp, rfl⟩)]
    simp only [Az, hm] at hq ⊢; exact hq
  case buildSlice t len parts =>
    simp only [Ee, Option.some.injEq] at hx; subst hx
    have hm : (parts.toList.map fun p => (p.1, σ'.ev p.2)) = (parts.toList.map fun p => (p.1, σ.ev p.2)) := List.map_congr_left fun p hp => by rw [he p.2 (List.mem_map.2 ⟨p, hp, rfl⟩)]
    simp only [Az, hm] at hq ⊢; exact hq
  case makeFunc f first caps =>
    simp only [Ee, Du, Option.some.injEq] at hx; subst hx; have h1 : first.toList.map σ'.ev = first.toList.map σ.ev := List.map_congr_left fun y hy => he y (by simp [hy]); have h2 : caps.toList.map σ'.ev = caps.toList.map σ.ev := List.map_congr_left fun y hy => he y (by simp [hy]); simp only [Az, h1, h2] at hq ⊢; exact hq
  case alloc t => simpa only [Az] using hq
  case makeSlice t x y =>
    simp only [Ee, Option.some.injEq] at hx; subst hx; have e1 := he x (by simp); have e2 := he y (by simp); simp only [Az, e1, e2] at hq ⊢; exact hq
  case entry x =>
    simp only [Ee, Option.some.injEq] at hx; subst hx; have e1 := he x (by simp); simp only [Az, e1, Option.bind_eq_some_iff] at hq ⊢; obtain ⟨p, h1, h⟩ := hq; exact ⟨p, iterAV_mono ho h1, h⟩
  case lookup t x i ok =>
    simp only [Ee, Option.some.injEq] at hx; subst hx; have e1 := he x (by simp); have e2 := he i (by simp); simp only [Az, e1, e2, Option.bind_eq_some_iff] at hq ⊢; obtain ⟨p, h1, q, h2, h⟩ := hq; exact ⟨p, h1, q, mapRows_mono ho h2, h⟩
  all_goals
    simp only [Ee, Du, Option.some.injEq] at hx; subst hx; simp only [List.mem_cons, List.not_mem_nil, or_false, forall_eq_or_imp, forall_eq] at he; simp only [Az, he] at hq ⊢; exact hq
end mono
def readsChkM (l : List Oper) (T : List (List Bool)) (K : Nat) : Bool :=
  (List.range K).all fun i => match l[i]? with
    | none => true
    | some o => (match Ee o.op with
      | none => false
      | some xs => xs.all (okX (Dp (l.take i)) ((T[i]?).getD []))) &&
      (match o.guard with
      | none => true
      | some (j, _) => match (B8 ⟨l⟩)[j]? with
        | some (some d) => okT (Dp (l.take i)) ((T[i]?).getD []) d
        | _ => true)
def QuietM (P : Program) (σ : St) (o : Oper) (v : AV) : Prop := ∀ σ' xs, Ee o.op = some xs → Ext σ.objs σ'.objs → (∀ x ∈ xs, σ'.ev x = σ.ev x) → Local P σ' o v []
def QuietN (P : Program) (σ : St) (o : Oper) (v : AV) (new : List (Nat × Obj)) : Prop := ∀ σ' xs, Ee o.op = some xs → Ext σ.objs σ'.objs → (∀ x ∈ xs, σ'.ev x = σ.ev x) → Local P σ' o v new
inductive DM (P : Program) (l : List Oper) (T : List (List Bool)) (nx : Nat) (F : List Oper → Nat → St → List (Nat × Obj) → Prop) : List Oper → Nat → Nat → St → List (Nat × Obj) → Prop
  | stop {rest : List Oper} {i : Nat} {σ : St} {N : List (Nat × Obj)} (h : F rest i σ N) : DM P l T nx F rest 0 i σ N
  | op {o : Oper} {rest : List Oper} {n i d : Nat} {σ : St} {N new : List (Nat × Obj)} {v : AV} (hd : o.dst = some d) (hg : B0 (B8 ⟨l⟩) σ o.guard = some true) (hq : Az P σ (σ.next + 4 * i) o.op = some (v, new))
      (h : DM P l T nx F rest n (i + 1) (σ.put (some d) v) (N ++ new)) : DM P l T nx F (o :: rest) (n + 1) i σ N
  | opN {o : Oper} {rest : List Oper} {n i d : Nat} {σ : St} {N new : List (Nat × Obj)} {v : AV} (hd : o.dst = some d) (hg : B0 (B8 ⟨l⟩) σ o.guard = some true) (hb : (N.all fun p => Gb T i ((p.1 - σ.next) / 4)) = true)
      (hq : Az P { σ with objs := N ++ σ.objs } (σ.next + 4 * i) o.op = some (v, new)) (h : DM P l T nx F rest n (i + 1) (σ.put (some d) v) (N ++ new)) : DM P l T nx F (o :: rest) (n + 1) i σ N
  | call {o : Oper} {rest : List Oper} {n i d : Nat} {σ : St} {N : List (Nat × Obj)} {v : AV} {x : Operand} {as : Array Operand} {ts : Array TypeId} (hd : o.dst = some d) (hg : B0 (B8 ⟨l⟩) σ o.guard = some true)
      (ho : o.op = .call { callee := .value x, args := as, argTypes := ts }) (hq : QuietM P σ o v) (h : DM P l T nx F rest n (i + 1) (σ.put (some d) v) N) : DM P l T nx F (o :: rest) (n + 1) i σ N
  | callN {o : Oper} {rest : List Oper} {n i d : Nat} {σ : St} {N new : List (Nat × Obj)} {v : AV} {x : Operand} {as : Array Operand} {ts : Array TypeId} (hd : o.dst = some d) (hg : B0 (B8 ⟨l⟩) σ o.guard = some true)
      (ho : o.op = .call { callee := .value x, args := as, argTypes := ts }) (hid : Gv (σ.next + 4 * i) new) (hq : QuietN P σ o v new) (h : DM P l T nx F rest n (i + 1) (σ.put (some d) v) (N ++ new)) : DM P l T nx F (o :: rest) (n + 1) i σ N
  | skip {o : Oper} {rest : List Oper} {n i d : Nat} {σ : St} {N : List (Nat × Obj)} (hd : o.dst = some d) (hg : B0 (B8 ⟨l⟩) σ o.guard = some false) (h : DM P l T nx F rest n (i + 1) (σ.put (some d) (.lit undef)) N) : DM P l T nx F (o :: rest) (n + 1) i σ N
def endD (P : Program) (l : List Oper) (nx : Nat) (Q : St → Prop) (rest : List Oper) (i : Nat) (σ : St) (N : List (Nat × Obj)) : Prop := SeqL P ⟨l⟩ rest { σ with next := nx, objs := N ++ σ.objs } Q
def lateD (P : Program) (l : List Oper) (T : List (List Bool)) (nx : Nat) (Q : St → Prop) (rest : List Oper) (i : Nat) (σ : St) (N : List (Nat × Obj)) : Prop :=
  ∃ (oK : Oper) (rest' : List Oper) (t : TypeId) (x y : Operand) (r ri rj : Nat) (ob : Obj) (u : AV) (row cs : List AV), rest = oK :: rest' ∧ oK.op = .store t x y ∧ oK.dst = none ∧ oK.guard = none ∧ (∃ i, P.info? t = some i) ∧
    ([x, y].all (okX (Dp (l.take i)) ((T[i]?).getD []))) = true ∧ Ba σ.slots x = some (.adr r ri rj) ∧ Ba σ.slots y = some u ∧ Aw N r = some ob ∧ ob.rows[ri]? = some row ∧ Di u = some cs ∧ (Nat.ble (rj + cs.length) row.length && Nat.beq cs.length (P.cellsOf t)) = true ∧
    Gb T i ((r - σ.next) / 4) = true ∧ ((List.range i).all fun j => Gb T i j || (!(Gb T j ((r - σ.next) / 4)) && N.all fun p => !(Nat.beq ((p.1 - σ.next) / 4) j))) = true ∧
    SeqL P ⟨l⟩ rest' { σ with next := nx, objs := (r, { ob with rows := ob.rows.set ri (splice row rj cs), cl := ob.cl && BQ cs }) :: (N ++ σ.objs) } Q
def keysLt (n : Nat) : List (Nat × Obj) → Bool
  | [] => true
  | p :: l => Nat.blt p.1 n && keysLt n l
theorem keysLt_find {n : Nat} : ∀ {l : List (Nat × Obj)}, keysLt n l = true → ∀ r o, Aw l r = some o → r < n
  | [], _, r, o, h => by simp [Aw] at h
  | (k, u) :: l, h, r, o, hf => by
    simp only [keysLt, Bool.and_eq_true] at h; rw [AZ] at hf
    split at hf
    · rename_i e
      subst e; exact Nat.le_of_ble_eq_true h.1
    · exact keysLt_find h.2 r o hf
theorem find_flat : ∀ (R : List Res) (k : Nat) (o : Obj), Aw (R.flatMap (·.new)) k = some o → ∃ (j : Nat) (r : Res), R[j]? = some r ∧ Aw r.new k = some o
  | [], k, o, h => by simp [Aw] at h
  | r :: R, k, o, h => by
    rw [List.flatMap_cons, BE] at h
    cases hf : Aw r.new k with
    | some o' =>
      rw [hf] at h; simp only [Option.some_or, Option.some.injEq] at h; exact ⟨0, r, rfl, by rw [hf, h]⟩
    | none =>
      rw [hf] at h; obtain ⟨j, r', h1, h2⟩ := find_flat R k o (by simpa using h); exact ⟨j + 1, r', by simpa using h1, h2⟩
theorem find_mem {T : Type} : ∀ {l : List (Nat × T)} {k : Nat} {o : T}, Aw l k = some o → ∃ p ∈ l, p.1 = k
  | [], k, o, h => by simp [Aw] at h
  | p :: l, k, o, h => by
    rw [AZ] at h
    split at h
    · exact ⟨p, by simp, by assumption⟩
    · obtain ⟨q, hq, e⟩ := find_mem h; exact ⟨q, by simp [hq], e⟩
theorem DM_F {F : List Oper → Nat → St → List (Nat × Obj) → Prop} {Fin : List Oper → List Res → Prop} {T : List (List Bool)} (hch : readsChkM l T K = true) (hnd : (Dp (l.take K)).Nodup) (hKT : K ≤ T.length) (hKl : K ≤ l.length) (hkb : keysLt σ.next σ.objs = true)
    (hfin : ∀ (rest : List Oper) (σc : St) (N : List (Nat × Obj)) (R : List Res), R.length = K → l.drop K = rest → σc.slots = (R.map fun r => (r.dst, r.v)).reverse ++ σ.slots → σc.objs = σ.objs → σc.nt = σ.nt → σc.env = σ.env → σc.next = σ.next → N = R.flatMap (·.new) → R.map (·.dst) = Dp (l.take R.length) → (∀ j r, R[j]? = some r → Gv (σ.next + 4 * j) r.new) → F rest K σc N → Fin rest R) :
    ∀ {rest : List Oper} {n i : Nat} {σc : St} {N : List (Nat × Obj)}, DM P l T nx F rest n i σc N → ∀ (R : List Res), n + R.length = K → i = R.length → l.drop R.length = rest → σc.slots = (R.map fun r => (r.dst, r.v)).reverse ++ σ.slots → σc.objs = σ.objs → σc.nt = σ.nt → σc.env = σ.env → σc.next = σ.next →
      N = R.flatMap (·.new) → R.map (·.dst) = Dp (l.take R.length) → (∀ j r, R[j]? = some r → Gv (σ.next + 4 * j) r.new) → Gi P l (B8 ⟨l⟩) σ nx Fin rest ((T.take K).drop R.length) R := by
  intro rest n i σc N hdm
  have common : ∀ (o : Oper) (rest : List Oper) (n : Nat) (R : List Res) (σc : St), n + 1 + R.length = K → l.drop R.length = o :: rest → σc.slots = (R.map fun r => (r.dst, r.v)).reverse ++ σ.slots → σc.objs = σ.objs → R.map (·.dst) = Dp (l.take R.length) → (∀ j r, R[j]? = some r → Gv (σ.next + 4 * j) r.new) →
      ∃ bs, bs = (T[R.length]?).getD [] ∧ (T.take K).drop R.length = bs :: (T.take K).drop (R.length + 1) ∧ l.drop (R.length + 1) = rest ∧ (∃ xs, Ee o.op = some xs ∧ ∀ x ∈ xs, (EE σ nx bs R).ev x = σc.ev x) ∧ Ext σc.objs (EE σ nx bs R).objs ∧ B0 (B8 ⟨l⟩) (EE σ nx bs R) o.guard = B0 (B8 ⟨l⟩) σc o.guard ∧
        ∀ d v new, o.dst = some d → (R ++ [(⟨d, v, new⟩ : Res)]).map (·.dst) = Dp (l.take (R.length + 1)) := by
    intro o rest n R σc hn hl hs ho hds hids
    have hlt : R.length < K := by omega
    have hlo : l[R.length]? = some o := by
      have := congrArg List.head? hl
      simpa [List.head?_drop] using this
    have hlr : l.drop (R.length + 1) = rest := by
      rw [← List.drop_drop, hl]; rfl
    have hTd : (T.take K).drop R.length = (T[R.length]?).getD [] :: (T.take K).drop (R.length + 1) := by
      have hlt' : R.length < (T.take K).length := by simp; omega
      rw [List.drop_eq_getElem_cons hlt']
      congr 1
      rw [List.getElem_take, List.getElem?_eq_getElem (by omega), Option.getD_some]
    refine ⟨(T[R.length]?).getD [], rfl, hTd, hlr, ?_⟩
    generalize hbs : (T[R.length]?).getD [] = bs
    have hck : (match Ee o.op with
        | none => false
        | some xs => xs.all (okX (Dp (l.take R.length)) bs)) = true ∧ (match o.guard with
        | none => true
        | some (j, _) => match (B8 ⟨l⟩)[j]? with
          | some (some d) => okT (Dp (l.take R.length)) bs d
          | _ => true) = true := by
      unfold readsChkM at hch
      rw [List.all_eq_true] at hch; have := hch R.length (by simpa using hlt); rw [hlo] at this; simp only [Bool.and_eq_true, hbs] at this; exact this
    have hRnd : (R.map (·.dst)).Nodup := by
      rw [hds]; have : (Dp (l.take K)).Nodup := hnd; rw [show K = R.length + (K - R.length) by omega, List.take_add, dstsL_append] at this; exact (List.nodup_append.1 this).1
    have hev : ∀ t, okT (R.map (·.dst)) bs t = true → (EE σ nx bs R).get t = σc.get t := by
      intro t hok
      unfold St.get
      simp only [EE, hs]
      by_cases hm : t ∈ R.map (·.dst)
      · obtain ⟨r, hr, rfl⟩ := List.mem_map.1 hm; obtain ⟨j, hj⟩ := List.mem_iff_getElem?.1 hr; rw [find_rev R σ.slots r.dst j r hRnd hj rfl]; have hb := okT_spec _ bs r.dst hok hRnd j (by rw [List.getElem?_map, hj]; rfl); rw [BE, slotsM_find bs R j r hRnd hb hj]; rfl
      · rw [find_slotsM_none bs R _ t hm, FU R _ t hm]
    refine ⟨?_, ?_, ?_, ?_⟩
    · cases hr : Ee o.op with
      | none => have := hck.1; rw [hr] at this; simp at this
      | some xs =>
        refine ⟨xs, rfl, fun x hx => ?_⟩; have h1 := hck.1; rw [hr] at h1; simp only [List.all_eq_true] at h1; have h2 := h1 x hx
        cases x with
        | tmp t => exact hev t (by rw [hds]; exact h2)
        | const v => rfl
        | global g => rfl
        | func f => rfl
    · intro r ob hr; rw [ho] at hr; simp only [EE, BE]; have hlt := keysLt_find hkb r ob hr
      cases hf : Aw (D9 bs R) r with
      | none => simpa using hr
      | some ob' =>
        obtain ⟨j, q, _, h2, h3⟩ := Et bs R r ob' hf; have := F8 (hids j q h2) r ob' h3; omega
    · have h2 := hck.2
      cases hgo : o.guard with
      | none => rfl
      | some p =>
        obtain ⟨j, want⟩ := p; rw [hgo] at h2
        simp only at h2
        unfold B0
        simp only
        split
        · rename_i d hd
          rw [hd] at h2; rw [hev d (by rw [hds]; exact h2)]
        · rfl
    · intro d v new hd; rw [List.map_append, hds, List.take_add_one, hlo, dstsL_append]
      simp [Dp, hd]
  have snocIds : ∀ (R : List Res) (r : Res), (∀ j r, R[j]? = some r → Gv (σ.next + 4 * j) r.new) → Gv (σ.next + 4 * R.length) r.new → ∀ j q, (R ++ [r])[j]? = some q → Gv (σ.next + 4 * j) q.new := by
    intro R r h1 h2 j q hj; rw [List.getElem?_append] at hj
    split at hj
    · exact h1 j q hj
    rename_i hlt
    rw [List.getElem?_singleton] at hj
    split at hj
    · rename_i e
      simp only [Option.some.injEq] at hj; subst hj; rw [show j = R.length by omega]; exact h2
    cases hj
  induction hdm with
  | stop h =>
    rename_i rest i σc N
    intro R hn hi hl hs ho ht he hnx hN hds hids
    have hRK : R.length = K := by omega
    rw [List.drop_of_length_le (by simp; omega)]; simp only [Gi]; exact hfin rest σc N R hRK (by rw [← hRK]; exact hl) hs ho ht he hnx hN hds hids (by rw [← hRK, ← hi]; exact h)
  | op hd hg hq h ih =>
    rename_i o rest n i d σc N new v
    intro R hn hi hl hs ho ht he hnx hN hds hids; obtain ⟨bs, hbs, hT, hlr, ⟨xs, hxs, hev⟩, hext, hgd, hdst⟩ := common o rest n R σc hn hl hs ho hds hids; rw [hT]; simp only [Gi, hd, hgd, hg]; rw [hi, hnx] at hq; rw [stepQ_mono hxs hext hev hq]
    have hlen : (R ++ [(⟨d, v, new⟩ : Res)]).length = R.length + 1 := by simp
    have hnw : Gv (σ.next + 4 * R.length) new := by
      rcases stepQ_new hq with rfl | ⟨ob, rfl⟩
      · intro p hp; simp at hp
      intro p hp
      simp at hp
      subst hp
      simp
    have := ih (R ++ [⟨d, v, new⟩]) (by rw [hlen]; omega) (by rw [hlen, hi]) (by rw [hlen]; exact hlr) (by simp only [St.put, hs, List.map_append, List.map_cons, List.map_nil, List.reverse_append, List.reverse_cons, List.reverse_nil, List.nil_append, List.cons_append]) (by simpa [St.put] using ho) (by simpa [St.put] using ht) (by simpa [St.put] using he) (by simpa [St.put] using hnx)
      (by rw [hN]; simp) (by rw [hlen]; exact hdst d v new hd) (snocIds R _ hids hnw)
    rw [hlen] at this; exact this
  | opN hd hg hb hq h ih =>
    rename_i o rest n i d σc N new v
    intro R hn hi hl hs ho ht he hnx hN hds hids; obtain ⟨bs, hbs, hT, hlr, ⟨xs, hxs, hev⟩, hext, hgd, hdst⟩ := common o rest n R σc hn hl hs ho hds hids; rw [hT]; simp only [Gi, hd, hgd, hg]; rw [hi, hnx] at hq
    have hextN : Ext (N ++ σc.objs) (EE σ nx bs R).objs := by
      intro r ob hr; rw [BE] at hr
      cases hf : Aw N r with
      | none => rw [hf] at hr; exact hext r ob (by simpa using hr)
      | some ob' =>
        rw [hf] at hr; simp only [Option.some_or, Option.some.injEq] at hr; subst hr; have hf' := hf; rw [hN] at hf'; obtain ⟨j, q, h2, h3⟩ := find_flat R r ob' hf'; have hin := F8 (hids j q h2) r ob' h3; rw [List.all_eq_true] at hb; obtain ⟨p, hp, hpe⟩ := find_mem hf; have h4 := hb p hp; rw [hpe, hi, hnx, show (r - σ.next) / 4 = j by omega] at h4
        unfold Gb at h4
        rw [← hbs] at h4
        have h5 : bs[j]? = some true := by
          rw [List.getD_eq_getElem?_getD] at h4
          cases h6 : bs[j]? with
          | none => rw [h6] at h4; cases h4
          | some z => rw [h6] at h4; simp only [Option.getD_some] at h4; rw [h4]
        simp only [EE, BE]; rw [objsM_find σ.next bs R 0 j q r ob' (fun m q' hq' k o' hk => by have := F8 (hids m q' hq') k o' hk; rw [Nat.zero_add]; exact this) h5 h2 h3]; rfl
    rw [stepQ_mono (σ := { σc with objs := N ++ σc.objs }) hxs hextN hev hq]
    have hlen : (R ++ [(⟨d, v, new⟩ : Res)]).length = R.length + 1 := by simp
    have hnw : Gv (σ.next + 4 * R.length) new := by
      rcases stepQ_new hq with rfl | ⟨ob, rfl⟩
      · intro p hp; simp at hp
      intro p hp
      simp at hp
      subst hp
      simp
    have := ih (R ++ [⟨d, v, new⟩]) (by rw [hlen]; omega) (by rw [hlen, hi]) (by rw [hlen]; exact hlr) (by simp only [St.put, hs, List.map_append, List.map_cons, List.map_nil, List.reverse_append, List.reverse_cons, List.reverse_nil, List.nil_append, List.cons_append]) (by simpa [St.put] using ho) (by simpa [St.put] using ht) (by simpa [St.put] using he) (by simpa [St.put] using hnx)
      (by rw [hN]; simp) (by rw [hlen]; exact hdst d v new hd) (snocIds R _ hids hnw)
    rw [hlen] at this; exact this
  | call hd hg hop hq h ih =>
    rename_i o rest n i d σc N v x as ts
    intro R hn hi hl hs ho ht he hnx hN hds hids; obtain ⟨bs, hbs, hT, hlr, ⟨xs, hxs, hev⟩, hext, hgd, hdst⟩ := common o rest n R σc hn hl hs ho hds hids; rw [hT]; simp only [Gi, hd, hgd, hg]
    have hlen : (R ++ [(⟨d, v, []⟩ : Res)]).length = R.length + 1 := by simp
    have hz : Az P (EE σ nx bs R) (σ.next + 4 * R.length) o.op = none := by simp [hop, Az]
    rw [hz]; refine ⟨v, [], fun p hp => (by simp at hp), hq _ xs hxs hext hev, ?_⟩
    have := ih (R ++ [⟨d, v, []⟩]) (by rw [hlen]; omega) (by rw [hlen, hi]) (by rw [hlen]; exact hlr) (by simp only [St.put, hs, List.map_append, List.map_cons, List.map_nil, List.reverse_append, List.reverse_cons, List.reverse_nil, List.nil_append, List.cons_append]) (by simpa [St.put] using ho) (by simpa [St.put] using ht) (by simpa [St.put] using he) (by simpa [St.put] using hnx)
      (by rw [hN]; simp) (by rw [hlen]; exact hdst d v [] hd) (snocIds R _ hids (fun p hp => by simp at hp))
    rw [hlen] at this; exact this
  | callN hd hg hop hid hq h ih =>
    rename_i o rest n i d σc N new v x as ts
    intro R hn hi hl hs ho ht he hnx hN hds hids; obtain ⟨bs, hbs, hT, hlr, ⟨xs, hxs, hev⟩, hext, hgd, hdst⟩ := common o rest n R σc hn hl hs ho hds hids; rw [hT]; simp only [Gi, hd, hgd, hg]; rw [hi, hnx] at hid
    have hlen : (R ++ [(⟨d, v, new⟩ : Res)]).length = R.length + 1 := by simp
    have hz : Az P (EE σ nx bs R) (σ.next + 4 * R.length) o.op = none := by simp [hop, Az]
    rw [hz]; refine ⟨v, new, hid, hq _ xs hxs hext hev, ?_⟩
    have := ih (R ++ [⟨d, v, new⟩]) (by rw [hlen]; omega) (by rw [hlen, hi]) (by rw [hlen]; exact hlr) (by simp only [St.put, hs, List.map_append, List.map_cons, List.map_nil, List.reverse_append, List.reverse_cons, List.reverse_nil, List.nil_append, List.cons_append]) (by simpa [St.put] using ho) (by simpa [St.put] using ht) (by simpa [St.put] using he) (by simpa [St.put] using hnx)
      (by rw [hN]; simp) (by rw [hlen]; exact hdst d v new hd) (snocIds R _ hids hid)
    rw [hlen] at this; exact this
  | skip hd hg h ih =>
    rename_i o rest n i d σc N
    intro R hn hi hl hs ho ht he hnx hN hds hids; obtain ⟨bs, hbs, hT, hlr, ⟨xs, hxs, hev⟩, hext, hgd, hdst⟩ := common o rest n R σc hn hl hs ho hds hids; rw [hT]; simp only [Gi, hd, hgd, hg]
    have hlen : (R ++ [(⟨d, .lit undef, []⟩ : Res)]).length = R.length + 1 := by simp
    have := ih (R ++ [⟨d, .lit undef, []⟩]) (by rw [hlen]; omega) (by rw [hlen, hi]) (by rw [hlen]; exact hlr) (by simp only [St.put, hs, List.map_append, List.map_cons, List.map_nil, List.reverse_append, List.reverse_cons, List.reverse_nil, List.nil_append, List.cons_append]) (by simpa [St.put] using ho) (by simpa [St.put] using ht) (by simpa [St.put] using he) (by simpa [St.put] using hnx)
      (by rw [hN]; simp) (by rw [hlen]; exact hdst d _ [] hd) (snocIds R _ hids (fun p hp => by simp at hp))
    rw [hlen] at this; exact this
theorem fin_end {Q : St → Prop} (hnd : (Dp (l.take K)).Nodup) :
    ∀ (rest : List Oper) (σc : St) (N : List (Nat × Obj)) (R : List Res), R.length = K → l.drop K = rest → σc.slots = (R.map fun r => (r.dst, r.v)).reverse ++ σ.slots → σc.objs = σ.objs → σc.nt = σ.nt → σc.env = σ.env → σc.next = σ.next → N = R.flatMap (·.new) → R.map (·.dst) = Dp (l.take R.length) → (∀ j r, R[j]? = some r → Gv (σ.next + 4 * j) r.new) →
      endD P l nx Q rest K σc N → finS P l σ nx Q rest R := by
    intro rest σc N R hRK hl hs ho ht he hnx hN hds hids h
    unfold finS
    unfold endD at h
    have hRnd : (R.map (·.dst)).Nodup := by rw [hds, hRK]; exact hnd
    refine SeqL.weaken (σ' := { σc with next := nx, objs := N ++ σc.objs }) (Wk.sub ?_ ?_ (Nat.le_refl _) ht he) h
    · intro s v hv; simp only [stAll]; simp only [hs] at hv
      by_cases hm : s ∈ R.map (·.dst)
      · obtain ⟨r, hr, rfl⟩ := List.mem_map.1 hm; obtain ⟨j, hj⟩ := List.mem_iff_getElem?.1 hr; rw [find_rev R σ.slots r.dst j r hRnd hj rfl] at hv
        have hnd' : (R.reverse.map (·.dst)).Nodup := by rw [List.map_reverse]; exact nodup_rev hRnd
        have hr' : r ∈ R.reverse := List.mem_reverse.2 hr; obtain ⟨j', hj'⟩ := List.mem_iff_getElem?.1 hr'; have := find_rev R.reverse σ.slots r.dst j' r hnd' hj' rfl; rw [← List.map_reverse, List.reverse_reverse] at this; rw [this]; exact hv
      rw [FU R _ s hm] at hv
      have hm' : s ∉ R.reverse.map (·.dst) := by rw [List.map_reverse, List.mem_reverse]; exact hm
      have := FU R.reverse σ.slots s hm'; rw [← List.map_reverse, List.reverse_reverse] at this; rw [this]; exact hv
    intro r o hr; simp only [stAll]; rw [← hN, ← ho]; exact hr
theorem late_end {Q : St → Prop} {T : List (List Bool)} (hnd : (Dp (l.take K)).Nodup) (hkb : keysLt σ.next σ.objs = true) :
    ∀ (rest : List Oper) (σc : St) (N : List (Nat × Obj)) (R : List Res), R.length = K → l.drop K = rest → σc.slots = (R.map fun r => (r.dst, r.v)).reverse ++ σ.slots → σc.objs = σ.objs → σc.nt = σ.nt → σc.env = σ.env → σc.next = σ.next → N = R.flatMap (·.new) → R.map (·.dst) = Dp (l.take R.length) → (∀ j r, R[j]? = some r → Gv (σ.next + 4 * j) r.new) →
      lateD P l T nx Q rest K σc N → LateOk P l T σ nx K Q rest R := by
  intro rest σc N R hRK hl hs ho ht he hnx hN hds hids h
  have hRnd : (R.map (·.dst)).Nodup := by rw [hds, hRK]; exact hnd
  obtain ⟨oK, rest', t, x, y, r, ri, rj, ob, u, row, cs, h1, h2, h3, h4, h5, h6, h7, h8, h9, h10, h11, h12, h13, h14, h15⟩ := h; rw [hnx] at h13 h14; obtain ⟨j0, q0, e1, e2⟩ := find_flat R r ob (hN ▸ h9); have hin := F8 (hids j0 q0 e1) r ob e2
  have hj0 : (r - σ.next) / 4 = j0 := by omega
  rw [hj0] at h13 h14; refine ⟨oK, rest', r, { ob with rows := ob.rows.set ri (splice row rj cs), cl := ob.cl && BQ cs }, h1, h4, by omega, ?_, ?_, ?_⟩
  · intro i hi hb; rw [List.all_eq_true] at h14; have h16 := h14 i (by simpa using hi); simp only [hb, Bool.false_or, Bool.and_eq_true, Bool.not_eq_true', List.all_eq_true] at h16; obtain ⟨h17, h18⟩ := h16; refine ⟨?_, fun q hq => ?_⟩
    · cases hf : Aw (D9 ((T[i]?).getD []) R) r with
      | none => rfl
      | some ob' =>
        exfalso
        obtain ⟨m, q, k1, k2, k3⟩ := Et _ R r ob' hf; have := F8 (hids m q k2) r ob' k3
        have hm : m = j0 := by omega
        subst hm
        unfold Gb at h17
        rw [List.getD_eq_getElem?_getD, k1] at h17
        cases h17
    cases hnw : q.new with
    | nil => rfl
    | cons p ps =>
      exfalso
      have hp : p ∈ q.new := by rw [hnw]; simp
      have hpi := hids i q hq p hp
      have hpN : p ∈ N := by
        rw [hN]; exact List.mem_flatMap.2 ⟨q, List.mem_of_getElem? hq, hp⟩
      have h19 := h18 p hpN; rw [show (p.1 - σ.next) / 4 = i by omega] at h19
      simp at h19
  · intro bs hbs
    have hslot : ∀ z, okX (Dp (l.take K)) ((T[K]?).getD []) z = true → ∀ v, Ba σc.slots z = some v → (EE σ nx bs R).ev z = v := by
      intro z hz v hv; have hv' := AS (s := σc.slots) (b := []) (n := 0) (t := 0) (e := 0) hv
      cases z with
      | const c => exact hv'
      | global g => exact hv'
      | func f => exact hv'
      | tmp d =>
        have hev : ∀ τ : St, τ.ev (.tmp d) = τ.get d := fun _ => rfl; rw [hev] at hv' ⊢; rw [← hv']
        unfold St.get
        simp only [EE, hs]
        by_cases hm : d ∈ R.map (·.dst)
        · obtain ⟨q, hq, rfl⟩ := List.mem_map.1 hm; obtain ⟨j, hj⟩ := List.mem_iff_getElem?.1 hq; rw [find_rev R σ.slots q.dst j q hRnd hj rfl]
          have hz' : okT (R.map (·.dst)) ((T[K]?).getD []) q.dst = true := by rw [hds, hRK]; exact hz
          have hb := okT_spec _ _ q.dst hz' hRnd j (by rw [List.getElem?_map, hj]; rfl); have hb2 := hbs j (by unfold Gb; rw [List.getD_eq_getElem?_getD, hb]; rfl); rw [BE, slotsM_find bs R j q hRnd hb2 hj]; rfl
        rw [find_slotsM_none bs R _ d hm, FU R _ d hm]
    simp only [List.all_cons, List.all_nil, Bool.and_true, Bool.and_eq_true] at h6; have hx := hslot x h6.1 _ h7; have hy := hslot y h6.2 _ h8
    have hob : Aw (EE σ nx bs R).objs r = some ob := by
      simp only [EE, BE]; rw [objsM_find σ.next bs R 0 j0 q0 r ob (fun m q' hq' k o' hk => by have := F8 (hids m q' hq') k o' hk; rw [Nat.zero_add]; exact this) (hbs j0 h13) e1 e2]; rfl
    have hw : Writer P (EE σ nx bs R) oK _ := Writer.store h2 h5 (fun d hd => by rw [h3] at hd; cases hd) (σ' := { (EE σ nx bs R) with objs := (r, { ob with rows := ob.rows.set ri (splice row rj cs), cl := ob.cl && BQ cs }) :: Fl (EE σ nx bs R).objs r }) (by
      rw [hx, hy]
      simp only [storeAV, hob, Option.bind_some, h10, h11, h12, cond_true])
    intro C E X a hr K' Q' hk; refine hw C E X a hr K' Q' (fun E' X' a' hr' => hk E' X' a' (hr'.sub ?_ ?_ (Nat.le_refl _) rfl rfl))
    · intro s v hv; simp only [h3, St.put]; exact hv
    intro k o hk'; simp only [h3, St.put, St.over, AZ] at hk' ⊢
    split at hk'
    · rename_i e; rw [if_pos e]; exact hk'
    rename_i e
    rw [if_neg e, find_del, if_neg e]; exact hk'
  have hfe := fin_end (P := P) (nx := nx) (Q := Q) (σ := σ) hnd; refine SeqL.weaken (σ' := { σc with next := nx, objs := (r, { ob with rows := ob.rows.set ri (splice row rj cs), cl := ob.cl && BQ cs }) :: (N ++ σc.objs) }) (Wk.sub ?_ ?_ (Nat.le_refl _) ht he) h15
  · intro s v hv; simp only [St.over, stAll]; simp only [hs] at hv
    by_cases hm : s ∈ R.map (·.dst)
    · obtain ⟨q, hq, rfl⟩ := List.mem_map.1 hm; obtain ⟨j, hj⟩ := List.mem_iff_getElem?.1 hq; rw [find_rev R σ.slots q.dst j q hRnd hj rfl] at hv
      have hnd' : (R.reverse.map (·.dst)).Nodup := by rw [List.map_reverse]; exact nodup_rev hRnd
      have hr' : q ∈ R.reverse := List.mem_reverse.2 hq; obtain ⟨j', hj'⟩ := List.mem_iff_getElem?.1 hr'; have := find_rev R.reverse σ.slots q.dst j' q hnd' hj' rfl; rw [← List.map_reverse, List.reverse_reverse] at this; rw [this]; exact hv
    rw [FU R _ s hm] at hv
    have hm' : s ∉ R.reverse.map (·.dst) := by rw [List.map_reverse, List.mem_reverse]; exact hm
    have := FU R.reverse σ.slots s hm'; rw [← List.map_reverse, List.reverse_reverse] at this; rw [this]; exact hv
  intro k o hk; simp only [St.over, stAll]; rw [← hN, ← ho]; exact hk
theorem Ev.region_L {s : List (Nat × AV)} {b : List (Nat × Obj)} {n t e : Nat} {Q : Exit → St → Prop} (T : List (List Bool)) (K : Nat)
    (h : ∀ Kt : St → Prop, (∀ σ', Q .normal σ' → Kt σ') → DM P l T (n + 4 * K) (lateD P l T (n + 4 * K) Kt) l K 0 ⟨s, b, n, t, e⟩ []) (hm : P.follows .mixedOrders = true := by exact rfl) (hok : drawOkL l T ⟨s, b, n, t, e⟩ K = true := by exact rfl) (hch : readsChkM l T K = true := by exact rfl) (hTl : Nat.ble K T.length = true := by exact rfl) (hkb : keysLt n b = true := by exact rfl) : Ev P (.region id ⟨l⟩ true) ⟨s, b, n, t, e⟩ Q := by
  have hok' := hok; simp only [drawOkL, Bool.and_eq_true, decide_eq_true_eq, List.all_eq_true] at hok'; obtain ⟨⟨_, hKl⟩, ⟨_, hnd⟩, _⟩ := hok'; refine Ev.drawL T K hm hok (EV hTl) fun Kt hKt => ?_; have := DM_F (σ := ⟨s, b, n, t, e⟩) hch hnd (EV hTl) (Nat.le_of_lt (Nat.le_of_ble_eq_true hKl)) hkb (late_end hnd hkb) (h Kt hKt) [] (by simp) rfl rfl (by simp) rfl rfl rfl rfl (by simp) rfl (by simp)
  simpa using this
theorem CH {s : List (Nat × AV)} {b : List (Nat × Obj)} {n t e : Nat} {Q : Exit → St → Prop} (T : List (List Bool)) (K : Nat)
    (h : ∀ Kt : St → Prop, (∀ σ', Q .normal σ' → Kt σ') → DM P l T (n + 4 * K) (endD P l (n + 4 * K) Kt) l K 0 ⟨s, b, n, t, e⟩ []) (hm : P.follows .mixedOrders = true := by exact rfl) (hok : drawOk l T ⟨s, b, n, t, e⟩ K = true := by exact rfl) (hch : readsChkM l T K = true := by exact rfl) (hTl : Nat.ble K T.length = true := by exact rfl) (hkb : keysLt n b = true := by exact rfl) : Ev P (.region id ⟨l⟩ true) ⟨s, b, n, t, e⟩ Q := by
  have hok' := hok; simp only [drawOk, Bool.and_eq_true, decide_eq_true_eq, List.all_eq_true] at hok'; obtain ⟨⟨_, hKl⟩, ⟨_, hnd⟩, _⟩ := hok'; refine Ev.draw T K hm hok (EV hTl) fun Kt hKt => ?_; have := DM_F (σ := ⟨s, b, n, t, e⟩) hch hnd (EV hTl) (EV hKl) hkb (fin_end hnd) (h Kt hKt) [] (by simp) rfl rfl (by simp) rfl rfl rfl rfl (by simp) rfl (by simp)
  simpa using this
section rules
variable {P : Program} {rest : List Oper} {s : List (Nat × AV)} {b N : List (Nat × Obj)} {n t e K i : Nat} {Q : St → Prop} {F : List Oper → Nat → St → List (Nat × Obj) → Prop} {d ty : Nat} {pos : String} {aft : Array Edge} {g : Option (Nat × Bool)} {op : Op} {l : List Oper} {nx : Nat} {T : List (List Bool)}
variable {x : Operand} {v : AV}
theorem Ak (hq : Az P ⟨s, b, n, t, e⟩ (n + 4 * i) op = some (v, [])) (h : DM P l T nx F rest K (i + 1) ⟨(d, v) :: s, b, n, t, e⟩ N) (hg : B0 (B8 ⟨l⟩) ⟨s, b, n, t, e⟩ g = some true := by exact rfl) :
    DM P l T nx F (⟨some d, op, ty, pos, aft, g⟩ :: rest) (K + 1) i ⟨s, b, n, t, e⟩ N := .op rfl hg hq (by rw [List.append_nil]; exact h)
theorem M.bb {c : Bool} (hq : Az P ⟨s, b, n, t, e⟩ (n + 4 * i) op = some (.lit (.bool c), [])) (ht : c = true → DM P l T nx F rest K (i + 1) ⟨(d, .lit (.bool true)) :: s, b, n, t, e⟩ N) (hf : c = false → DM P l T nx F rest K (i + 1) ⟨(d, .lit (.bool false)) :: s, b, n, t, e⟩ N)
    (hg : B0 (B8 ⟨l⟩) ⟨s, b, n, t, e⟩ g = some true := by exact rfl) : DM P l T nx F (⟨some d, op, ty, pos, aft, g⟩ :: rest) (K + 1) i ⟨s, b, n, t, e⟩ N := by
  cases c
  · exact Ak hq (hf rfl) hg
  exact Ak hq (ht rfl) hg
theorem M.bd {p : Prop} [Decidable p] (hq : Az P ⟨s, b, n, t, e⟩ (n + 4 * i) op = some (.lit (.bool (decide p)), [])) (ht : p → DM P l T nx F rest K (i + 1) ⟨(d, .lit (.bool true)) :: s, b, n, t, e⟩ N) (hf : ¬ p → DM P l T nx F rest K (i + 1) ⟨(d, .lit (.bool false)) :: s, b, n, t, e⟩ N)
    (hg : B0 (B8 ⟨l⟩) ⟨s, b, n, t, e⟩ g = some true := by exact rfl) : DM P l T nx F (⟨some d, op, ty, pos, aft, g⟩ :: rest) (K + 1) i ⟨s, b, n, t, e⟩ N :=
  M.bb hq (fun h => ht (of_decide_eq_true h)) (fun h => hf (of_decide_eq_false h)) hg
theorem M.bn {p : Prop} [Decidable p] (hq : Az P ⟨s, b, n, t, e⟩ (n + 4 * i) op = some (.lit (.bool (!decide p)), [])) (ht : ¬ p → DM P l T nx F rest K (i + 1) ⟨(d, .lit (.bool true)) :: s, b, n, t, e⟩ N) (hf : p → DM P l T nx F rest K (i + 1) ⟨(d, .lit (.bool false)) :: s, b, n, t, e⟩ N)
    (hg : B0 (B8 ⟨l⟩) ⟨s, b, n, t, e⟩ g = some true := by exact rfl) : DM P l T nx F (⟨some d, op, ty, pos, aft, g⟩ :: rest) (K + 1) i ⟨s, b, n, t, e⟩ N :=
  M.bb hq (fun h => ht (by simpa using h)) (fun h => hf (by simpa using h)) hg
theorem Gs {o : Obj} (N' : List (Nat × Obj)) (hq : Az P ⟨s, b, n, t, e⟩ (n + 4 * i) op = some (v, [(n + 4 * i, o)])) (hN : N ++ [(n + 4 * i, o)] = N' := by exact rfl) (hg : B0 (B8 ⟨l⟩) ⟨s, b, n, t, e⟩ g = some true := by exact rfl) (h : DM P l T nx F rest K (i + 1) ⟨(d, v) :: s, b, n, t, e⟩ N') :
    DM P l T nx F (⟨some d, op, ty, pos, aft, g⟩ :: rest) (K + 1) i ⟨s, b, n, t, e⟩ N := .op rfl hg hq (by rw [hN]; exact h)
theorem AE (h : DM P l T nx F rest K (i + 1) ⟨(d, .lit undef) :: s, b, n, t, e⟩ N) (hg : B0 (B8 ⟨l⟩) ⟨s, b, n, t, e⟩ g = some false := by exact rfl) : DM P l T nx F (⟨some d, op, ty, pos, aft, g⟩ :: rest) (K + 1) i ⟨s, b, n, t, e⟩ N := .skip rfl hg h
theorem Bz (b' : List (Nat × Obj)) (hb : N ++ b = b' := by exact rfl) (h : SeqL P ⟨l⟩ rest ⟨s, b', nx, t, e⟩ Q) : DM P l T nx (endD P l nx Q) rest 0 i ⟨s, b, n, t, e⟩ N := by
  subst hb; exact .stop h
theorem M.late {st r ri rj c : Nat} {ob : Obj} {u : AV} {row cs : List AV} {x y : Operand} (row' : List AV) (cl' : Bool) (b' : List (Nat × Obj)) (hin : (P.info? st).isSome = true) (hcl : P.cellsOf st = c) (hx : Ba s x = some (.adr r ri rj) := by exact rfl) (hy : Ba s y = some u := by exact rfl) (ho : Aw N r = some ob := by exact rfl) (hrow : ob.rows[ri]? = some row := by exact rfl) (hc : Di u = some cs := by exact rfl)
    (hchk : (Nat.ble (rj + cs.length) row.length && Nat.beq cs.length c) = true := by exact rfl) (hsp : splice row rj cs = row' := by exact rfl) (hcl' : (ob.cl && BQ cs) = cl' := by exact rfl) (hok : ([x, y].all (okX (Dp (l.take i)) ((T[i]?).getD []))) = true := by exact rfl) (hbit : Gb T i ((r - n) / 4) = true := by exact rfl)
    (hfree : ((List.range i).all fun j => Gb T i j || (!(Gb T j ((r - n) / 4)) && N.all fun p => !(Nat.beq ((p.1 - n) / 4) j))) = true := by exact rfl) (hb : (r, { ob with rows := ob.rows.set ri row', cl := cl' }) :: Fl (N ++ b) r = b' := by exact rfl)
    (h : SeqL P ⟨l⟩ rest ⟨s, b', nx, t, e⟩ Q) : DM P l T nx (lateD P l T nx Q) (⟨none, .store st x y, ty, pos, aft, none⟩ :: rest) 0 i ⟨s, b, n, t, e⟩ N := by
  subst hcl hsp hcl' hb; refine .stop ⟨_, rest, st, x, y, r, ri, rj, ob, u, row, cs, rfl, rfl, rfl, rfl, Option.isSome_iff_exists.1 hin, hok, hx, hy, ho, hrow, hc, hchk, hbit, hfree, ?_⟩; refine SeqL.weaken (σ' := ⟨s, (r, { ob with rows := ob.rows.set ri (splice row rj cs), cl := ob.cl && BQ cs }) :: Fl (N ++ b) r, nx, t, e⟩) (Wk.sub (fun _ _ h => h) (fun k o hk => ?_) (Nat.le_refl _) rfl rfl) h; simp only [AZ] at hk ⊢
  split at hk
  · rename_i e; rw [if_pos e]; exact hk
  rename_i e
  rw [if_neg e]; rw [find_del, if_neg e] at hk; exact hk
theorem B1 {as : Array Operand} {ts : Array TypeId} {f : FuncId} {first caps : List AV} {vs : List AV} {v v' : AV} (hc : F4 (St.ev ⟨s, b, n, t, e⟩ x) = some (f, first, caps) := by exact rfl) (hv : DX ⟨s, b, n, t, e⟩ (first ++ (as.toList.map (St.ev ⟨s, b, n, t, e⟩) ++ caps)) = some vs := by exact rfl) (hF : Fun P f vs (AK v []))
    (hm : BQ (first ++ (as.toList.map (St.ev ⟨s, b, n, t, e⟩) ++ caps)) = true ∨ Ez v = true := by first | exact .inl rfl | exact .inr rfl) (hl : liftAV 0 v = some v' := by exact rfl)
    (hg : B0 (B8 ⟨l⟩) ⟨s, b, n, t, e⟩ g = some true := by exact rfl) (h : DM P l T nx F rest K (i + 1) ⟨(d, v') :: s, b, n, t, e⟩ N) :
    DM P l T nx F (⟨some d, .call { callee := .value x, args := as, argTypes := ts }, ty, pos, aft, g⟩ :: rest) (K + 1) i ⟨s, b, n, t, e⟩ N := by
  refine .call rfl hg rfl ?_ h; intro σ' xs hxs hob he; simp only [Ee, Du, Option.some.injEq] at hxs; subst hxs; have e1 : σ'.ev x = St.ev ⟨s, b, n, t, e⟩ x := he x (by simp); have e2 : as.toList.map σ'.ev = as.toList.map (St.ev ⟨s, b, n, t, e⟩) := List.map_congr_left fun y hy => he y (by simp [hy]); refine Local.call (N := 0) (new := []) rfl (by rw [e1]; exact hc) (by rw [e2]; exact viewL_mono hob hv) hF ?_ hl rfl; rw [e2]
  rcases hm with hm | hm
  · exact .inl hm
  exact .inr ⟨hm, fun r ob h => by simp [Aw] at h⟩
end rules
end
end Go.AM
