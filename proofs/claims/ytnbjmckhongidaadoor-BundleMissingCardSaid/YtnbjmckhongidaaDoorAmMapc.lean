/-
  The abstract machine, continued: maps, and iterators over maps.
  Conditions: none; generic over the program.
-/
import Derived.Test.YtnbjmckhongidaaDoorAmCore
import Derived.Laws.IdiomRangeMap
namespace Go.AM
open Go.MapKept
set_option linter.unusedVariables false
set_option linter.unusedSimpArgs false
set_option linter.unusedSectionVars false

/-- A map type: its keys' kind, its values' zero (none: the struct without fields). -/
def mapTy (P : Program) (t : TypeId) : Option (TypeDesc × Option Value) :=
  match P.underlying t with
  | some (.map k e) => match P.underlying k, (P.info? e).bind (·.zero) with
    | some d, some z => bif z.oneCell' && !isUnit z then some (d, some z) else bif isUnit z then some (d, none) else none
    | _, _ => none
  | _ => none
def msz : Option Value → Nat
  | some _ => 3
  | none => 2
def zAV : Option Value → AV
  | some z => .lit z
  | none => .agg []
/-- A key, plainly compared. -/
def keyB : TypeDesc → Value → Bool
  | .bool, .bool _ => true
  | .int k, .int k' _ => decide (k' = k)
  | .string, .string _ => true
  | _, _ => false
theorem keyB_is {d : TypeDesc} {v : Value} (h : keyB d v = true) : IsKey d v := by
  unfold keyB at h
  split at h <;> simp_all [IsKey]

theorem mapTy_spec {P : Program} {t : TypeId} {d : TypeDesc} {z : Option Value} (h : mapTy P t = some (d, z)) : ∃ k e z0, P.underlying t = some (.map k e) ∧ P.underlying k = some d ∧ (∀ w, (zeroValue e).run P w = .ok z0 w) ∧
    ((z = some z0 ∧ z0.oneCell' = true ∧ isUnit z0 = false) ∨ (z = none ∧ z0 = .agg #[])) := by
  unfold mapTy at h
  split at h
  · rename_i k e hu
    split at h
    · rename_i d' z0 hd hz
      simp only [Option.bind_eq_some_iff] at hz
      obtain ⟨i, hi, hz⟩ := hz
      have hzr : ∀ w, (zeroValue e).run P w = .ok z0 w := fun w => by simp [zeroValue, typeInfo, hi, hz]
      refine ⟨k, e, z0, hu, ?_⟩
      cases hb : (z0.oneCell' && !isUnit z0) with
      | true =>
        simp only [hb, cond_true, Option.some.injEq, Prod.mk.injEq] at h
        simp only [Bool.and_eq_true, Bool.not_eq_true'] at hb
        obtain ⟨rfl, rfl⟩ := h
        exact ⟨hd, hzr, .inl ⟨rfl, hb.1, hb.2⟩⟩
      | false =>
        simp only [hb, cond_false] at h
        cases hu' : isUnit z0 with
        | false => simp [hu'] at h
        | true =>
          simp only [hu', cond_true, Option.some.injEq, Prod.mk.injEq] at h
          obtain ⟨rfl, rfl⟩ := h
          exact ⟨hd, hzr, .inr ⟨rfl, isUnit_eq hu'⟩⟩
    · cases h
  · cases h

/-- Where a key is, and what stands beside it. -/
def findAV (d : TypeDesc) (k : Value) : List (List AV) → Nat → Option (Option (Nat × List AV))
  | [], _ => some none
  | (.lit v :: vs) :: es, i => match Instr.sameNow d k v with
    | some true => some (some (i, vs))
    | some false => findAV d k es (i + 1)
    | none => none
  | _ :: _, _ => none

theorem FVr_rowM {E : Env} {sz : Nat} {row : List AV} {rows : List (List AV)} {e : MapEntry} {es : List MapEntry} (h : FVr E sz (row :: rows) (flatM (e :: es))) (hl : (rowM e).length = sz) : row.length = sz ∧ FVc E row (rowM e) ∧ FVr E sz rows (flatM es) := by
  simp only [FVr] at h
  obtain ⟨ys, zs, h0, h1, h2, h3⟩ := h
  have e1 : flatM (e :: es) = rowM e ++ flatM es := by simp [flatM]
  rw [e1] at h0
  obtain ⟨rfl, rfl⟩ := List.append_inj h0 (by rw [hl, h2.length, h1])
  exact ⟨h1, h2, h3⟩
theorem FVr_rowM_of {E : Env} {sz : Nat} {row : List AV} {rows : List (List AV)} {e : MapEntry} {es : List MapEntry} (h1 : row.length = sz) (h2 : FVc E row (rowM e)) (h3 : FVr E sz rows (flatM es)) : FVr E sz (row :: rows) (flatM (e :: es)) := by
  simp only [FVr]
  exact ⟨rowM e, flatM es, by simp [flatM], h1, h2, h3⟩
theorem FVr_flat_nil {E : Env} {sz : Nat} {e : MapEntry} {es : List MapEntry} : ¬ FVr E sz [] (flatM (e :: es)) := by
  intro h
  simp only [FVr, flatM, List.map_cons, List.flatten_cons, rowM] at h
  simp at h
theorem FVr_flat_cons {E : Env} {sz : Nat} {row : List AV} {rows : List (List AV)} (h0 : 0 < sz) : ¬ FVr E sz (row :: rows) (flatM []) := by
  intro h
  simp only [FVr, flatM, List.map_nil, List.flatten_nil] at h
  obtain ⟨ys, zs, h0', h1, h2, h3⟩ := h
  have : ys = [] := by
    cases ys with
    | nil => rfl
    | cons y ys => simp at h0'
  subst this
  have := h2.length
  simp at this
  omega
/-- Row by row: an entry for each. -/
theorem FVr_ent {E : Env} {sz : Nat} (h0 : 0 < sz) : ∀ {rows : List (List AV)} {es : List MapEntry}, (∀ e ∈ es, (rowM e).length = sz) → FVr E sz rows (flatM es) → rows.length = es.length ∧ ∀ (i : Nat) (row : List AV), rows[i]? = some row → ∃ e, es[i]? = some e ∧ row.length = sz ∧ FVc E row (rowM e)
  | [], [], _, _ => ⟨rfl, fun i row h => by simp at h⟩
  | [], e :: es, _, h => absurd h FVr_flat_nil
  | row :: rows, [], _, h => absurd h (FVr_flat_cons h0)
  | row :: rows, e :: es, hl, h => by
    obtain ⟨h1, h2, h3⟩ := FVr_rowM h (hl e (by simp))
    obtain ⟨g1, g2⟩ := FVr_ent h0 (fun e' he => hl e' (by simp [he])) h3
    refine ⟨by simp [g1], fun i row' hi => ?_⟩
    cases i with
    | zero => simp at hi; subst hi; exact ⟨e, rfl, h1, h2⟩
    | succ i => exact g2 i row' (by simpa using hi)

theorem findAV_spec {E : Env} {sz : Nat} {d : TypeDesc} {k : Value} (h0 : 0 < sz) : ∀ {rows : List (List AV)} {es : List MapEntry} {i : Nat} {r : Option (Nat × List AV)}, (∀ e ∈ es, (rowM e).length = sz) → FVr E sz rows (flatM es) → findAV d k rows i = some r →
    (r = none ∧ Instr.findNow d k es i = some none ∧ ∀ e ∈ es, Instr.sameNow d k e.key = some false) ∨
      ∃ j v vs e, r = some (i + j, vs) ∧ rows[j]? = some (.lit v :: vs) ∧ es[j]? = some e ∧ e.key = v ∧ FVc E (.lit v :: vs) (rowM e) ∧ Instr.findNow d k es i = some (some (i + j, e.val)) ∧ Instr.sameNow d k e.key = some true
  | [], [], i, r, _, _, h => by
    simp only [findAV, Option.some.injEq] at h
    subst h
    exact .inl ⟨rfl, rfl, by simp⟩
  | [], e :: es, i, r, _, hf, h => absurd hf FVr_flat_nil
  | row :: rows, [], i, r, _, hf, h => absurd hf (FVr_flat_cons h0)
  | row :: rows, e :: es, i, r, hl, hf, h => by
    obtain ⟨h1, h2, h3⟩ := FVr_rowM hf (hl e (by simp))
    rcases row with _ | ⟨c, vs⟩
    · simp [findAV] at h
    cases c <;> try (simp [findAV] at h; done)
    · rename_i v
      simp only [findAV] at h
      have hk : e.key = v := by
        have := h2
        simp only [FVc, rowM, List.cons.injEq] at this
        obtain ⟨y, ys, ⟨rfl, rfl⟩, _, hy, _⟩ := this
        simpa [FV] using hy
      split at h
      · rename_i hs
        simp only [Option.some.injEq] at h
        subst h
        refine .inr ⟨0, v, vs, e, rfl, rfl, rfl, hk, h2, ?_, by rw [hk]; exact hs⟩
        simp [Instr.findNow, hk, hs]
      · rename_i hs
        rcases findAV_spec h0 (fun e' he => hl e' (by simp [he])) h3 h with ⟨g1, g2, g3⟩ | ⟨j, v', vs', e', g1, g2, g3, g4, g5, g6, g7⟩
        · refine .inl ⟨g1, by simp [Instr.findNow, hk, hs, g2], fun e' he => ?_⟩
          rcases List.mem_cons.1 he with rfl | he
          · rw [hk]; exact hs
          · exact g3 e' he
        · refine .inr ⟨j + 1, v', vs', e', by rw [g1]; congr 2; omega, by simpa using g2, by simpa using g3, g4, g5, ?_, g7⟩
          simp only [Instr.findNow, hk, hs, g6]
          congr 3
          omega
      · cases h

/-- The rows of a map, its own or shared. -/
def mapRows (σ : St) : AV → Option (Nat × List (List AV))
  | .hd r => (find σ.objs r).bind fun o => bif o.slc then some (o.sz, o.rows) else none
  | .shm sz rows => some (sz, rows)
  | _ => none

theorem Rel.mapRows {C : Ctx} {E : Env} {X : Nat → List Value} {σ : St} {a : Act} (h : Rel C E X σ a) {v : AV} {x : Value} {sz : Nat} {rows : List (List AV)} (hm : AM.mapRows σ v = some (sz, rows)) (hx : FV E v x) :
    ∃ b es clk, x = .map (some b) ∧ E.w.heap[b]? = some (.map es clk) ∧ MapWf sz es clk ∧ FVr E sz rows (flatM es.toList) := by
  cases v <;> try (simp [AM.mapRows] at hm; done)
  case hd r =>
    simp only [AM.mapRows, Option.bind_eq_some_iff] at hm
    obtain ⟨o, ho, hm⟩ := hm
    cases hs : o.slc with
    | false => simp [hs] at hm
    | true =>
      simp only [hs, cond_true, Option.some.injEq, Prod.mk.injEq] at hm
      obtain ⟨rfl, rfl⟩ := hm
      obtain ⟨_, hZ, hok, hr⟩ := h.objs r o ho
      obtain ⟨b, es, clk, hH, hg, hwf, hfl, rfl⟩ := hok.asMap hs hx
      refine ⟨b, es, clk, rfl, hg, hwf, ?_⟩
      rw [hfl]
      exact FVr.le _ _ (E.by_le o.cl) _ hr
  case shm sz' rows' =>
    simp only [AM.mapRows, Option.some.injEq, Prod.mk.injEq] at hm
    obtain ⟨rfl, rfl⟩ := hm
    simp only [FV] at hx
    obtain ⟨b, es, clk, rfl, _, hg, hwf, hr⟩ := hx
    exact ⟨b, es, clk, rfl, hg, hwf, FVr.le _ _ E.clear_le _ hr⟩

/-- The value of an entry, off what stands beside its key. -/
def valAV : Option Value → List AV → Option AV
  | some _, [_, v] => some v
  | none, [_] => some (.agg [])
  | _, _ => none
/-- What a look yields. -/
def lookAV (z : Option Value) (ok : Bool) : Option (Nat × List AV) → Option AV
  | none => some (bif ok then .tup [zAV z, .lit (.bool false)] else zAV z)
  | some (_, vs) => (valAV z vs).map fun u => bif ok then .tup [u, .lit (.bool true)] else u

theorem valCells_one {v y : Value} (h : valCells v = [y]) : v = y := by
  unfold valCells at h
  cases hu : isUnit v with
  | true => simp [hu] at h
  | false => simpa [hu] using h
theorem valCells_nil {v : Value} (h : valCells v = []) : v = .agg #[] := by
  unfold valCells at h
  cases hu : isUnit v with
  | true => exact isUnit_eq hu
  | false => simp [hu] at h

/-- The value of an entry. -/
theorem FV_val {E : Env} {z : Option Value} {v0 : Value} {vs : List AV} {e : MapEntry} {u : AV} (h : FVc E (.lit v0 :: vs) (rowM e)) (hl : valAV z vs = some u) : FV E u e.val := by
  simp only [FVc, rowM, List.cons.injEq] at h
  obtain ⟨y, ys, ⟨rfl, rfl⟩, _, hy, h⟩ := h
  unfold valAV at hl
  split at hl
  · rename_i z s v
    simp only [Option.some.injEq] at hl
    subst hl
    simp only [FVc, List.cons.injEq] at h
    obtain ⟨y, ys, ⟨rfl, rfl⟩, _, _, y, ys, h1, _, h2, rfl⟩ := h
    rw [valCells_one h1]
    exact h2
  · rename_i s
    simp only [Option.some.injEq] at hl
    subst hl
    simp only [FVc, List.cons.injEq] at h
    obtain ⟨y, ys, ⟨rfl, rfl⟩, _, _, h1⟩ := h
    rw [valCells_nil h1]
    simp [FV, FVc]
  · cases hl

theorem zAV_FV {E : Env} {z : Option Value} {z0 : Value} (h : (z = some z0 ∧ z0.oneCell' = true ∧ isUnit z0 = false) ∨ (z = none ∧ z0 = .agg #[])) : FV E (zAV z) z0 := by
  rcases h with ⟨rfl, _⟩ | ⟨rfl, rfl⟩
  · simp [zAV, FV]
  · simp [zAV, FV, FVc]

theorem Local.lookup {P : Program} {σ : St} {o : Oper} {t : TypeId} {x i : Operand} {ok : Bool} {d : TypeDesc} {z : Option Value} {rows : List (List AV)} {k : Value} {r : Option (Nat × List AV)} {u : AV} (ho : o.op = .lookup t x i ok) (ht : mapTy P t = some (d, z)) (hm : mapRows σ (σ.ev x) = some (msz z, rows))
    (hk : toVal (σ.ev i) = some k) (hkb : keyB d k = true) (hf : findAV d k rows 0 = some r) (hu : lookAV z ok r = some u) : Local P σ o u [] :=
  Local.value fun C E X a hr => by
    obtain ⟨kt, et, z0, ht1, ht2, hz, hzz⟩ := mapTy_spec ht
    obtain ⟨b, es, clk, hx, hg, hwf, hrow⟩ := hr.mapRows hm (hr.ev x)
    have hke : a.eval i = k := FV.toVal hk (hr.ev i)
    have hpos : 0 < msz z := by cases z <;> simp [msz]
    have hik := keyB_is hkb
    rcases findAV_spec hpos hwf.len hrow hf with ⟨rfl, h1, _⟩ | ⟨j, v, vs, e, rfl, _, _, h2, h3, h1, _⟩
    · simp only [lookAV, Option.some.injEq] at hu
      subst hu
      refine ⟨if ok then .tuple #[z0, .bool false] else z0, ?_, ?_⟩
      · unfold execOp
        cases ok <;> simp [ho, hx, hke, Instr.lookup, run_underlying ht1, Go.MapKept.run_getObj_map hg, Go.MapKept.run_checkKey ht2 hik, Go.MapKept.run_findKey ht2 h1, hz, Result.andThen]
      · have := zAV_FV (E := E) hzz
        cases ok
        · simpa using this
        · simp only [cond_true, if_true, FV, FVs]
          exact ⟨_, rfl, _, _, rfl, this, _, _, rfl, by simp [FV], rfl⟩
    · refine ⟨if ok then .tuple #[e.val, .bool true] else e.val, ?_, ?_⟩
      · unfold execOp
        cases ok <;> simp [ho, hx, hke, Instr.lookup, run_underlying ht1, Go.MapKept.run_getObj_map hg, Go.MapKept.run_checkKey ht2 hik, Go.MapKept.run_findKey ht2 h1, Result.andThen]
      · simp only [lookAV, Option.map_eq_some_iff] at hu
        obtain ⟨u0, hu0, rfl⟩ := hu
        have := FV_val h3 hu0
        cases ok
        · simpa using this
        · simp only [cond_true, if_true, FV, FVs]
          exact ⟨_, rfl, _, _, rfl, this, _, _, rfl, by simp [FV], rfl⟩

theorem Local.lenMap {P : Program} {σ : St} {o : Oper} {t : TypeId} {x : Operand} {d : TypeDesc} {z : Option Value} {rows : List (List AV)} (ho : o.op = .call { callee := .builtin .len, args := #[x], argTypes := #[t] }) (ht : mapTy P t = some (d, z)) (hm : mapRows σ (σ.ev x) = some (msz z, rows)) :
    Local P σ o (.lit (.int .i64 ((rows.length : Nat) : Int))) [] :=
  Local.value fun C E X a hr => by
    obtain ⟨kt, et, z0, ht1, ht2, hz, hzz⟩ := mapTy_spec ht
    obtain ⟨b, es, clk, hx, hg, hwf, hrow⟩ := hr.mapRows hm (hr.ev x)
    have hpos : rows.length = es.size := by
      rw [(FVr_ent (by cases z <;> simp [msz]) hwf.len hrow).1]; simp
    refine ⟨.int .i64 es.size, ?_, by simp [FV, hpos]⟩
    unfold execOp
    simp [ho, resolve, invoke, builtin, Builtin.len_, hx, run_underlying ht1, Go.MapKept.run_getObj_map hg, Result.andThen, goInt]

theorem Local.makeMap {P : Program} {σ : St} {o : Oper} {t : TypeId} {id sz : Nat} (ho : o.op = .makeMap t none) : Local P σ o (.hd id) [(id, ⟨true, t, sz, [], true⟩)] :=
  Local.allocO fun C E X a hr => by
    refine ⟨.map (some E.w.heap.size), .map (some E.w.heap.size), [], .map #[] 0, ?_, rfl, .inr (.inr ⟨_, #[], 0, rfl, Go.heap_alloc_new _ _, ⟨stamped_empty 0, by simp⟩, rfl⟩), by simp [FVr], fun E' hD hH hZ => ?_⟩
    · unfold execOp
      simp only [ho, Option.map_none]
      rfl
    · simp only [FV]
      exact ⟨hD, .inl ⟨_, hH, rfl⟩⟩

/-- The value of an entry that an iterator came to. -/
def entAV : List AV → Option AV
  | [_, v] => some v
  | [_] => some (.agg [])
  | _ => none
def iterAV (σ : St) : AV → Option (AV × List AV)
  | .hd r => (find σ.objs r).bind fun o => bif o.slc then none else match o.rows with
    | [[.rem _ [.lit k :: vs] _]] => some (.lit k, vs)
    | _ => none
  | _ => none
theorem Local.entry {P : Program} {σ : St} {o : Oper} {x : Operand} {k u : AV} {vs : List AV} (ho : o.op = .entry x) (hi : iterAV σ (σ.ev x) = some (k, vs)) (hu : entAV vs = some u) : Local P σ o (.tup [k, u]) [] :=
  Local.value fun C E X a hr => by
    unfold iterAV at hi
    split at hi
    · rename_i r hx
      simp only [Option.bind_eq_some_iff] at hi
      obtain ⟨ob, hob, hi⟩ := hi
      cases hs : ob.slc with
      | true => simp [hs] at hi
      | false =>
        simp only [hs, cond_false] at hi
        split at hi
        · rename_i sz k0 vs0 rest hrows
          simp only [Option.some.injEq, Prod.mk.injEq] at hi
          obtain ⟨rfl, rfl⟩ := hi
          have hv := hr.ev x
          rw [hx] at hv
          obtain ⟨_, hZ, hok, hrr⟩ := hr.objs r ob hob
          obtain ⟨b, m, clk, seen, hH, hg, hX, hxe, _⟩ := hok.asIter hs hv
          rw [hX, hrows] at hrr
          simp only [FVr, FVc] at hrr
          obtain ⟨ys, zs, hcat, _, ⟨y, ys', rfl, _, hfv, rfl⟩, rfl⟩ := hrr
          simp only [List.append_nil, List.cons.injEq, and_true] at hcat
          subst hcat
          simp only [FV] at hfv
          obtain ⟨m', es, clk', seen', left, le, hitv, hS, hgm, hwf, _, hle, hfl, _⟩ := hfv
          obtain ⟨rfl, rfl, rfl⟩ := itv_inj hitv
          rcases le with _ | ⟨e, le⟩
          · exact absurd hfl (FVr_flat_cons (by
              rcases sz with _ | sz
              · exfalso
                simp only [FVr] at hfl
                obtain ⟨_, _, _, h0, _⟩ := hfl
                simp at h0
              · exact Nat.succ_pos _))
          · obtain ⟨hmem, hback⟩ := hle e (by simp)
            obtain ⟨h1, h2, h3⟩ := FVr_rowM hfl (hwf.len e hmem)
            have h2' : FVc E (.lit k0 :: vs0) (rowM e) := by
              have hle' : (E.by ob.cl).clear.le E := ⟨fun b hb => by cases hcl : ob.cl <;> simp [hcl, Env.by, Env.clear] at hb ⊢ <;> exact hb, fun r hr => hr.elim⟩
              exact FVc.le _ hle' _ h2
            have hg2 : E.w.heap[m]? = some (.map es clk) := by cases hcl : ob.cl <;> simpa [hcl, Env.by, Env.clear] using hgm
            have hf : es.find? (·.born == e.born) = some e := by rw [← Array.find?_toList]; exact find_born e es.toList hwf.st.2.1 hmem
            refine ⟨.tuple #[e.key, e.val], ?_, ?_⟩
            · unfold execOp
              simp only [ho, hxe, Instr.entry, getObj, Sem.run_bind, Sem.run, hg, hg2, Result.andThen, hback, bne_self_eq_false, Bool.false_eq_true, if_false, hf]
              rfl
            · have hk : e.key = k0 := by
                have := h2'
                simp only [FVc, rowM, List.cons.injEq] at this
                obtain ⟨y, ys, ⟨rfl, rfl⟩, _, hy, _⟩ := this
                simpa [FV] using hy
              simp only [FV, FVs]
              refine ⟨_, rfl, _, _, rfl, hk, _, _, rfl, ?_, rfl⟩
              unfold entAV at hu
              split at hu
              · exact FV_val (z := some undef) h2' (by simpa [valAV] using hu)
              · exact FV_val (z := none) h2' (by simpa [valAV] using hu)
              · cases hu
        · cases hi
    · cases hi

theorem Local.range {P : Program} {σ : St} {o : Oper} {t : TypeId} {x : Operand} {id sz : Nat} {rows : List (List AV)} {p : TypeDesc × Option Value} (ho : o.op = .range t x) (ht : mapTy P t = some p) (hx : σ.ev x = .shm sz rows) :
    Local P σ o (.hd id) [(id, ⟨false, 0, 1, [[.rem sz [] rows]], true⟩)] :=
  Local.allocO fun C E X a hr => by
    obtain ⟨kt, et, z0, ht1, _⟩ := mapTy_spec (d := p.1) (z := p.2) ht
    have hv := hr.ev x
    rw [hx] at hv
    simp only [FV] at hv
    obtain ⟨b, es, clk, hxe, hS, hg, hwf, hrow⟩ := hv
    have hlt : b < E.w.heap.size := (hr.stay b hS).1
    refine ⟨.pointer (some ⟨E.w.heap.size, 0, none⟩), .chan (some E.w.heap.size), [itv b clk #[]], .mapIter (some b) clk #[] clk, ?_, rfl, .inr ⟨_, b, clk, #[], rfl, rfl, Go.heap_alloc_new _ _, rfl⟩, ?_, fun E' hD hH hZ => ?_⟩
    · unfold execOp
      simp only [ho, hxe, Sem.run_bind, run_range_map E.w t kt et b es clk ht1 hg, Result.andThen_ok, Sem.run_pure]
    · simp only [FVr, FVc, Env.by]
      refine ⟨[itv b clk #[]], [], rfl, rfl, ⟨_, [], rfl, rfl, ?_, rfl⟩, rfl⟩
      simp only [FV]
      exact ⟨b, es, clk, #[], es.toList, [], rfl, hS, hg, hwf, by rw [List.filter_eq_self.2 (fun e he => by simp)], by simp, rfl, hrow⟩
    · simp only [FV]
      exact ⟨hD, .inr ⟨_, hH, rfl⟩⟩
end Go.AM
