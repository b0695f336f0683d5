/-
  Part 3 of the proof: the abstract machine, proved sound over the model.
  Conditions: none.
-/
import Derived.Laws.IdiomRangeMap
import Derived.LoopN
import Derived.Test.YtlpgjlnkfgacbaaGreatX2
set_option linter.unusedVariables false
set_option linter.unusedSimpArgs false
set_option linter.unusedSectionVars false
namespace Go.AM
open Go.MapKept
def mapTy (P : Program) (t : TypeId) : Option (TypeDesc × Option Value) :=
  match P.underlying t with
  | some (.map k e) => match P.underlying k, (P.info? e).bind (·.zero) with
    | some d, some z => bif z.oneCell' && !isUnit z then some (d, some z) else bif isUnit z then some (d, none) else none
    | _, _ => none
  | _ => none
def msz : Option Value → Nat
  | some _ => 3
  | none => 2
def zAV : Option Value → AV
  | some z => .lit z
  | none => .agg []
def keyB : TypeDesc → Value → Bool
  | .bool, .bool _ => true
  | .int k, .int k' _ => decide (k' = k)
  | .string, .string _ => true
  | _, _ => false
theorem keyB_is {d : TypeDesc} {v : Value} (h : keyB d v = true) : IsKey d v := by
  unfold keyB at h
  split at h <;> simp_all [IsKey]
theorem mapTy_spec {P : Program} {t : TypeId} {d : TypeDesc} {z : Option Value} (h : mapTy P t = some (d, z)) : ∃ k e z0, P.underlying t = some (.map k e) ∧ P.underlying k = some d ∧ (∀ w, (zeroValue e).run P w = .ok z0 w) ∧
    ((z = some z0 ∧ z0.oneCell' = true ∧ isUnit z0 = false) ∨ (z = none ∧ z0 = .agg #[])) := by
  unfold mapTy at h
  split at h
  · rename_i k e hu
    split at h
    · rename_i d' z0 hd hz
      simp only [Option.bind_eq_some_iff] at hz; obtain ⟨i, hi, hz⟩ := hz
      have hzr : ∀ w, (zeroValue e).run P w = .ok z0 w := fun w => by simp [zeroValue, typeInfo, hi, hz]
      refine ⟨k, e, z0, hu, ?_⟩
      cases hb : (z0.oneCell' && !isUnit z0) with
      | true =>
        simp only [hb, cond_true, Option.some.injEq, Prod.mk.injEq] at h; simp only [Bool.and_eq_true, Bool.not_eq_true'] at hb; obtain ⟨rfl, rfl⟩ := h; exact ⟨hd, hzr, .inl ⟨rfl, hb.1, hb.2⟩⟩
      | false =>
        simp only [hb, cond_false] at h
        cases hu' : isUnit z0 with
        | false => simp [hu'] at h
        | true =>
          simp only [hu', cond_true, Option.some.injEq, Prod.mk.injEq] at h; obtain ⟨rfl, rfl⟩ := h; exact ⟨hd, hzr, .inr ⟨rfl, isUnit_eq hu'⟩⟩
    · cases h
  · cases h
def findAV (d : TypeDesc) (k : Value) : List (List AV) → Nat → Option (Option (Nat × List AV))
  | [], _ => some none
  | (.lit v :: vs) :: es, i => match Instr.sameNow d k v with
    | some true => some (some (i, vs))
    | some false => findAV d k es (i + 1)
    | none => none
  | _ :: _, _ => none
theorem FVr_rowM {E : Env} {sz : Nat} {row : List AV} {rows : List (List AV)} {e : MapEntry} {es : List MapEntry} (h : FVr E sz (row :: rows) (flatM (e :: es))) (hl : (rowM e).length = sz) : row.length = sz ∧ FVc E row (rowM e) ∧ FVr E sz rows (flatM es) := by
  simp only [FVr] at h; obtain ⟨ys, zs, h0, h1, h2, h3⟩ := h
  have e1 : flatM (e :: es) = rowM e ++ flatM es := by simp [flatM]
  rw [e1] at h0; obtain ⟨rfl, rfl⟩ := List.append_inj h0 (by rw [hl, h2.length, h1]); exact ⟨h1, h2, h3⟩
theorem FVr_rowM_of {E : Env} {sz : Nat} {row : List AV} {rows : List (List AV)} {e : MapEntry} {es : List MapEntry} (h1 : row.length = sz) (h2 : FVc E row (rowM e)) (h3 : FVr E sz rows (flatM es)) : FVr E sz (row :: rows) (flatM (e :: es)) := by
  simp only [FVr]; exact ⟨rowM e, flatM es, by simp [flatM], h1, h2, h3⟩
theorem FVr_flat_nil {E : Env} {sz : Nat} {e : MapEntry} {es : List MapEntry} : ¬ FVr E sz [] (flatM (e :: es)) := by
  intro h; simp only [FVr, flatM, List.map_cons, List.flatten_cons, rowM] at h
  simp at h
theorem FVr_flat_cons {E : Env} {sz : Nat} {row : List AV} {rows : List (List AV)} (h0 : 0 < sz) : ¬ FVr E sz (row :: rows) (flatM []) := by
  intro h; simp only [FVr, flatM, List.map_nil, List.flatten_nil] at h; obtain ⟨ys, zs, h0', h1, h2, h3⟩ := h
  have : ys = [] := by
    cases ys with
    | nil => rfl
    | cons y ys => simp at h0'
  subst this; have := h2.length
  simp at this
  omega
theorem FVr_ent {E : Env} {sz : Nat} (h0 : 0 < sz) : ∀ {rows : List (List AV)} {es : List MapEntry}, (∀ e ∈ es, (rowM e).length = sz) → FVr E sz rows (flatM es) → rows.length = es.length ∧ ∀ (i : Nat) (row : List AV), rows[i]? = some row → ∃ e, es[i]? = some e ∧ row.length = sz ∧ FVc E row (rowM e)
  | [], [], _, _ => ⟨rfl, fun i row h => by simp at h⟩
  | [], e :: es, _, h => absurd h FVr_flat_nil
  | row :: rows, [], _, h => absurd h (FVr_flat_cons h0)
  | row :: rows, e :: es, hl, h => by
    obtain ⟨h1, h2, h3⟩ := FVr_rowM h (hl e (by simp)); obtain ⟨g1, g2⟩ := FVr_ent h0 (fun e' he => hl e' (by simp [he])) h3; refine ⟨by simp [g1], fun i row' hi => ?_⟩
    cases i with
    | zero => simp at hi; subst hi; exact ⟨e, rfl, h1, h2⟩
    | succ i => exact g2 i row' (by simpa using hi)
theorem findAV_spec {E : Env} {sz : Nat} {d : TypeDesc} {k : Value} (h0 : 0 < sz) : ∀ {rows : List (List AV)} {es : List MapEntry} {i : Nat} {r : Option (Nat × List AV)}, (∀ e ∈ es, (rowM e).length = sz) → FVr E sz rows (flatM es) → findAV d k rows i = some r →
    (r = none ∧ Instr.findNow d k es i = some none ∧ ∀ e ∈ es, Instr.sameNow d k e.key = some false) ∨
      ∃ j v vs e, r = some (i + j, vs) ∧ rows[j]? = some (.lit v :: vs) ∧ es[j]? = some e ∧ e.key = v ∧ FVc E (.lit v :: vs) (rowM e) ∧ Instr.findNow d k es i = some (some (i + j, e.val)) ∧ Instr.sameNow d k e.key = some true
  | [], [], i, r, _, _, h => by
    simp only [findAV, Option.some.injEq] at h; subst h; exact .inl ⟨rfl, rfl, by simp⟩
  | [], e :: es, i, r, _, hf, h => absurd hf FVr_flat_nil
  | row :: rows, [], i, r, _, hf, h => absurd hf (FVr_flat_cons h0)
  | row :: rows, e :: es, i, r, hl, hf, h => by
    obtain ⟨h1, h2, h3⟩ := FVr_rowM hf (hl e (by simp))
    rcases row with _ | ⟨c, vs⟩
    · simp [findAV] at h
    cases c <;> try (simp [findAV] at h; done)
    · rename_i v
      simp only [findAV] at h
      have hk : e.key = v := by
        have := h2; simp only [FVc, rowM, List.cons.injEq] at this; obtain ⟨y, ys, ⟨rfl, rfl⟩, _, hy, _⟩ := this
        simpa [FV] using hy
      split at h
      · rename_i hs
        simp only [Option.some.injEq] at h; subst h; refine .inr ⟨0, v, vs, e, rfl, rfl, rfl, hk, h2, ?_, by rw [hk]; exact hs⟩
        simp [Instr.findNow, hk, hs]
      · rename_i hs
        rcases findAV_spec h0 (fun e' he => hl e' (by simp [he])) h3 h with ⟨g1, g2, g3⟩ | ⟨j, v', vs', e', g1, g2, g3, g4, g5, g6, g7⟩
        · refine .inl ⟨g1, by simp [Instr.findNow, hk, hs, g2], fun e' he => ?_⟩
          rcases List.mem_cons.1 he with rfl | he
          · rw [hk]; exact hs
          · exact g3 e' he
        · refine .inr ⟨j + 1, v', vs', e', by rw [g1]; congr 2; omega, by simpa using g2, by simpa using g3, g4, g5, ?_, g7⟩; simp only [Instr.findNow, hk, hs, g6]
          congr 3
          omega
      · cases h
def mapRows (σ : St) : AV → Option (Nat × List (List AV))
  | .hd r => (find σ.objs r).bind fun o => bif o.slc then some (o.sz, o.rows) else none
  | .shm sz rows => some (sz, rows)
  | _ => none
theorem Rel.mapRows {C : Ctx} {E : Env} {X : Nat → List Value} {σ : St} {a : Act} (h : Rel C E X σ a) {v : AV} {x : Value} {sz : Nat} {rows : List (List AV)} (hm : AM.mapRows σ v = some (sz, rows)) (hx : FV E v x) :
    (x = .map none ∧ rows = []) ∨ ∃ b es clk, x = .map (some b) ∧ E.w.heap[b]? = some (.map es clk) ∧ MapWf sz es clk ∧ FVr E sz rows (flatM es.toList) := by
  cases v <;> try (simp [AM.mapRows] at hm; done)
  case hd r =>
    simp only [AM.mapRows, Option.bind_eq_some_iff] at hm; obtain ⟨o, ho, hm⟩ := hm
    cases hs : o.slc with
    | false => simp [hs] at hm
    | true =>
      simp only [hs, cond_true, Option.some.injEq, Prod.mk.injEq] at hm; obtain ⟨rfl, rfl⟩ := hm; obtain ⟨_, hZ, hok, hr⟩ := h.objs r o ho; obtain ⟨b, es, clk, hH, hg, hwf, hfl, rfl⟩ := hok.asMap hs hx; refine .inr ⟨b, es, clk, rfl, hg, hwf, ?_⟩; rw [hfl]; exact FVr.le _ _ (E.by_le o.cl) _ hr
  case shm sz' rows' =>
    simp only [AM.mapRows, Option.some.injEq, Prod.mk.injEq] at hm; obtain ⟨rfl, rfl⟩ := hm; simp only [FV] at hx
    rcases hx with ⟨rfl, rfl⟩ | ⟨b, es, clk, rfl, _, hg, hwf, hr⟩
    · exact .inl ⟨rfl, rfl⟩
    · exact .inr ⟨b, es, clk, rfl, hg, hwf, FVr.le _ _ E.clear_le _ hr⟩
def valAV : Option Value → List AV → Option AV
  | some _, [_, v] => some v
  | none, [_] => some (.agg [])
  | _, _ => none
def lookAV (z : Option Value) (ok : Bool) : Option (Nat × List AV) → Option AV
  | none => some (bif ok then .tup [zAV z, .lit (.bool false)] else zAV z)
  | some (_, vs) => (valAV z vs).map fun u => bif ok then .tup [u, .lit (.bool true)] else u
theorem valCells_one {v y : Value} (h : valCells v = [y]) : v = y := by
  unfold valCells at h
  cases hu : isUnit v with
  | true => simp [hu] at h
  | false => simpa [hu] using h
theorem valCells_nil {v : Value} (h : valCells v = []) : v = .agg #[] := by
  unfold valCells at h
  cases hu : isUnit v with
  | true => exact isUnit_eq hu
  | false => simp [hu] at h
theorem FV_val {E : Env} {z : Option Value} {v0 : Value} {vs : List AV} {e : MapEntry} {u : AV} (h : FVc E (.lit v0 :: vs) (rowM e)) (hl : valAV z vs = some u) : FV E u e.val := by
  simp only [FVc, rowM, List.cons.injEq] at h; obtain ⟨y, ys, ⟨rfl, rfl⟩, _, hy, h⟩ := h
  unfold valAV at hl
  split at hl
  · rename_i z s v
    simp only [Option.some.injEq] at hl; subst hl; simp only [FVc, List.cons.injEq] at h; obtain ⟨y, ys, ⟨rfl, rfl⟩, _, _, y, ys, h1, _, h2, rfl⟩ := h; rw [valCells_one h1]; exact h2
  · rename_i s
    simp only [Option.some.injEq] at hl; subst hl; simp only [FVc, List.cons.injEq] at h; obtain ⟨y, ys, ⟨rfl, rfl⟩, _, _, h1⟩ := h; rw [valCells_nil h1]
    simp [FV, FVc]
  · cases hl
theorem zAV_FV {E : Env} {z : Option Value} {z0 : Value} (h : (z = some z0 ∧ z0.oneCell' = true ∧ isUnit z0 = false) ∨ (z = none ∧ z0 = .agg #[])) : FV E (zAV z) z0 := by
  rcases h with ⟨rfl, _⟩ | ⟨rfl, rfl⟩
  · simp [zAV, FV]
  · simp [zAV, FV, FVc]
theorem Local.lookup {P : Program} {σ : St} {o : Oper} {t : TypeId} {x i : Operand} {ok : Bool} {d : TypeDesc} {z : Option Value} {rows : List (List AV)} {k : Value} {r : Option (Nat × List AV)} {u : AV} (ho : o.op = .lookup t x i ok) (ht : mapTy P t = some (d, z)) (hm : mapRows σ (σ.ev x) = some (msz z, rows))
    (hk : toVal (σ.ev i) = some k) (hkb : keyB d k = true) (hf : findAV d k rows 0 = some r) (hu : lookAV z ok r = some u) : Local P σ o u [] :=
  Local.value fun C E X a hr => by
    obtain ⟨kt, et, z0, ht1, ht2, hz, hzz⟩ := mapTy_spec ht; have hke : a.eval i = k := FV.toVal hk (hr.ev i)
    have hpos : 0 < msz z := by cases z <;> simp [msz]
    have hik := keyB_is hkb
    rcases hr.mapRows hm (hr.ev x) with ⟨hx, rfl⟩ | ⟨b, es, clk, hx, hg, hwf, hrow⟩
    · simp only [findAV, Option.some.injEq] at hf; subst hf; simp only [lookAV, Option.some.injEq] at hu; subst hu; refine ⟨if ok then .tuple #[z0, .bool false] else z0, ?_, ?_⟩
      · have h1 : Instr.findNow d k [] 0 = some none := rfl
        unfold execOp
        cases ok <;> simp [ho, hx, hke, Instr.lookup, run_underlying ht1, Go.MapKept.run_checkKey ht2 hik, Go.MapKept.run_findKey ht2 h1, hz, Result.andThen]
      · have := zAV_FV (E := E) hzz
        cases ok
        · simpa using this
        · simp only [cond_true, if_true, FV, FVs]; exact ⟨_, rfl, _, _, rfl, this, _, _, rfl, by simp [FV], rfl⟩
    rcases findAV_spec hpos hwf.len hrow hf with ⟨rfl, h1, _⟩ | ⟨j, v, vs, e, rfl, _, _, h2, h3, h1, _⟩
    · simp only [lookAV, Option.some.injEq] at hu; subst hu; refine ⟨if ok then .tuple #[z0, .bool false] else z0, ?_, ?_⟩
      · unfold execOp
        cases ok <;> simp [ho, hx, hke, Instr.lookup, run_underlying ht1, Go.MapKept.run_getObj_map hg, Go.MapKept.run_checkKey ht2 hik, Go.MapKept.run_findKey ht2 h1, hz, Result.andThen]
      · have := zAV_FV (E := E) hzz
        cases ok
        · simpa using this
        · simp only [cond_true, if_true, FV, FVs]; exact ⟨_, rfl, _, _, rfl, this, _, _, rfl, by simp [FV], rfl⟩
    · refine ⟨if ok then .tuple #[e.val, .bool true] else e.val, ?_, ?_⟩
      · unfold execOp
        cases ok <;> simp [ho, hx, hke, Instr.lookup, run_underlying ht1, Go.MapKept.run_getObj_map hg, Go.MapKept.run_checkKey ht2 hik, Go.MapKept.run_findKey ht2 h1, Result.andThen]
      · simp only [lookAV, Option.map_eq_some_iff] at hu; obtain ⟨u0, hu0, rfl⟩ := hu; have := FV_val h3 hu0
        cases ok
        · simpa using this
        · simp only [cond_true, if_true, FV, FVs]; exact ⟨_, rfl, _, _, rfl, this, _, _, rfl, by simp [FV], rfl⟩
theorem Local.lenMap {P : Program} {σ : St} {o : Oper} {t : TypeId} {x : Operand} {d : TypeDesc} {z : Option Value} {rows : List (List AV)} (ho : o.op = .call { callee := .builtin .len, args := #[x], argTypes := #[t] }) (ht : mapTy P t = some (d, z)) (hm : mapRows σ (σ.ev x) = some (msz z, rows)) :
    Local P σ o (.lit (.int .i64 ((rows.length : Nat) : Int))) [] :=
  Local.value fun C E X a hr => by
    obtain ⟨kt, et, z0, ht1, ht2, hz, hzz⟩ := mapTy_spec ht
    rcases hr.mapRows hm (hr.ev x) with ⟨hx, rfl⟩ | ⟨b, es, clk, hx, hg, hwf, hrow⟩
    · refine ⟨.int .i64 0, ?_, by simp [FV]⟩
      unfold execOp
      simp [ho, resolve, invoke, builtin, Builtin.len_, hx, run_underlying ht1, Result.andThen, goInt]
    have hpos : rows.length = es.size := by
      rw [(FVr_ent (by cases z <;> simp [msz]) hwf.len hrow).1]; simp
    refine ⟨.int .i64 es.size, ?_, by simp [FV, hpos]⟩
    unfold execOp
    simp [ho, resolve, invoke, builtin, Builtin.len_, hx, run_underlying ht1, Go.MapKept.run_getObj_map hg, Result.andThen, goInt]
theorem Local.makeMap {P : Program} {σ : St} {o : Oper} {t : TypeId} {id sz : Nat} (ho : o.op = .makeMap t none) : Local P σ o (.hd id) [(id, ⟨true, t, sz, [], true⟩)] :=
  Local.allocO fun C E X a hr => by
    refine ⟨.map (some E.w.heap.size), .map (some E.w.heap.size), [], .map #[] 0, ?_, rfl, .inr (.inr ⟨_, #[], 0, rfl, Go.heap_alloc_new _ _, ⟨stamped_empty 0, by simp⟩, rfl⟩), by simp [FVr], fun E' hD hH hZ => ?_⟩
    · unfold execOp
      simp only [ho, Option.map_none]; rfl
    · simp only [FV]; exact ⟨hD, .inl ⟨_, hH, rfl⟩⟩
def entAV : List AV → Option AV
  | [_, v] => some v
  | [_] => some (.agg [])
  | _ => none
def iterAV (σ : St) : AV → Option (AV × List AV)
  | .hd r => (find σ.objs r).bind fun o => bif o.slc then none else match o.rows with
    | [[.rem _ [.lit k :: vs] _]] => some (.lit k, vs)
    | _ => none
  | _ => none
theorem Local.entry {P : Program} {σ : St} {o : Oper} {x : Operand} {k u : AV} {vs : List AV} (ho : o.op = .entry x) (hi : iterAV σ (σ.ev x) = some (k, vs)) (hu : entAV vs = some u) : Local P σ o (.tup [k, u]) [] :=
  Local.value fun C E X a hr => by
    unfold iterAV at hi
    split at hi
    · rename_i r hx
      simp only [Option.bind_eq_some_iff] at hi; obtain ⟨ob, hob, hi⟩ := hi
      cases hs : ob.slc with
      | true => simp [hs] at hi
      | false =>
        simp only [hs, cond_false] at hi
        split at hi
        · rename_i sz k0 vs0 rest hrows
          simp only [Option.some.injEq, Prod.mk.injEq] at hi; obtain ⟨rfl, rfl⟩ := hi; have hv := hr.ev x; rw [hx] at hv; obtain ⟨_, hZ, hok, hrr⟩ := hr.objs r ob hob; obtain ⟨b, it, hH, hg, hxe, _, hit⟩ := hok.asIter hs hv; rw [hrows] at hrr; simp only [FVr, FVc] at hrr; obtain ⟨ys, zs, hcat, _, ⟨y, ys', rfl, _, hfv, rfl⟩, rfl⟩ := hrr; simp only [List.append_nil] at hcat; simp only [FV] at hfv
          rcases hit with ⟨_, hX⟩ | ⟨m, clk, seen, rfl, hX⟩
          · rw [hX] at hcat; simp only [List.cons.injEq, and_true] at hcat; subst hcat
            rcases hfv with ⟨_, h, _⟩ | ⟨_, _, _, _, _, _, h, _⟩
            · cases h
            · simp [itn, itv] at h
          rw [hX] at hcat; simp only [List.cons.injEq, and_true] at hcat; subst hcat
          rcases hfv with ⟨h, _⟩ | ⟨m', es, clk', seen', left, le, hitv, hS, hgm, hwf, _, hle, hfl, _⟩
          · simp [itn, itv] at h
          obtain ⟨rfl, rfl, rfl⟩ := itv_inj hitv
          rcases le with _ | ⟨e, le⟩
          · exact absurd hfl (FVr_flat_cons (by
              rcases sz with _ | sz
              · exfalso
                simp only [FVr] at hfl; obtain ⟨_, _, _, h0, _⟩ := hfl
                simp at h0
              · exact Nat.succ_pos _))
          · obtain ⟨hmem, hback⟩ := hle e (by simp); obtain ⟨h1, h2, h3⟩ := FVr_rowM hfl (hwf.len e hmem)
            have h2' : FVc E (.lit k0 :: vs0) (rowM e) := by
              have hle' : (E.by ob.cl).clear.le E := ⟨fun b hb => by cases hcl : ob.cl <;> simp [hcl, Env.by, Env.clear] at hb ⊢ <;> exact hb, fun r hr => hr.elim⟩; exact FVc.le _ hle' _ h2
            have hg2 : E.w.heap[m]? = some (.map es clk) := by cases hcl : ob.cl <;> simpa [hcl, Env.by, Env.clear] using hgm
            have hf : es.find? (·.born == e.born) = some e := by rw [← Array.find?_toList]; exact find_born e es.toList hwf.st.2.1 hmem
            refine ⟨.tuple #[e.key, e.val], ?_, ?_⟩
            · unfold execOp
              simp only [ho, hxe, Instr.entry, getObj, Sem.run_bind, Sem.run, hg, hg2, Result.andThen, hback, bne_self_eq_false, Bool.false_eq_true, if_false, hf]; rfl
            · have hk : e.key = k0 := by
                have := h2'; simp only [FVc, rowM, List.cons.injEq] at this; obtain ⟨y, ys, ⟨rfl, rfl⟩, _, hy, _⟩ := this
                simpa [FV] using hy
              simp only [FV, FVs]; refine ⟨_, rfl, _, _, rfl, hk, _, _, rfl, ?_, rfl⟩
              unfold entAV at hu
              split at hu
              · exact FV_val (z := some undef) h2' (by simpa [valAV] using hu)
              · exact FV_val (z := none) h2' (by simpa [valAV] using hu)
              · cases hu
        · cases hi
    · cases hi
theorem Local.range {P : Program} {σ : St} {o : Oper} {t : TypeId} {x : Operand} {id sz : Nat} {rows : List (List AV)} {p : TypeDesc × Option Value} (ho : o.op = .range t x) (ht : mapTy P t = some p) (hx : σ.ev x = .shm sz rows) :
    Local P σ o (.hd id) [(id, ⟨false, 0, 1, [[.rem sz [] rows]], true⟩)] :=
  Local.allocO fun C E X a hr => by
    obtain ⟨kt, et, z0, ht1, _⟩ := mapTy_spec (d := p.1) (z := p.2) ht; have hv := hr.ev x; rw [hx] at hv; simp only [FV] at hv
    rcases hv with ⟨hxe, rfl⟩ | ⟨b, es, clk, hxe, hS, hg, hwf, hrow⟩
    · refine ⟨.pointer (some ⟨E.w.heap.size, 0, none⟩), .chan (some E.w.heap.size), [itn], .mapIter none 0 #[] 0, ?_, rfl, .inr ⟨_, _, rfl, rfl, Go.heap_alloc_new _ _, .inl ⟨rfl, rfl⟩⟩, ?_, fun E' hD hH hZ => ?_⟩
      · unfold execOp
        simp [ho, hxe, Instr.range, run_underlying ht1, Result.andThen, newObj, Sem.run]
      · simp only [FVr, FVc, Env.by]; refine ⟨[itn], [], rfl, rfl, ⟨_, [], rfl, rfl, ?_, rfl⟩, rfl⟩
        simp [FV]
      · simp only [FV]; exact ⟨hD, .inr ⟨_, hH, rfl⟩⟩
    have hlt : b < E.w.heap.size := (hr.stay b hS).1; refine ⟨.pointer (some ⟨E.w.heap.size, 0, none⟩), .chan (some E.w.heap.size), [itv b clk #[]], .mapIter (some b) clk #[] clk, ?_, rfl, .inr ⟨_, _, rfl, rfl, Go.heap_alloc_new _ _, .inr ⟨b, clk, #[], rfl, rfl⟩⟩, ?_, fun E' hD hH hZ => ?_⟩
    · unfold execOp
      simp only [ho, hxe, Sem.run_bind, run_range_map E.w t kt et b es clk ht1 hg, Result.andThen_ok, Sem.run_pure]
    · simp only [FVr, FVc, Env.by]; refine ⟨[itv b clk #[]], [], rfl, rfl, ⟨_, [], rfl, rfl, ?_, rfl⟩, rfl⟩; simp only [FV]; exact .inr ⟨b, es, clk, #[], es.toList, [], rfl, hS, hg, hwf, by rw [List.filter_eq_self.2 (fun e he => by simp)], by simp, rfl, hrow⟩
    · simp only [FV]; exact ⟨hD, .inr ⟨_, hH, rfl⟩⟩
end Go.AM
namespace Go.AM
def wpL0 (P : Program) (ops : Array Oper) (Q : Exit → Act → World → Prop) : List Oper → Act → World → Prop
  | [], a, w => Q .normal a w
  | o :: rest, a, w => if Region.wanted o (yielded ops a.tmps) then o.wp P a w (wpL0 P ops Q rest) Q else wpL0 P ops Q rest (a.put o.dst undef) w
@[irreducible] def wpL (P : Program) (ops : Array Oper) (Q : Exit → Act → World → Prop) (l : List Oper) (a : Act) (w : World) : Prop := wpL0 P ops Q l a w
theorem wpL_def (P : Program) (ops : Array Oper) (Q : Exit → Act → World → Prop) (l : List Oper) (a : Act) (w : World) : wpL P ops Q l a w = wpL0 P ops Q l a w := by unfold wpL; rfl
theorem wpL_fun (P : Program) (ops : Array Oper) (Q : Exit → Act → World → Prop) (l : List Oper) : wpL P ops Q l = wpL0 P ops Q l := by funext a w; exact wpL_def P ops Q l a w
theorem wpL_nil (P : Program) (ops : Array Oper) (Q : Exit → Act → World → Prop) (a : Act) (w : World) : wpL P ops Q [] a w = Q .normal a w := by rw [wpL_def]; rfl
theorem wpL_cons (P : Program) (ops : Array Oper) (Q : Exit → Act → World → Prop) (o : Oper) (rest : List Oper) (a : Act) (w : World) : wpL P ops Q (o :: rest) a w = if Region.wanted o (yielded ops a.tmps) then o.wp P a w (wpL P ops Q rest) Q else wpL P ops Q rest (a.put o.dst undef) w := by
  rw [wpL_def, wpL_fun]; rfl
theorem wpOps_of_wpL {P : Program} {ops : Array Oper} {Q : Exit → Act → World → Prop} : ∀ (n k : Nat), k + n = ops.size → ∀ a w, wpL P ops Q (ops.toList.drop k) a w → wpOps P ops Q (List.range' k n) a w
  | 0, k, hk, a, w, h => by
    rw [List.drop_of_length_le (by simp; omega)] at h
    simpa [wpOps, wpL_nil] using h
  | n + 1, k, hk, a, w, h => by
    have hlt : k < ops.size := by omega
    rw [List.drop_eq_getElem_cons (by simpa using hlt)] at h; simp only [List.range'_succ, wpOps]; have ho : ops[k]? = some ops[k] := Array.getElem?_eq_getElem hlt; simp only [ho]; simp only [wpL_cons, Array.getElem_toList] at h
    split
    · rename_i hw
      simp only [hw, if_true] at h; exact .inl (Oper.wp_mono (fun a' w' h' => wpOps_of_wpL n (k + 1) (by omega) a' w' h') h)
    · rename_i hw
      simp only [hw, if_false, Bool.false_eq_true] at h; exact wpOps_of_wpL n (k + 1) (by omega) _ _ h
theorem wp_region_L {P : Program} {id : Nat} {ops : Array Oper} {Q : Exit → Act → World → Prop} {a : Act} {w : World} (h : wpL P ops Q ops.toList a w) : (Code.region id ops false).wp P Q a w := by
  refine wp_region ?_; rw [List.range_eq_range']; exact wpOps_of_wpL ops.size 0 (by omega) a w (by simpa using h)
def SeqL (P : Program) (ops : Array Oper) (l : List Oper) (σ : St) (Q : St → Prop) : Prop :=
  ∀ C E X a, Rel C E X σ a → ∀ (Q' : Exit → Act → World → Prop), (∀ E' X' σ' a', Rel C E' X' σ' a' → Q σ' → Q' .normal a' E'.w) → wpL P ops Q' l a E.w
def guardGo (ds : List (Option Nat)) (σ : St) : Option (Nat × Bool) → Option Bool
  | none => some true
  | some (j, want) => match ds[j]? with
    | some (some d) => match σ.get d with
      | .lit (.bool b) => some (b == want)
      | .lit _ => some false
      | _ => none
    | _ => none
def dstsOf (ops : Array Oper) : List (Option Nat) := ops.toList.map (·.dst)
theorem Rel.guard {C : Ctx} {E : Env} {X : Nat → List Value} {σ : St} {a : Act} (h : Rel C E X σ a) {ops : Array Oper} {o : Oper} {b : Bool} (hg : guardGo (dstsOf ops) σ o.guard = some b) :
    Region.wanted o (yielded ops a.tmps) = b := by
  unfold guardGo at hg
  unfold Region.wanted
  split at hg
  · rename_i hn
    simp only [Option.some.injEq] at hg
    simp [hn, hg]
  · rename_i j want hn
    simp only [hn]
    split at hg
    · rename_i d hd
      split at hg
      · rename_i t ht
        simp only [Option.some.injEq] at hg; simp only [dstsOf, List.getElem?_map, Option.map_eq_some_iff, Array.getElem?_toList] at hd; obtain ⟨o', ho', hd⟩ := hd; have hv := h.ev (.tmp d); simp only [St.ev, ht, FV, Act.eval] at hv
        have hy : yielded ops a.tmps j = some t := by
          unfold yielded
          simp only [ho', Option.bind_some, hd]
          by_cases hlt : d < a.tmps.size
          · have : a.tmps[d]? = some (.bool t) := by
              rw [Array.getElem?_eq_getElem hlt]
              simpa [Array.getD, hlt] using hv
            simp [this]
          · simp [Array.getD, hlt, undef] at hv
        rw [hy, ← hg]
        cases t <;> cases want <;> rfl
      · rename_i u hnb hu
        simp only [Option.some.injEq] at hg; simp only [dstsOf, List.getElem?_map, Option.map_eq_some_iff, Array.getElem?_toList] at hd; obtain ⟨o', ho', hd⟩ := hd; have hv := h.ev (.tmp d); simp only [St.ev, hu, FV, Act.eval] at hv
        have hy : yielded ops a.tmps j = none := by
          unfold yielded
          simp only [ho', Option.bind_some, hd]
          by_cases hlt : d < a.tmps.size
          · have : a.tmps[d]? = some u := by
              rw [Array.getElem?_eq_getElem hlt]
              simpa [Array.getD, hlt] using hv
            rw [this]
            split
            · rename_i b hb
              simp only [Option.some.injEq] at hb; exact absurd hb (fun e => hnb b e)
            · rfl
          · simp [hlt]
        rw [hy, ← hg]; rfl
      · cases hg
    · cases hg
theorem SeqL.nil {P : Program} {ops : Array Oper} {σ : St} {Q : St → Prop} (h : Q σ) : SeqL P ops [] σ Q := fun C E X a hr Q' hq => (wpL_nil P ops Q' a E.w).symm ▸ hq E X σ a hr h
theorem SeqL.write {P : Program} {ops : Array Oper} {o : Oper} {rest : List Oper} {σ σ' : St} {Q : St → Prop} (hg : guardGo (dstsOf ops) σ o.guard = some true) (hw : Writer P σ o σ') (h : SeqL P ops rest σ' Q) :
    SeqL P ops (o :: rest) σ Q := by
  intro C E X a hr Q' hq; simp only [wpL_cons, hr.guard hg, if_true]; exact hw C E X a hr _ _ fun E' X' a' hr' => h C E' X' a' hr' Q' hq
theorem SeqL.skip {P : Program} {ops : Array Oper} {o : Oper} {rest : List Oper} {σ : St} {Q : St → Prop} (hg : guardGo (dstsOf ops) σ o.guard = some false) (hd : ∀ d, o.dst = some d → d < σ.nt)
    (h : SeqL P ops rest (σ.put o.dst (.lit undef)) Q) : SeqL P ops (o :: rest) σ Q := by
  intro C E X a hr Q' hq; simp only [wpL_cons, hr.guard hg, if_false, Bool.false_eq_true]; exact h C E X _ (hr.put o.dst hd (by simp [FV])) Q' hq
def Ev (P : Program) (c : Code) (σ : St) (Q : Exit → St → Prop) : Prop :=
  ∀ C E X a, Rel C E X σ a → c.wp P (fun e a' w' => ∃ E' X' σ', E'.w = w' ∧ Rel C E' X' σ' a' ∧ Q e σ') a E.w
section ev
variable {P : Program} {σ : St} {Q : Exit → St → Prop}
theorem Ev.mono {c : Code} {Q' : Exit → St → Prop} (h : Ev P c σ Q) (hq : ∀ e σ', Q e σ' → Q' e σ') : Ev P c σ Q' :=
  fun C E X a hr => wp_mono (h C E X a hr) fun e a' w' ⟨E', X', σ', h1, h2, h3⟩ => ⟨E', X', σ', h1, h2, hq e σ' h3⟩
def thenP (K : St → Prop) (Q : Exit → St → Prop) : Exit → St → Prop
  | .normal, σ => K σ
  | e, σ => Q e σ
theorem Ev.seq {x y : Code} (h : Ev P x σ (thenP (fun σ' => Ev P y σ' Q) Q)) : Ev P (.seq x y) σ Q := by
  intro C E X a hr; refine wp_seq (wp_mono (h C E X a hr) ?_); rintro e a' w' ⟨E', X', σ', rfl, h2, h3⟩
  cases e <;> simp only [Exit.then, thenP] at h3 ⊢
  case normal => exact h3 C E' X' a' h2
  all_goals exact ⟨E', X', σ', rfl, h2, h3⟩
theorem Ev.region {id : Nat} {ops : Array Oper} (h : SeqL P ops ops.toList σ (Q .normal)) : Ev P (.region id ops false) σ Q := by
  intro C E X a hr; exact wp_region_L (h C E X a hr _ fun E' X' σ' a' hr' hq => ⟨E', X', σ', rfl, hr', hq⟩)
theorem Ev.region_k {id : Nat} {l : List Oper} (h : ∀ K : St → Prop, (∀ σ', Q .normal σ' → K σ') → SeqL P ⟨l⟩ l σ K) : Ev P (.region id ⟨l⟩ false) σ Q :=
  Ev.region (h _ fun _ hq => hq)
theorem Ev.skip (h : Q .normal σ) : Ev P .skip σ Q := fun C E X a hr => wp_skip ⟨E, X, σ, rfl, hr, h⟩
theorem Ev.exit {id : Nat} (h : Q (.exit id) σ) : Ev P (.exit id) σ Q := fun C E X a hr => wp_exit ⟨E, X, σ, rfl, hr, h⟩
theorem Ev.ret (h : Q .ret σ) : Ev P .ret σ Q := fun C E X a hr => wp_ret ⟨E, X, σ, rfl, hr, h⟩
def inBlockP (id : Nat) (Q : Exit → St → Prop) : Exit → St → Prop
  | .exit id', σ => if id' = id then Q .normal σ else Q (.exit id') σ
  | e, σ => Q e σ
theorem Ev.block {id : Nat} {c : Code} (h : Ev P c σ (inBlockP id Q)) : Ev P (.block id c) σ Q := by
  intro C E X a hr; refine wp_block (wp_mono (h C E X a hr) ?_); rintro e a' w' ⟨E', X', σ', rfl, h2, h3⟩
  cases e <;> simp only [Exit.inBlock, inBlockP] at h3 ⊢
  case exit id' =>
    split
    · rename_i e
      simp only [e, if_true] at h3; exact ⟨E', X', σ', rfl, h2, h3⟩
    · rename_i e
      simp only [e, if_false] at h3; exact ⟨E', X', σ', rfl, h2, h3⟩
  all_goals exact ⟨E', X', σ', rfl, h2, h3⟩
theorem Ev.cond {c : Operand} {x y : Code} {b : Bool} (hc : σ.ev c = .lit (.bool b)) (ht : b = true → Ev P x σ Q) (hf : b = false → Ev P y σ Q) : Ev P (.cond c x y) σ Q := by
  intro C E X a hr; have hv := hr.ev c; rw [hc] at hv; simp only [FV] at hv; exact wp_cond_split hv (fun e => ht e C E X a hr) (fun e => hf e C E X a hr)
def Wk (σ σ' : St) : Prop := ∀ C E X a, Rel C E X σ a → ∃ E' X', E'.w = E.w ∧ Rel C E' X' σ' a
theorem Ev.weaken {c : Code} {σ' : St} (hw : Wk σ σ') (h : Ev P c σ' Q) : Ev P c σ Q := by
  intro C E X a hr; obtain ⟨E', X', e, hr'⟩ := hw C E X a hr; rw [← e]; exact h C E' X' a hr'
theorem SeqL.weaken {ops : Array Oper} {l : List Oper} {σ σ' : St} {K : St → Prop} (hw : Wk σ σ') (h : SeqL P ops l σ' K) : SeqL P ops l σ K := by
  intro C E X a hr; obtain ⟨E', X', e, hr'⟩ := hw C E X a hr; rw [← e]; exact h C E' X' a hr'
def roundP {ι : Type} (I : ι → St) (μ : ι → Nat) (x : ι) (Q : Exit → St → Prop) : Exit → St → Prop
  | .normal, σ' => ∃ y, μ y < μ x ∧ Wk σ' (I y)
  | e, σ' => Q e σ'
theorem Ev.loop {c : Code} {ι : Type} (I : ι → St) (μ : ι → Nat) (x0 : ι) (h0 : Wk σ (I x0)) (round : ∀ x, Ev P c (I x) (roundP I μ x Q)) : Ev P (.loop c) σ Q := by
  intro C E X a hr
  have key : ∀ n x E X a, μ x < n → Rel C E X (I x) a →
      Code.rounds P c (fun e a' w' => ∃ E' X' σ', E'.w = w' ∧ Rel C E' X' σ' a' ∧ Q e σ') n a E.w := by
    intro n
    induction n with
    | zero => intro x E X a h; omega
    | succ n ih =>
      intro x E X a h hr; rw [rounds_succ]; refine wp_mono (round x C E X a hr) ?_; rintro e a' w' ⟨E', X', σ', rfl, h2, h3⟩
      cases e <;> simp only [Exit.then, roundP] at h3 ⊢
      case normal =>
        obtain ⟨y, hy, hw⟩ := h3; obtain ⟨E'', X'', e, hr'⟩ := hw C E' X' a' h2; rw [← e]; exact ih y E'' X'' a' (by omega) hr'
      all_goals exact ⟨E', X', σ', rfl, h2, h3⟩
  obtain ⟨E', X', e, hr'⟩ := h0 C E X a hr; have := key (μ x0 + 1) x0 E' X' a (by omega) hr'; rw [← e]; exact wp_loop_rounds _ this
end ev
def argSlots : Nat → List AV → List (Nat × AV)
  | _, [] => []
  | k, v :: vs => (k, v) :: argSlots (k + 1) vs
theorem find_argSlots : ∀ (vs : List AV) (k s : Nat) (v : AV), find (argSlots k vs) s = some v → k ≤ s ∧ vs[s - k]? = some v
  | [], k, s, v, h => by simp [argSlots, find] at h
  | u :: vs, k, s, v, h => by
    simp only [argSlots] at h; rw [find_cons] at h
    split at h
    · rename_i e
      simp only [Option.some.injEq] at h; subst e h
      simp
    · obtain ⟨h1, h2⟩ := find_argSlots vs (k + 1) s v h; refine ⟨by omega, ?_⟩; rw [show s - k = (s - (k + 1)) + 1 by omega]
      simpa using h2
def Bodied (P : Program) (f : FuncId) : Prop := ∃ fn, P.funcs[f]? = some fn ∧ fn.body.isNone = false ∧ (fn.name == "runtime.NumGoroutine") = false
def Fun (P : Program) (f : FuncId) (args : List AV) (Post : AV → List (Nat × Obj) → Prop) : Prop :=
  Bodied P f ∧ ∀ (E : Env) (xs : List Value), FVs E.clear args xs → (∀ b, E.S b → b < E.w.heap.size) → LaidOK E.w E.S →
    Calls P f xs.toArray E.w (fun e w' => ∃ y v objs E' X', e = .returned y ∧ E'.w = w' ∧ Post v objs ∧ LocalPost E.clear v objs y E' X')
def Ret (v : AV) (objs : List (Nat × Obj)) (v' : AV) (objs' : List (Nat × Obj)) : Prop := v' = v ∧ objs' = objs
theorem Fun.mono {P : Program} {f : FuncId} {args : List AV} {Post Post' : AV → List (Nat × Obj) → Prop} (h : Fun P f args Post) (hp : ∀ v objs, Post v objs → Post' v objs) : Fun P f args Post' :=
  ⟨h.1, fun E xs h1 h2 h3 => (h.2 E xs h1 h2 h3).mono fun e w' ⟨y, v, objs, E', X', g1, g2, g3, g4⟩ => ⟨y, v, objs, E', X', g1, g2, hp v objs g3, g4⟩⟩
mutual
def renAV (ρ : Nat → Option Nat) : AV → Option AV
  | .als r lo n => (ρ r).map fun r' => .als r' lo n
  | .adr r i j => (ρ r).map fun r' => .adr r' i j
  | .agg cs => (renL ρ cs).map .agg
  | .tup cs => (renL ρ cs).map .tup
  | .fn f first caps => match renL ρ first, renL ρ caps with
    | some x, some y => some (.fn f x y)
    | _, _ => none
  | .top => some .top
  | .lit v => some (.lit v)
  | .sh s rows => some (.sh s rows)
  | .sadr row j => some (.sadr row j)
  | .hd r => (ρ r).map .hd
  | .shm s rows => some (.shm s rows)
  | .rem s la rows => some (.rem s la rows)
def renL (ρ : Nat → Option Nat) : List AV → Option (List AV)
  | [] => some []
  | c :: cs => match renAV ρ c, renL ρ cs with
    | some x, some xs => some (x :: xs)
    | _, _ => none
end
structure Env.ren (ρ : Nat → Option Nat) (E E' : Env) : Prop where
  stay : ∀ b, E.S b → E'.S b ∧ E'.w.heap[b]? = E.w.heap[b]?
  root : ∀ r r', E.D r → ρ r = some r' → E'.D r' ∧ E'.H r' = E.H r ∧ E'.Z r' = E.Z r
theorem Env.ren.clear {ρ : Nat → Option Nat} {E E' : Env} (h : E.ren ρ E') : E.clear.le E'.clear := ⟨h.stay, fun _ hr => hr.elim⟩
mutual
theorem FV.ren {ρ : Nat → Option Nat} {E E' : Env} (h : E.ren ρ E') : ∀ {v v' : AV} {x : Value}, renAV ρ v = some v' → FV E v x → FV E' v' x
  | .top, _, _, hv, _ => by simp only [renAV, Option.some.injEq] at hv; subst hv; simp [FV]
  | .lit v, _, x, hv, hx => by simp only [renAV, Option.some.injEq] at hv; subst hv; simpa [FV] using hx
  | .sh s rows, _, x, hv, hx => by
    simp only [renAV, Option.some.injEq] at hv; subst hv; have := FV.closed (v := .sh s rows) rfl hx; exact FV.le _ E'.clear_le _ (FV.le _ h.clear _ this)
  | .sadr row j, _, x, hv, hx => by
    simp only [renAV, Option.some.injEq] at hv; subst hv; have := FV.closed (v := .sadr row j) rfl hx; exact FV.le _ E'.clear_le _ (FV.le _ h.clear _ this)
  | .shm s rows, _, x, hv, hx => by
    simp only [renAV, Option.some.injEq] at hv; subst hv; have := FV.closed (v := .shm s rows) rfl hx; exact FV.le _ E'.clear_le _ (FV.le _ h.clear _ this)
  | .rem s la rows, _, x, hv, hx => by
    simp only [renAV, Option.some.injEq] at hv; subst hv; have := FV.closed (v := .rem s la rows) rfl hx; exact FV.le _ E'.clear_le _ (FV.le _ h.clear _ this)
  | .hd r, _, x, hv, hx => by
    simp only [renAV, Option.map_eq_some_iff] at hv; obtain ⟨r', hr, rfl⟩ := hv; simp only [FV] at hx ⊢; obtain ⟨h1, h2, h3⟩ := h.root r r' hx.1 hr; rw [h2]; exact ⟨h1, hx.2⟩
  | .als r lo n, _, x, hv, hx => by
    simp only [renAV, Option.map_eq_some_iff] at hv; obtain ⟨r', hr, rfl⟩ := hv; simp only [FV] at hx ⊢; obtain ⟨h1, h2, h3⟩ := h.root r r' hx.1 hr; rw [h2, h3]; exact ⟨h1, hx.2⟩
  | .adr r i j, _, x, hv, hx => by
    simp only [renAV, Option.map_eq_some_iff] at hv; obtain ⟨r', hr, rfl⟩ := hv; simp only [FV] at hx ⊢; obtain ⟨h1, h2, h3⟩ := h.root r r' hx.1 hr; rw [h2, h3]; exact ⟨h1, hx.2⟩
  | .agg cs, _, x, hv, hx => by
    simp only [renAV, Option.map_eq_some_iff] at hv; obtain ⟨cs', hr, rfl⟩ := hv; simp only [FV] at hx ⊢; obtain ⟨xs, e, hc⟩ := hx; exact ⟨xs, e, FVc.ren h hr hc⟩
  | .tup cs, _, x, hv, hx => by
    simp only [renAV, Option.map_eq_some_iff] at hv; obtain ⟨cs', hr, rfl⟩ := hv; simp only [FV] at hx ⊢; obtain ⟨xs, e, hc⟩ := hx; exact ⟨xs, e, FVs.ren h hr hc⟩
  | .fn f first caps, v', x, hv, hx => by
    simp only [renAV] at hv
    split at hv
    · rename_i y z h1 h2
      simp only [Option.some.injEq] at hv; subst hv; simp only [FV] at hx ⊢; obtain ⟨xs, ys, e, g1, g2⟩ := hx; exact ⟨xs, ys, e, FVs.ren h h1 g1, FVs.ren h h2 g2⟩
    · cases hv
theorem FVc.ren {ρ : Nat → Option Nat} {E E' : Env} (h : E.ren ρ E') : ∀ {cs cs' : List AV} {xs : List Value}, renL ρ cs = some cs' → FVc E cs xs → FVc E' cs' xs
  | [], _, _, hv, hx => by simp only [renL, Option.some.injEq] at hv; subst hv; simpa [FVc] using hx
  | c :: cs, cs', xs, hv, hx => by
    simp only [renL] at hv
    split at hv
    · rename_i y ys h1 h2
      simp only [Option.some.injEq] at hv; subst hv; simp only [FVc] at hx ⊢; obtain ⟨z, zs, e, h0, g1, g2⟩ := hx; exact ⟨z, zs, e, h0, FV.ren h h1 g1, FVc.ren h h2 g2⟩
    · cases hv
theorem FVs.ren {ρ : Nat → Option Nat} {E E' : Env} (h : E.ren ρ E') : ∀ {cs cs' : List AV} {xs : List Value}, renL ρ cs = some cs' → FVs E cs xs → FVs E' cs' xs
  | [], _, _, hv, hx => by simp only [renL, Option.some.injEq] at hv; subst hv; simpa [FVs] using hx
  | c :: cs, cs', xs, hv, hx => by
    simp only [renL] at hv
    split at hv
    · rename_i y ys h1 h2
      simp only [Option.some.injEq] at hv; subst hv; simp only [FVs] at hx ⊢; obtain ⟨z, zs, e, g1, g2⟩ := hx; exact ⟨z, zs, e, FV.ren h h1 g1, FVs.ren h h2 g2⟩
    · cases hv
end
def renR (ρ : Nat → Option Nat) : List (List AV) → Option (List (List AV))
  | [] => some []
  | r :: rs => match renL ρ r, renR ρ rs with
    | some x, some xs => some (x :: xs)
    | _, _ => none
theorem renL_length {ρ : Nat → Option Nat} : ∀ {cs cs' : List AV}, renL ρ cs = some cs' → cs'.length = cs.length
  | [], _, h => by simp only [renL, Option.some.injEq] at h; subst h; rfl
  | c :: cs, cs', h => by
    simp only [renL] at h
    split at h
    · rename_i y ys h1 h2
      simp only [Option.some.injEq] at h; subst h
      simp [renL_length h2]
    · cases h
theorem renR_length {ρ : Nat → Option Nat} : ∀ {cs cs' : List (List AV)}, renR ρ cs = some cs' → cs'.length = cs.length
  | [], _, h => by simp only [renR, Option.some.injEq] at h; subst h; rfl
  | c :: cs, cs', h => by
    simp only [renR] at h
    split at h
    · rename_i y ys h1 h2
      simp only [Option.some.injEq] at h; subst h
      simp [renR_length h2]
    · cases h
theorem FVr.ren {ρ : Nat → Option Nat} {E E' : Env} (h : E.ren ρ E') {sz : Nat} : ∀ {rows rows' : List (List AV)} {xs : List Value}, renR ρ rows = some rows' → FVr E sz rows xs → FVr E' sz rows' xs
  | [], _, _, hv, hx => by simp only [renR, Option.some.injEq] at hv; subst hv; simpa [FVr] using hx
  | c :: cs, cs', xs, hv, hx => by
    simp only [renR] at hv
    split at hv
    · rename_i y ys h1 h2
      simp only [Option.some.injEq] at hv; subst hv; simp only [FVr] at hx ⊢; obtain ⟨z, zs, e, h0, g1, g2⟩ := hx; exact ⟨z, zs, e, by rw [renL_length h1]; exact h0, FVc.ren h h1 g1, FVr.ren h h2 g2⟩
    · cases hv
def renObj (ρ : Nat → Option Nat) (o : Obj) : Option Obj :=
  match o.cl with
  | true => some o
  | false => (renR ρ o.rows).map fun rows => { o with rows := rows }
theorem renObj_spec {ρ : Nat → Option Nat} {o o' : Obj} (h : renObj ρ o = some o') : o'.slc = o.slc ∧ o'.elem = o.elem ∧ o'.sz = o.sz ∧ o'.cl = o.cl ∧ o'.rows.length = o.rows.length ∧ (o.cl = true → o'.rows = o.rows) ∧ (o.cl = false → renR ρ o.rows = some o'.rows) := by
  unfold renObj at h
  split at h
  · rename_i hc
    simp only [Option.some.injEq] at h; subst h
    simp [hc]
  · rename_i hc
    simp only [Option.map_eq_some_iff] at h; obtain ⟨rows, hr, rfl⟩ := h
    simp [hc, hr, renR_length hr]
theorem ObjOK.ren {w : World} {hd : Value} {xs : List Value} {o o' : Obj} {ρ : Nat → Option Nat} (hr : renObj ρ o = some o') (h : ObjOK w hd xs o) : ObjOK w hd xs o' := by
  obtain ⟨h1, h2, h3, _, h5, _, _⟩ := renObj_spec hr
  unfold ObjOK at h ⊢
  rw [h1]
  split
  · rename_i hs
    rw [hs] at h
    simp only at h
    rcases h with ⟨e1, e2, e3⟩ | ⟨b, cap, cur, e1, e2, e3, e4, e5, e6⟩ | h
    · exact .inl ⟨e1, List.eq_nil_of_length_eq_zero (by rw [h5, e2]; rfl), e3⟩
    · exact .inr (.inl ⟨b, cap, cur, by rw [h5]; exact e1, by rw [h2]; exact e2, by rw [h5]; exact e3, e4, by rw [h3]; exact e5, by rw [h5, h3]; exact e6⟩)
    · exact .inr (.inr (by rw [h3]; exact h))
  · rename_i hs
    rw [hs] at h
    simp only at h
    rcases h with ⟨b, e1, e2, e3⟩ | ⟨b, it, e1, e2, e3, e4⟩
    · exact .inl ⟨b, e1, by rw [h5]; exact e2, by rw [h2]; exact e3⟩
    · exact .inr ⟨b, it, e1, by rw [h5]; exact e2, e3, e4⟩
theorem FVr.renObj {E E' : Env} {xs : List Value} {o o' : Obj} {ρ : Nat → Option Nat} (hr : AM.renObj ρ o = some o') (hE : E.ren ρ E') (h : FVr (E.by o.cl) o.sz o.rows xs) : FVr (E'.by o'.cl) o'.sz o'.rows xs := by
  obtain ⟨h1, h2, h3, h4, h5, h6, h7⟩ := renObj_spec hr; rw [h3, h4]
  cases hc : o.cl with
  | true =>
    rw [hc] at h; rw [h6 hc]; exact FVr.le _ _ hE.clear _ h
  | false =>
    rw [hc] at h; exact FVr.ren hE (h7 hc) h
def pos : List Nat → Nat → Nat → Option Nat
  | [], _, _ => none
  | k :: ks, i, r => bif Nat.beq k r then some i else pos ks (i + 1) r
theorem pos_spec : ∀ (ks : List Nat) (i r r' : Nat), pos ks i r = some r' → i ≤ r' ∧ ks[r' - i]? = some r
  | [], _, _, _, h => by simp [pos] at h
  | k :: ks, i, r, r', h => by
    simp only [pos] at h
    by_cases e : k = r
    · have hb : Nat.beq k r = true := by rw [Nat.beq_eq]; exact e
      simp only [hb, cond_true, Option.some.injEq] at h; subst e h
      simp
    · have hb : Nat.beq k r = false := by
        cases hc : Nat.beq k r
        · rfl
        · rw [Nat.beq_eq] at hc; exact absurd hc e
      simp only [hb, cond_false] at h; obtain ⟨h1, h2⟩ := pos_spec ks (i + 1) r r' h; refine ⟨by omega, ?_⟩; rw [show r' - i = (r' - (i + 1)) + 1 by omega]
      simpa using h2
def keepObjs (σ : St) (ρ : Nat → Option Nat) : Nat → List Nat → Option (List (Nat × Obj))
  | _, [] => some []
  | i, k :: ks => match (find σ.objs k).bind (renObj ρ), keepObjs σ ρ (i + 1) ks with
    | some o, some l => some ((i, o) :: l)
    | _, _ => none
theorem keepObjs_spec {σ : St} {ρ : Nat → Option Nat} : ∀ (ks : List Nat) (i : Nat) (l : List (Nat × Obj)), keepObjs σ ρ i ks = some l → ∀ r o', find l r = some o' → ∃ k o, i ≤ r ∧ ks[r - i]? = some k ∧ find σ.objs k = some o ∧ renObj ρ o = some o'
  | [], i, l, h, r, o', hf => by simp only [keepObjs, Option.some.injEq] at h; subst h; simp [find] at hf
  | k :: ks, i, l, h, r, o', hf => by
    simp only [keepObjs] at h
    split at h
    · rename_i o1 l1 h1 h2
      simp only [Option.some.injEq] at h; subst h; rw [find_cons] at hf
      split at hf
      · rename_i e
        simp only [Option.some.injEq] at hf; subst e hf; simp only [Option.bind_eq_some_iff] at h1; obtain ⟨o, ho, hro⟩ := h1; exact ⟨k, o, Nat.le_refl _, by simp, ho, hro⟩
      · obtain ⟨k', o, g1, g2, g3, g4⟩ := keepObjs_spec ks (i + 1) l1 h2 r o' hf; refine ⟨k', o, by omega, ?_, g3, g4⟩; rw [show r - i = (r - (i + 1)) + 1 by omega]
        simpa using g2
    · cases h
theorem keepObjs_dom {σ : St} {ρ : Nat → Option Nat} : ∀ (ks : List Nat) (i : Nat) (l : List (Nat × Obj)), keepObjs σ ρ i ks = some l → ∀ r, i ≤ r → r < i + ks.length → ∃ o', find l r = some o'
  | [], i, l, h, r, h1, h2 => by simp at h2; omega
  | k :: ks, i, l, h, r, h1, h2 => by
    simp only [keepObjs] at h
    split at h
    · rename_i o1 l1 g1 g2
      simp only [Option.some.injEq] at h; subst h; rw [find_cons]
      split
      · exact ⟨_, rfl⟩
      · exact keepObjs_dom ks (i + 1) l1 g2 r (by omega) (by simp at h2; omega)
    · cases h
def resAV (P : Program) (σ : St) : List ResultVar → Option (List AV)
  | [] => some []
  | .tmp t :: rs => (resAV P σ rs).map fun vs => σ.get t :: vs
  | .cell a t :: rs => match loadAV P σ t (σ.get a), resAV P σ rs with
    | some v, some vs => some (v :: vs)
    | _, _ => none
def packAV : List AV → AV
  | [v] => v
  | vs => .tup vs
theorem Rel.resList {P : Program} {C : Ctx} {E : Env} {X : Nat → List Value} {σ : St} {a : Act} (h : Rel C E X σ a) : ∀ (rs : List ResultVar) (vs : List AV), resAV P σ rs = some vs →
    ∃ ys, (rs.mapM (fun | .tmp t => pure (a.tmps.getD t undef) | .cell p t => do loadVar t (← asAddr (a.tmps.getD p undef)) : ResultVar → Sem Value)).run P E.w = .ok ys E.w ∧ FVs E vs ys
  | [], vs, hv => by
    simp only [resAV, Option.some.injEq] at hv; subst hv; exact ⟨[], rfl, by simp [FVs]⟩
  | .tmp t :: rs, vs, hv => by
    simp only [resAV, Option.map_eq_some_iff] at hv; obtain ⟨vs', h1, rfl⟩ := hv; obtain ⟨ys, h2, h3⟩ := h.resList rs vs' h1; refine ⟨a.tmps.getD t undef :: ys, ?_, ?_⟩
    · simp only [List.mapM_cons, Sem.run_bind, Sem.run_pure, Result.andThen_ok, h2]
    · simp only [FVs]; exact ⟨_, _, rfl, h.ev (.tmp t), h3⟩
  | .cell p t :: rs, vs, hv => by
    simp only [resAV] at hv
    split at hv
    · rename_i v vs' h0 h1
      simp only [Option.some.injEq] at hv; subst hv; obtain ⟨ys, h2, h3⟩ := h.resList rs vs' h1; obtain ⟨y, h4, h5⟩ := h.loadAV h0 (h.ev (.tmp p))
      have hp : ∃ ad, a.eval (.tmp p) = .pointer (some ad) := by
        have hv := h.ev (.tmp p)
        have hc : ∃ cs, AM.cellsFrom σ (σ.get p) = some cs := by
          unfold AM.loadAV at h0
          split at h0
          · rename_i cs _ hc; exact ⟨cs, hc⟩
          · rename_i c cs _ hc; exact ⟨_, hc⟩
          · cases h0
        obtain ⟨cs, hc⟩ := hc; obtain ⟨ad, _, he, _⟩ := h.cellsFrom hc hv; exact ⟨ad, he⟩
      obtain ⟨ad, hp⟩ := hp; simp only [Act.eval] at hp h4; rw [hp] at h4; simp only [Instr.loadAt, Instr.sureAddr, Sem.run_bind, Sem.run_pure, Result.andThen_ok] at h4; refine ⟨y :: ys, ?_, ?_⟩
      · have ha : asAddr (.pointer (some ad)) = pure ad := rfl; simp only [List.mapM_cons, Sem.run_bind, Sem.run_pure, Result.andThen_ok, hp, ha, h4, h2]
      · simp only [FVs]; exact ⟨_, _, rfl, h5, h3⟩
    · cases hv
theorem Rel.run_results {P : Program} {C : Ctx} {E : Env} {X : Nat → List Value} {σ : St} {a : Act} (h : Rel C E X σ a) {fn : Func} {vs : List AV} (hv : resAV P σ fn.results.toList = some vs) :
    ∃ y, (_root_.Go.results fn a.tmps).run P E.w = .ok y E.w ∧ FV E (packAV vs) y := by
  obtain ⟨ys, h1, h2⟩ := h.resList _ _ hv; have hl := h2.length; refine ⟨if h : ys.toArray.size = 1 then ys.toArray[0] else .tuple ys.toArray, ?_, ?_⟩
  · unfold _root_.Go.results
    simp only [Sem.run_bind, Array.mapM_eq_mapM_toList, Sem.run_map]
    erw [h1]
    rfl
  · cases vs with
    | nil =>
      have : ys = [] := List.eq_nil_of_length_eq_zero (by simpa using hl); subst this; simp only [packAV]
      simp [FV, FVs]
    | cons v vs =>
      cases vs with
      | nil =>
        simp only [FVs] at h2; obtain ⟨y, ys', rfl, h3, rfl⟩ := h2
        simpa [packAV] using h3
      | cons u vs =>
        simp only [packAV]
        have : ¬ ys.toArray.size = 1 := by simp [hl]
        rw [dif_neg this]; simp only [FV]; exact ⟨_, rfl, h2⟩
def retP (P : Program) (rs : List ResultVar) (ks : List Nat) (Post : AV → List (Nat × Obj) → Prop) (σ : St) : Prop :=
  match resAV P σ rs with
  | none => False
  | some vs => match renAV (pos ks 0) (packAV vs), keepObjs σ (pos ks 0) 0 ks with
    | some v, some objs => Post v objs
    | _, _ => False
def endP (P : Program) (rs : List ResultVar) (Post : AV → List (Nat × Obj) → Prop) : Exit → St → Prop
  | .normal, σ | .ret, σ => ∃ ks, ks.Nodup ∧ retP P rs ks Post σ
  | _, _ => False
theorem Fun.of_body {P : Program} {f : FuncId} {fn : Func} {c : Code} {args : List AV} {Post : AV → List (Nat × Obj) → Prop} (hf : P.funcs[f]? = some fn) (hb : fn.body = some c) (hnm : (fn.name == "runtime.NumGoroutine") = false)
    (hn : args.length ≤ fn.ntmps) (h : Ev P c ⟨argSlots 0 args, [], 0, fn.ntmps, 0⟩ (endP P fn.results.toList Post)) : Fun P f args Post := by
  refine ⟨⟨fn, hf, by simp [hb], hnm⟩, fun E xs hx hS hG => ?_⟩; refine calls_of_wp hf hb ?_; have hxl := hx.length
  let C : Ctx := ⟨E.w, fun _ => False, fun _ => undef, 0, E.S, fun _ => 0, []⟩
  have hrel : Rel C E.clear (fun _ => []) ⟨argSlots 0 args, [], 0, fn.ntmps, 0⟩ { tmps := xs.toArray ++ Array.replicate (fn.ntmps - xs.toArray.size) undef, defers := [] } := by
    refine ⟨?_, ?_, rfl, ?_, ?_, ?_, ?_, Keep.refl _ _, ?_, ?_, ?_, fun b hb => hb, fun b hb => .inl hb, rfl, hG⟩
    · intro s v hv; obtain ⟨_, h2⟩ := find_argSlots args 0 s v hv; simp only [Nat.sub_zero] at h2; obtain ⟨y, hy, hfv⟩ := hx.get h2; have hlt : s < xs.length := (List.getElem?_eq_some_iff.1 hy).1
      have : (xs.toArray ++ Array.replicate (fn.ntmps - xs.toArray.size) undef).getD s undef = y := by
        have e : (xs.toArray ++ Array.replicate (fn.ntmps - xs.toArray.size) undef)[s]? = some y := by
          rw [Array.getElem?_append_left (by simpa using hlt)]
          simpa using hy
        rw [Array.getD_eq_getD_getElem?, e]; rfl
      rw [this]; exact hfv
    · simp [hxl]; omega
    · intro r o hr; simp [find] at hr
    · intro r r' o o' b hr; simp [find] at hr
    · intro b hb; exact ⟨hS b hb, fun r o hr => by simp [find] at hr⟩
    · intro r hr; exact hr.elim
    · intro r o b hr; simp [find] at hr
    · intro r hr; exact absurd hr (Nat.not_lt_zero _)
    · intro r hr; exact absurd hr (Nat.not_lt_zero _)
  have hend : ∀ (E' : Env) X' σ' a', Rel C E' X' σ' a' → ∀ ks : List Nat, ks.Nodup → retP P fn.results.toList ks Post σ' →
      ∃ y, (results fn a'.tmps).run P E'.w = .ok y E'.w ∧ ∃ v objs E'' X'', E''.w = E'.w ∧ Post v objs ∧ LocalPost E.clear v objs y E'' X'' := by
    intro E' X' σ' a' hr ks hnd hret
    unfold retP at hret
    split at hret
    · exact hret.elim
    · rename_i vs hvs
      split at hret
      · rename_i v objs hv ho
        obtain ⟨y, hy1, hy2⟩ := hr.run_results hvs; refine ⟨y, hy1, v, objs, ?_⟩
        let E'' : Env := { w := E'.w, H := fun r' => match ks[r']? with | some k => E'.H k | none => undef, Z := fun r' => match ks[r']? with | some k => E'.Z k | none => 0, D := fun r' => r' < ks.length, S := E'.S }
        have hren : E'.ren (pos ks 0) E'' := by
          refine ⟨fun b hb => ⟨hb, rfl⟩, fun r r' hD hp => ?_⟩; obtain ⟨_, h2⟩ := pos_spec ks 0 r r' hp; simp only [Nat.sub_zero] at h2; exact ⟨(List.getElem?_eq_some_iff.1 h2).1, by simp [E'', h2], by simp [E'', h2]⟩
        refine ⟨E'', fun r' => match ks[r']? with | some k => X' k | none => [], rfl, hret, ⟨?_, ?_, ?_, ?_, ?_, ?_, ?_⟩⟩
        · exact ⟨hr.kept.os, hr.kept.tape, hr.kept.output, hr.kept.size, fun b hb _ => hr.kept.block b hb (fun h => h)⟩
        · exact ⟨fun b hb => ⟨hr.base b hb, hr.kept.block b (hS b hb) (fun h => h)⟩, fun r hD => hD.elim⟩
        · intro r hD; exact .inr (keepObjs_dom ks 0 objs ho r (Nat.zero_le _) (by simpa [E''] using hD))
        · intro b hb; obtain ⟨h1, h2⟩ := hr.stay b hb
          rcases hr.grow b hb with h | h | h
          · exact .inl h
          · refine .inr ⟨h, h1, fun r o hro e => ?_⟩; obtain ⟨k, o1, _, hk, hk2, _⟩ := keepObjs_spec ks 0 objs ho r o hro; simp only [Nat.sub_zero] at hk; simp only [E'', hk] at e; exact h2 k o1 hk2 e
          · exact h.elim
        · intro r o hro; obtain ⟨k, o1, _, hk, hk2, hk3⟩ := keepObjs_spec ks 0 objs ho r o hro; simp only [Nat.sub_zero] at hk; obtain ⟨g1, g2, g3, g4⟩ := hr.objs k o1 hk2; have hsp := renObj_spec hk3; refine ⟨(List.getElem?_eq_some_iff.1 hk).1, fun h => h, by simp [E'', hk, g2, hsp.2.2.1], ?_, ?_, ?_⟩
          · simp only [E'', hk]; exact g3.ren hk3
          · simp only [hk]; exact FVr.renObj hk3 hren g4
          · intro b hb; simp only [E'', hk] at hb
            rcases hr.mine k o1 b hk2 hb with h | h
            · exact h.elim
            · exact h
        · intro r r' o o' b hro hro' hb hb'; obtain ⟨k, o1, _, hk, hk2, hk3⟩ := keepObjs_spec ks 0 objs ho r o hro; obtain ⟨k', o1', _, hk', hk2', hk3'⟩ := keepObjs_spec ks 0 objs ho r' o' hro'; simp only [Nat.sub_zero] at hk hk'; simp only [E'', hk] at hb; simp only [E'', hk'] at hb'; have := hr.apart k k' o1 o1' b hk2 hk2' hb hb'; subst this; obtain ⟨hl, he⟩ := List.getElem?_eq_some_iff.1 hk; obtain ⟨hl', he'⟩ := List.getElem?_eq_some_iff.1 hk'; exact (List.getElem_inj hnd).1 (he.trans he'.symm)
        · exact FV.ren hren hv hy2
      · exact hret.elim
  refine wp_mono (h C E.clear _ _ hrel) ?_; rintro e a' w' ⟨E', X', σ', rfl, hr, hq⟩
  cases e <;> simp only [endP] at hq
  case normal =>
    obtain ⟨ks, hnd, hq⟩ := hq; obtain ⟨y, hy, v, objs, E'', X'', h1, h2, h3⟩ := hend E' X' σ' a' hr ks hnd hq; exact ⟨hr.defers, y, hy, y, v, objs, E'', X'', rfl, h1, h2, h3⟩
  case ret =>
    obtain ⟨ks, hnd, hq⟩ := hq; obtain ⟨y, hy, v, objs, E'', X'', h1, h2, h3⟩ := hend E' X' σ' a' hr ks hnd hq; exact ⟨hr.defers, y, hy, y, v, objs, E'', X'', rfl, h1, h2, h3⟩
end Go.AM
namespace Go.AM
mutual
def noShAV : AV → Bool
  | .sh _ _ => false
  | .sadr _ _ => false
  | .shm _ _ => false
  | .rem _ _ _ => false
  | .hd _ => true
  | .agg cs => noShL cs
  | .tup cs => noShL cs
  | .fn _ first caps => noShL first && noShL caps
  | .top => true
  | .lit _ => true
  | .als _ _ _ => true
  | .adr _ _ _ => true
def noShL : List AV → Bool
  | [] => true
  | c :: cs => noShAV c && noShL cs
end
def Env.noS (E : Env) : Env := { E with S := fun _ => False }
mutual
theorem FV.noSh {E : Env} : ∀ {v : AV} {x : Value}, noShAV v = true → FV E v x → FV E.noS v x
  | .sh _ _, _, h, _ => by simp [noShAV] at h
  | .sadr _ _, _, h, _ => by simp [noShAV] at h
  | .shm _ _, _, h, _ => by simp [noShAV] at h
  | .rem _ _ _, _, h, _ => by simp [noShAV] at h
  | .hd _, _, _, hx => by simpa [FV, Env.noS] using hx
  | .top, _, _, _ => by simp [FV]
  | .lit _, _, _, hx => by simpa [FV] using hx
  | .als _ _ _, _, _, hx => by simpa [FV, Env.noS] using hx
  | .adr _ _ _, _, _, hx => by simpa [FV, Env.noS] using hx
  | .agg cs, x, h, hx => by
    simp only [noShAV] at h; simp only [FV] at hx ⊢; obtain ⟨xs, e, hc⟩ := hx; exact ⟨xs, e, FVc.noSh h hc⟩
  | .tup cs, x, h, hx => by
    simp only [noShAV] at h; simp only [FV] at hx ⊢; obtain ⟨xs, e, hc⟩ := hx; exact ⟨xs, e, FVs.noSh h hc⟩
  | .fn f first caps, x, h, hx => by
    simp only [noShAV, Bool.and_eq_true] at h; simp only [FV] at hx ⊢; obtain ⟨xs, ys, e, h1, h2⟩ := hx; exact ⟨xs, ys, e, FVs.noSh h.1 h1, FVs.noSh h.2 h2⟩
theorem FVc.noSh {E : Env} : ∀ {cs : List AV} {xs : List Value}, noShL cs = true → FVc E cs xs → FVc E.noS cs xs
  | [], _, _, hx => by simpa [FVc] using hx
  | c :: cs, xs, h, hx => by
    simp only [noShL, Bool.and_eq_true] at h; simp only [FVc] at hx ⊢; obtain ⟨y, ys, e, h0, h1, h2⟩ := hx; exact ⟨y, ys, e, h0, FV.noSh h.1 h1, FVc.noSh h.2 h2⟩
theorem FVs.noSh {E : Env} : ∀ {cs : List AV} {xs : List Value}, noShL cs = true → FVs E cs xs → FVs E.noS cs xs
  | [], _, _, hx => by simpa [FVs] using hx
  | c :: cs, xs, h, hx => by
    simp only [noShL, Bool.and_eq_true] at h; simp only [FVs] at hx ⊢; obtain ⟨y, ys, e, h1, h2⟩ := hx; exact ⟨y, ys, e, FV.noSh h.1 h1, FVs.noSh h.2 h2⟩
end
def noShR (rows : List (List AV)) : Prop := ∀ r ∈ rows, noShL r = true
theorem FVr.noSh {E : Env} {sz : Nat} : ∀ {rows : List (List AV)} {xs : List Value}, noShR rows → FVr E sz rows xs → FVr E.noS sz rows xs
  | [], _, _, hx => by simpa [FVr] using hx
  | r :: rs, xs, h, hx => by
    simp only [FVr] at hx ⊢; obtain ⟨ys, zs, e, h0, h1, h2⟩ := hx; exact ⟨ys, zs, e, h0, FVc.noSh (h r (by simp)) h1, FVr.noSh (fun r' hr' => h r' (by simp [hr'])) h2⟩
theorem noS_by (E : Env) (c : Bool) : (E.by c).noS = E.noS.by c := by cases c <;> rfl
mutual
def viewAV (σ : St) : AV → Option AV
  | .als r lo n => (find σ.objs r).bind fun o => bif o.cl then (if lo = 0 ∧ n = o.rows.length then some (.sh o.sz o.rows) else if lo + n ≤ o.rows.length then some (.sh o.sz ((o.rows.drop lo).take n)) else none) else none
  | .adr r i j => (find σ.objs r).bind fun o => bif o.cl then (o.rows[i]?).map fun row => .sadr row j else none
  | .agg cs => (viewL σ cs).map .agg
  | .tup cs => (viewL σ cs).map .tup
  | .fn f first caps => match viewL σ first, viewL σ caps with
    | some x, some y => some (.fn f x y)
    | _, _ => none
  | .top => some .top
  | .lit v => some (.lit v)
  | .sh s rows => some (.sh s rows)
  | .sadr row j => some (.sadr row j)
  | .hd r => (find σ.objs r).bind fun o => bif o.slc && o.cl then some (.shm o.sz o.rows) else none
  | .shm s rows => some (.shm s rows)
  | .rem s la rows => some (.rem s la rows)
def viewL (σ : St) : List AV → Option (List AV)
  | [] => some []
  | c :: cs => match viewAV σ c, viewL σ cs with
    | some x, some xs => some (x :: xs)
    | _, _ => none
end
def Env.lent (E : Env) : Env := { E with D := fun _ => False, S := fun b => b < E.w.heap.size }
theorem Rel.lent_le {C : Ctx} {E : Env} {X : Nat → List Value} {σ : St} {a : Act} (h : Rel C E X σ a) : E.clear.le E.lent := ⟨fun b hb => ⟨(h.stay b hb).1, rfl⟩, fun _ hr => hr.elim⟩
mutual
theorem FV.view {C : Ctx} {E : Env} {X : Nat → List Value} {σ : St} {a : Act} (h : Rel C E X σ a) : ∀ {v v' : AV} {x : Value}, viewAV σ v = some v' → FV E v x → FV E.lent v' x
  | .top, _, _, hv, _ => by simp only [viewAV, Option.some.injEq] at hv; subst hv; simp [FV]
  | .lit v, _, x, hv, hx => by simp only [viewAV, Option.some.injEq] at hv; subst hv; simpa [FV] using hx
  | .sh s rows, _, x, hv, hx => by
    simp only [viewAV, Option.some.injEq] at hv; subst hv; exact FV.le _ h.lent_le _ (FV.closed (v := .sh s rows) rfl hx)
  | .sadr row j, _, x, hv, hx => by
    simp only [viewAV, Option.some.injEq] at hv; subst hv; exact FV.le _ h.lent_le _ (FV.closed (v := .sadr row j) rfl hx)
  | .shm s rows, _, x, hv, hx => by
    simp only [viewAV, Option.some.injEq] at hv; subst hv; exact FV.le _ h.lent_le _ (FV.closed (v := .shm s rows) rfl hx)
  | .rem s la rows, _, x, hv, hx => by
    simp only [viewAV, Option.some.injEq] at hv; subst hv; exact FV.le _ h.lent_le _ (FV.closed (v := .rem s la rows) rfl hx)
  | .hd r, v', x, hv, hx => by
    simp only [viewAV, Option.bind_eq_some_iff] at hv; obtain ⟨o, ho, hv⟩ := hv; obtain ⟨_, hZ, hok, hr⟩ := h.objs r o ho
    cases hc : (o.slc && o.cl) with
    | false => simp [hc] at hv
    | true =>
      simp only [hc, cond_true, Option.some.injEq] at hv; subst hv; simp only [Bool.and_eq_true] at hc; rw [hc.2] at hr; obtain ⟨b, es, clk, hH, hg, hwf, hfl, rfl⟩ := hok.asMap hc.1 hx; simp only [FV]; refine .inr ⟨b, es, clk, rfl, hok.lt (b := b) (by rw [hH]; rfl), hg, hwf, ?_⟩; rw [hfl]; exact FVr.le _ _ h.lent_le.clear _ hr
  | .als r lo n, v', x, hv, hx => by
    simp only [viewAV, Option.bind_eq_some_iff] at hv; obtain ⟨o, ho, hv⟩ := hv; obtain ⟨_, hZ, hok, hr⟩ := h.objs r o ho
    cases hc : o.cl with
    | false => simp [hc] at hv
    | true =>
      simp only [hc, cond_true] at hv; rw [hc] at hr; simp only [FV] at hx; obtain ⟨_, A0, n0, c0, A, c, hH, rfl, hnc, _, hA⟩ := hx
      have key : lo + n ≤ o.rows.length → FV E.lent (.sh o.sz ((o.rows.drop lo).take n)) (.slice A n c) := by
        intro hle
        have hlen : ((o.rows.drop lo).take n).length = n := by simp; omega
        simp only [FV]; refine ⟨A, c, ((X r).drop (lo * o.sz)).take (n * o.sz), by rw [hlen], by rw [hlen]; exact hnc, ?_, fun hne => ?_⟩
        · exact FVr.le _ _ h.lent_le.clear _ ((hr.drop lo).take n)
        · have hpos : 0 < n := by
            rcases Nat.eq_zero_or_pos n with h0 | h0
            · rw [h0] at hne; simp at hne
            · exact h0
          obtain ⟨a0, rfl, hs, rfl⟩ := hA hpos; obtain ⟨_, hh⟩ := hok.holds (a0 := a0) (by rw [hH]; rfl); refine ⟨_, rfl, add_spot _ hs _, ?_, ?_⟩
          · rw [add_block]; exact hok.lt (b := a0.block) (by rw [hH]; rfl)
          · rw [hZ]; exact (hh.drop hs _).take _
      split at hv
      · rename_i hw
        simp only [Option.some.injEq] at hv; subst hv; have := key (by omega); rw [hw.1, hw.2, List.drop_zero, List.take_length] at this; rw [hw.2]; exact this
      · split at hv
        · rename_i hle
          simp only [Option.some.injEq] at hv; subst hv; exact key hle
        · cases hv
  | .adr r i j, v', x, hv, hx => by
    simp only [viewAV, Option.bind_eq_some_iff] at hv; obtain ⟨o, ho, hv⟩ := hv; obtain ⟨_, hZ, hok, hr⟩ := h.objs r o ho
    cases hc : o.cl with
    | false => simp [hc] at hv
    | true =>
      simp only [hc, cond_true, Option.map_eq_some_iff] at hv; obtain ⟨row, hrow, rfl⟩ := hv; rw [hc] at hr; simp only [FV] at hx ⊢; obtain ⟨_, a0, hb, hs, rfl⟩ := hx; obtain ⟨_, hh⟩ := hok.holds hb; refine ⟨a0.add (i * o.sz), ((X r).drop (i * o.sz)).take o.sz, by rw [add_add' a0 hs, hZ], add_spot _ hs _, ?_, ?_, (hh.drop hs _).take _⟩
      · rw [add_block]; exact hok.lt (b := a0.block) (blockOf_base hb)
      · exact FVc.le _ h.lent_le.clear _ (hr.get hrow).2
  | .agg cs, _, x, hv, hx => by
    simp only [viewAV, Option.map_eq_some_iff] at hv; obtain ⟨cs', hr, rfl⟩ := hv; simp only [FV] at hx ⊢; obtain ⟨xs, e, hc⟩ := hx; exact ⟨xs, e, FVc.view h hr hc⟩
  | .tup cs, _, x, hv, hx => by
    simp only [viewAV, Option.map_eq_some_iff] at hv; obtain ⟨cs', hr, rfl⟩ := hv; simp only [FV] at hx ⊢; obtain ⟨xs, e, hc⟩ := hx; exact ⟨xs, e, FVs.view h hr hc⟩
  | .fn f first caps, v', x, hv, hx => by
    simp only [viewAV] at hv
    split at hv
    · rename_i y z h1 h2
      simp only [Option.some.injEq] at hv; subst hv; simp only [FV] at hx ⊢; obtain ⟨xs, ys, e, g1, g2⟩ := hx; exact ⟨xs, ys, e, FVs.view h h1 g1, FVs.view h h2 g2⟩
    · cases hv
theorem FVc.view {C : Ctx} {E : Env} {X : Nat → List Value} {σ : St} {a : Act} (h : Rel C E X σ a) : ∀ {cs cs' : List AV} {xs : List Value}, viewL σ cs = some cs' → FVc E cs xs → FVc E.lent cs' xs
  | [], _, _, hv, hx => by simp only [viewL, Option.some.injEq] at hv; subst hv; simpa [FVc] using hx
  | c :: cs, cs', xs, hv, hx => by
    simp only [viewL] at hv
    split at hv
    · rename_i y ys h1 h2
      simp only [Option.some.injEq] at hv; subst hv; simp only [FVc] at hx ⊢; obtain ⟨z, zs, e, h0, g1, g2⟩ := hx; exact ⟨z, zs, e, h0, FV.view h h1 g1, FVc.view h h2 g2⟩
    · cases hv
theorem FVs.view {C : Ctx} {E : Env} {X : Nat → List Value} {σ : St} {a : Act} (h : Rel C E X σ a) : ∀ {cs cs' : List AV} {xs : List Value}, viewL σ cs = some cs' → FVs E cs xs → FVs E.lent cs' xs
  | [], _, _, hv, hx => by simp only [viewL, Option.some.injEq] at hv; subst hv; simpa [FVs] using hx
  | c :: cs, cs', xs, hv, hx => by
    simp only [viewL] at hv
    split at hv
    · rename_i y ys h1 h2
      simp only [Option.some.injEq] at hv; subst hv; simp only [FVs] at hx ⊢; obtain ⟨z, zs, e, g1, g2⟩ := hx; exact ⟨z, zs, e, FV.view h h1 g1, FVs.view h h2 g2⟩
    · cases hv
end
def liftObjs (N : Nat) : List (Nat × Obj) → Option (List (Nat × Obj))
  | [] => some []
  | p :: l => match renObj (fun r => some (r + N)) p.2, liftObjs N l with
    | some o', some l' => some ((p.1 + N, o') :: l')
    | _, _ => none
def liftAV (N : Nat) (v : AV) : Option AV := renAV (fun r => some (r + N)) v
theorem liftObjs_spec {N : Nat} : ∀ {l l' : List (Nat × Obj)}, liftObjs N l = some l' → ∀ r o', find l' r = some o' → ∃ o, N ≤ r ∧ find l (r - N) = some o ∧ renObj (fun r => some (r + N)) o = some o'
  | [], l', h, r, o', hf => by simp only [liftObjs, Option.some.injEq] at h; subst h; simp [find] at hf
  | (k, o) :: l, l', h, r, o', hf => by
    simp only [liftObjs] at h
    split at h
    · rename_i o1 l1 h1 h2
      simp only [Option.some.injEq] at h; subst h; rw [find_cons] at hf
      split at hf
      · rename_i e
        simp only [Option.some.injEq] at hf; subst hf; exact ⟨o, by omega, by rw [find_cons, if_pos (by omega)], h1⟩
      · rename_i e
        obtain ⟨o2, g1, g2, g3⟩ := liftObjs_spec h2 r o' hf; exact ⟨o2, g1, by rw [find_cons, if_neg (by omega)]; exact g2, g3⟩
    · cases h
theorem liftObjs_dom {N : Nat} : ∀ {l l' : List (Nat × Obj)}, liftObjs N l = some l' → ∀ r o, find l r = some o → ∃ o', find l' (r + N) = some o'
  | [], l', h, r, o, hf => by simp [find] at hf
  | (k, o1) :: l, l', h, r, o, hf => by
    simp only [liftObjs] at h
    split at h
    · rename_i o2 l1 h1 h2
      simp only [Option.some.injEq] at h; subst h; rw [find_cons] at hf; rw [find_cons]
      split at hf
      · rename_i e
        rw [if_pos (by omega)]; exact ⟨_, rfl⟩
      · rename_i e
        rw [if_neg (by omega)]; exact liftObjs_dom h2 r o hf
    · cases h
open Classical in
theorem LocalPost.lift {E Ec : Env} {v v' : AV} {objs new : List (Nat × Obj)} {y : Value} {E' : Env} {X' : Nat → List Value} {N : Nat} (hw : Ec.w = E.w) (hSz : ∀ b, E.S b → b < E.w.heap.size) (h : LocalPost Ec.clear v objs y E' X')
    (hv : liftAV N v = some v') (hn : liftObjs N objs = some new) (hf : ∀ r o, find new r = some o → ¬ E.D r) (hEc : ∀ b, E.S b → Ec.S b)
    (hSz' : ∀ {b}, Ec.S b → b < E.w.heap.size)
    (hm : (∀ b, Ec.S b → E.S b) ∨ (noShAV v = true ∧ ∀ r o, find objs r = some o → noShR o.rows)) :
    ∃ E'' X'', E''.w = E'.w ∧ LocalPost E v' new y E'' X'' := by
  have hdom : ∀ r, E'.D r → ∃ o, find objs r = some o := fun r hr => (h.dom r hr).resolve_left (fun h => h)
  have hnewD : ∀ r, E'.D r → ¬ E.D (r + N) := by
    intro r hr; obtain ⟨o, ho⟩ := hdom r hr; obtain ⟨o', ho'⟩ := liftObjs_dom hn r o ho; exact hf _ o' ho'
  have hk : ∀ b, b < E.w.heap.size → E'.w.heap[b]? = E.w.heap[b]? := by
    intro b hb; have := h.keep.block b (by simpa [Env.clear, hw] using hb) (fun h => h)
    simpa [Env.clear, hw] using this
  let E'' : Env := ⟨E'.w, fun r => if E.D r then E.H r else E'.H (r - N), fun r => if E.D r then E.Z r else E'.Z (r - N), fun r => E.D r ∨ (N ≤ r ∧ E'.D (r - N) ∧ ¬ E.D r), fun b => E'.S b ∧ (E.S b ∨ E.w.heap.size ≤ b)⟩
  have hroot : ∀ r, E'.D r → E''.D (r + N) ∧ E''.H (r + N) = E'.H r ∧ E''.Z (r + N) = E'.Z r := by
    intro r hr; have hnd := hnewD r hr
    refine ⟨.inr ⟨by omega, by rw [Nat.add_sub_cancel]; exact hr, hnd⟩, ?_, ?_⟩ <;> simp [E'', hnd]
  have hval : ∀ (u u' : AV) (x : Value), (noShAV u = true ∨ ∀ b, Ec.S b → E.S b) → renAV (fun r => some (r + N)) u = some u' → FV E' u x → FV E'' u' x := by
    intro u u' x hor hr hx
    rcases hor with hor | hor
    · refine FV.ren (ρ := fun r => some (r + N)) (E := E'.noS) (E' := E'') ⟨fun b hb => hb.elim, fun r r' hD e => ?_⟩ hr (FV.noSh hor hx); simp only [Option.some.injEq] at e; subst e; exact hroot r hD
    · refine FV.ren (ρ := fun r => some (r + N)) (E := E') (E' := E'') ⟨fun b hb => ⟨⟨hb, ?_⟩, rfl⟩, fun r r' hD e => ?_⟩ hr hx
      · rcases h.stay b hb with h1 | ⟨h1, _⟩
        · exact .inl (hor b h1)
        · exact .inr (by simpa [Env.clear, hw] using h1)
      · simp only [Option.some.injEq] at e; subst e; exact hroot r hD
  have hobj : ∀ (o o' : Obj) (xs : List Value), (noShR o.rows ∨ ∀ b, Ec.S b → E.S b) → renObj (fun r => some (r + N)) o = some o' → FVr (E'.by o.cl) o.sz o.rows xs → FVr (E''.by o'.cl) o'.sz o'.rows xs := by
    intro o o' xs hor hr hx
    rcases hor with hor | hor
    · have h1 := FVr.noSh hor hx; rw [noS_by] at h1; refine FVr.renObj (E := E'.noS) (E' := E'') hr ⟨fun b hb => hb.elim, fun r r' hD e => ?_⟩ h1; simp only [Option.some.injEq] at e; subst e; exact hroot r hD
    · refine FVr.renObj (E := E') (E' := E'') hr ⟨fun b hb => ⟨⟨hb, ?_⟩, rfl⟩, fun r r' hD e => ?_⟩ hx
      · rcases h.stay b hb with h1 | ⟨h1, _⟩
        · exact .inl (hor b h1)
        · exact .inr (by simpa [Env.clear, hw] using h1)
      · simp only [Option.some.injEq] at e; subst e; exact hroot r hD
  have hHn : ∀ r o', find new r = some o' → ∃ o, N ≤ r ∧ find objs (r - N) = some o ∧ renObj (fun r => some (r + N)) o = some o' ∧ E''.H r = E'.H (r - N) ∧ E''.Z r = E'.Z (r - N) := by
    intro r o' hr; obtain ⟨o, h1, h2, h3⟩ := liftObjs_spec hn r o' hr; have := hf r o' hr; exact ⟨o, h1, h2, h3, by simp [E'', this], by simp [E'', this]⟩
  refine ⟨E'', fun r => X' (r - N), rfl, ⟨?_, ?_, ?_, ?_, ?_, ?_, ?_⟩⟩
  · exact ⟨by have := h.keep.os; simpa [Env.clear, hw] using this, by have := h.keep.tape; simpa [Env.clear, hw] using this, by have := h.keep.output; simpa [Env.clear, hw] using this,
      by have := h.keep.size; simpa [Env.clear, hw] using this, fun b hb _ => hk b hb⟩
  · refine ⟨fun b hb => ⟨⟨(h.le.stay b (hEc b hb)).1, .inl hb⟩, hk b (hSz b hb)⟩, fun r hD => ⟨.inl hD, by simp [E'', hD], by simp [E'', hD]⟩⟩
  · rintro r (hD | ⟨h1, h2, h3⟩)
    · exact .inl hD
    · obtain ⟨o, ho⟩ := hdom _ h2; obtain ⟨o', ho'⟩ := liftObjs_dom hn _ o ho; rw [Nat.sub_add_cancel h1] at ho'; exact .inr ⟨o', ho'⟩
  · rintro b ⟨h1, h2⟩
    rcases h2 with h2 | h2
    · exact .inl h2
    · refine .inr ⟨h2, ?_, fun r o' hr e => ?_⟩
      · rcases h.stay b h1 with g | ⟨_, g, _⟩
        · have := (h.le.stay b g)
          rcases Nat.lt_or_ge b E'.w.heap.size with hlt | hge
          · exact hlt
          · exfalso
            have hs := h.keep.size; simp only [Env.clear, hw] at hs; have := hSz' g; omega
        · exact g
      · obtain ⟨o, g1, g2, _, g4, _⟩ := hHn r o' hr; rw [g4] at e
        rcases h.stay b h1 with g | ⟨_, _, g⟩
        · have := hSz' g; omega
        · exact g _ o g2 e
  · intro r o' hr; obtain ⟨o, g1, g2, g3, g4, g5⟩ := hHn r o' hr; obtain ⟨k1, _, k3, k4, k5, k6⟩ := h.objs _ o g2; have hsp := renObj_spec g3; refine ⟨.inr ⟨g1, k1, hf r o' hr⟩, hf r o' hr, by rw [g5, k3, hsp.2.2.1], by rw [g4]; exact k4.ren g3, ?_, ?_⟩
    · refine hobj o o' _ ?_ g3 k5
      rcases hm with hm | hm
      · exact .inr hm
      · exact .inl (hm.2 _ o g2)
    · intro b hb; rw [g4] at hb; have := k6 b hb
      simpa [Env.clear, hw] using this
  · intro r r' o1 o2 b hr hr' hb hb'; obtain ⟨o, g1, g2, g3, g4, g5⟩ := hHn r o1 hr; obtain ⟨o', g1', g2', g3', g4', g5'⟩ := hHn r' o2 hr'; rw [g4] at hb; rw [g4'] at hb'; have := h.apart _ _ o o' b g2 g2' hb hb'; omega
  · refine hval v v' y ?_ hv h.val
    rcases hm with hm | hm
    · exact .inr hm
    · exact .inl hm.1
mutual
theorem viewAV_closed (σ : St) : ∀ (u u' : AV), closedAV u = true → viewAV σ u = some u' → u' = u
  | .als _ _ _, _, h, _ => by simp [closedAV] at h
  | .adr _ _ _, _, h, _ => by simp [closedAV] at h
  | .top, _, _, h => by simp only [viewAV, Option.some.injEq] at h; exact h.symm
  | .lit _, _, _, h => by simp only [viewAV, Option.some.injEq] at h; exact h.symm
  | .sh _ _, _, _, h => by simp only [viewAV, Option.some.injEq] at h; exact h.symm
  | .sadr _ _, _, _, h => by simp only [viewAV, Option.some.injEq] at h; exact h.symm
  | .shm _ _, _, _, h => by simp only [viewAV, Option.some.injEq] at h; exact h.symm
  | .rem _ _ _, _, _, h => by simp only [viewAV, Option.some.injEq] at h; exact h.symm
  | .hd _, _, h, _ => by simp [closedAV] at h
  | .agg cs, u', hc, h => by
    simp only [closedAV] at hc; simp only [viewAV, Option.map_eq_some_iff] at h; obtain ⟨cs', h1, rfl⟩ := h; rw [viewL_closed σ cs cs' hc h1]
  | .tup cs, u', hc, h => by
    simp only [closedAV] at hc; simp only [viewAV, Option.map_eq_some_iff] at h; obtain ⟨cs', h1, rfl⟩ := h; rw [viewL_closed σ cs cs' hc h1]
  | .fn f first caps, u', hc, h => by
    simp only [closedAV, Bool.and_eq_true] at hc; simp only [viewAV] at h
    split at h
    · rename_i y z h1 h2
      simp only [Option.some.injEq] at h; subst h; rw [viewL_closed σ first y hc.1 h1, viewL_closed σ caps z hc.2 h2]
    · cases h
theorem viewL_closed (σ : St) : ∀ (l l' : List AV), closedL l = true → viewL σ l = some l' → l' = l
  | [], _, _, h => by simp only [viewL, Option.some.injEq] at h; exact h.symm
  | c :: cs, l', hc, h => by
    simp only [closedL, Bool.and_eq_true] at hc; simp only [viewL] at h
    split at h
    · rename_i u us g1 g2
      simp only [Option.some.injEq] at h; subst h; rw [viewAV_closed σ c u hc.1 g1, viewL_closed σ cs us hc.2 g2]
    · cases h
end
def calleeOf : AV → Option (FuncId × List AV × List AV)
  | .fn (.func g) first caps => some (g, first, caps)
  | _ => none
theorem calleeOf_spec {E : Env} {v : AV} {x : Value} {g : FuncId} {first caps : List AV} (h : calleeOf v = some (g, first, caps)) (hx : FV E v x) : ∃ xs ys, x = .func (.func g) xs ys ∧ FVs E first xs.toList ∧ FVs E caps ys.toList := by
  unfold calleeOf at h
  split at h
  · simp only [Option.some.injEq, Prod.mk.injEq] at h; obtain ⟨rfl, rfl, rfl⟩ := h
    simpa [FV] using hx
  · cases h
theorem run_enter {P : Program} {g : FuncId} (hb : Bodied P g) (xs : Array Value) (w : World) : (callFunc g xs).run P w = .ok (.enter g xs) w := by
  obtain ⟨fn, hf, h1, h2⟩ := hb
  have h1' : fn.body ≠ none := by intro e; simp [e] at h1
  have h2' : fn.name ≠ "runtime.NumGoroutine" := by simpa using h2
  simp [callFunc, hf, h1', h2']
theorem call_any {P : Program} {σ : St} {o : Oper} {x : Operand} {as : Array Operand} {ts : Array TypeId} {g : FuncId} {first caps : List AV} {vs : List AV} {Post : AV → List (Nat × Obj) → Prop} {N : Nat}
    (ho : o.op = .call { callee := .value x, args := as, argTypes := ts }) (hc : calleeOf (σ.ev x) = some (g, first, caps)) (hv : viewL σ (first ++ (as.toList.map σ.ev ++ caps)) = some vs) (hF : Fun P g vs Post)
    (hm : closedL (first ++ (as.toList.map σ.ev ++ caps)) = true ∨ ∀ v objs, Post v objs → noShAV v = true ∧ ∀ r ob, find objs r = some ob → noShR ob.rows)
    (hl : ∀ v objs, Post v objs → ∃ v' new, liftAV N v = some v' ∧ liftObjs N objs = some new)
    {C : Ctx} {E : Env} {X : Nat → List Value} {a : Act} (hr : Rel C E X σ a) (hN : ∀ v objs new, Post v objs → liftObjs N objs = some new → ∀ r ob, find new r = some ob → ¬ E.D r) {K : Act → World → Prop} {Q : Exit → Act → World → Prop}
    (hk : ∀ v objs v' new y E' X', Post v objs → liftAV N v = some v' → liftObjs N objs = some new → LocalPost E v' new y E' X' → K (a.put o.dst y) E'.w) : o.wp P a E.w K Q := by
  obtain ⟨xs, ys, hx, h1, h2⟩ := calleeOf_spec hc (hr.ev x); have hargs : FVs E (first ++ (as.toList.map σ.ev ++ caps)) (xs.toList ++ (as.toList.map a.eval ++ ys.toList)) := h1.append ((hr.evs _).append h2)
  have hrun : (execOp a.eval o).run P E.w = .ok (.enter g (xs.toList ++ (as.toList.map a.eval ++ ys.toList)).toArray) E.w := by
    unfold execOp
    simp only [ho, resolve, Deferred.ofValue, hx, Sem.run_bind, Sem.run_pure, Result.andThen_ok, invoke]; rw [run_enter hF.1]
    congr 2
    apply Array.ext'
    simp
  unfold Oper.wp
  rw [hrun]; simp only [Oper.upon]; have hSz : ∀ b, E.S b → b < E.w.heap.size := fun b hb => (hr.stay b hb).1
  by_cases hcl : closedL (first ++ (as.toList.map σ.ev ++ caps)) = true
  · have hvs := viewL_closed σ _ _ hcl hv; refine (hF.2 E _ (by rw [hvs]; exact FVs.closed hcl hargs) hSz hr.glob).mono ?_; rintro e w' ⟨y, v, objs, E', X', rfl, rfl, hP, hLP⟩; obtain ⟨v', new, hv', hn'⟩ := hl v objs hP; obtain ⟨E'', X'', he, hLP'⟩ := hLP.lift (E := E) rfl hSz hv' hn' (hN v objs new hP hn') (fun b hb => hb) (fun {b} hb => hSz b hb) (.inl fun b hb => hb); rw [← he]; exact hk v objs v' new y E'' X'' hP hv' hn' hLP'
  · have hm' := hm.resolve_left hcl; refine (hF.2 E.lent _ (FVs.view hr hv hargs) (fun b hb => hb) (hr.glob.sup hSz)).mono ?_; rintro e w' ⟨y, v, objs, E', X', rfl, rfl, hP, hLP⟩; obtain ⟨v', new, hv', hn'⟩ := hl v objs hP; obtain ⟨E'', X'', he, hLP'⟩ := hLP.lift (E := E) (Ec := E.lent) rfl hSz hv' hn' (hN v objs new hP hn') (fun b hb => hSz b hb) (fun {b} hb => hb) (.inr (hm' v objs hP)); rw [← he]; exact hk v objs v' new y E'' X'' hP hv' hn' hLP'
theorem SeqL.call {P : Program} {ops : Array Oper} {o : Oper} {rest : List Oper} {σ : St} {Q : St → Prop} {x : Operand} {as : Array Operand} {ts : Array TypeId} {g : FuncId} {first caps : List AV} {vs : List AV} {Post : AV → List (Nat × Obj) → Prop}
    (hg : guardGo (dstsOf ops) σ o.guard = some true) (ho : o.op = .call { callee := .value x, args := as, argTypes := ts }) (hc : calleeOf (σ.ev x) = some (g, first, caps)) (hv : viewL σ (first ++ (as.toList.map σ.ev ++ caps)) = some vs) (hF : Fun P g vs Post)
    (hm : closedL (first ++ (as.toList.map σ.ev ++ caps)) = true ∨ ∀ v objs, Post v objs → noShAV v = true ∧ ∀ r ob, find objs r = some ob → noShR ob.rows)
    (hd : ∀ d, o.dst = some d → d < σ.nt)
    (h : ∀ v objs, Post v objs → ∃ v' new n', liftAV σ.next v = some v' ∧ liftObjs σ.next objs = some new ∧ (∀ r ob, find new r = some ob → r < n') ∧ σ.next ≤ n' ∧ SeqL P ops rest (σ.ext o.dst v' new n') Q) : SeqL P ops (o :: rest) σ Q := by
  intro C E X a hr Q' hq; simp only [wpL_cons, hr.guard hg, if_true]; refine call_any (N := σ.next) ho hc hv hF hm (fun v objs hP => ?_) hr (fun v objs new hP hn r ob hf hD => ?_) (fun v objs v' new y E' X' hP hv' hn' hLP => ?_)
  · obtain ⟨v', new, n', h1, h2, _⟩ := h v objs hP; exact ⟨v', new, h1, h2⟩
  · obtain ⟨_, h1, _⟩ := liftObjs_spec hn r ob hf; have := hr.fresh r hD; omega
  · obtain ⟨v1, new1, n', h1, h2, h3, h4, h5⟩ := h v objs hP; rw [hv'] at h1; rw [hn'] at h2; simp only [Option.some.injEq] at h1 h2; subst h1 h2; obtain ⟨X'', hr'⟩ := hr.ext hLP o.dst n' hd h3 h4; exact h5 C E' X'' _ hr' Q' hq
theorem Local.call {P : Program} {σ : St} {o : Oper} {x : Operand} {as : Array Operand} {ts : Array TypeId} {g : FuncId} {first caps : List AV} {vs : List AV} {N : Nat} {v v' : AV} {objs new : List (Nat × Obj)}
    (ho : o.op = .call { callee := .value x, args := as, argTypes := ts }) (hc : calleeOf (σ.ev x) = some (g, first, caps)) (hv : viewL σ (first ++ (as.toList.map σ.ev ++ caps)) = some vs) (hF : Fun P g vs (Ret v objs))
    (hm : closedL (first ++ (as.toList.map σ.ev ++ caps)) = true ∨ (noShAV v = true ∧ ∀ r ob, find objs r = some ob → noShR ob.rows))
    (hl1 : liftAV N v = some v') (hl2 : liftObjs N objs = some new) : Local P σ o v' new := by
  intro C E X a hr hf K Q hk; refine call_any (N := N) ho hc hv hF ?_ (fun u l hP => ?_) hr (fun u l new' hP hn => ?_) (fun u l u' l' y E' X' hP h1 h2 hLP => ?_)
  · rcases hm with hm | hm
    · exact .inl hm
    · refine .inr fun u l hP => ?_; obtain ⟨rfl, rfl⟩ := hP; exact hm
  · obtain ⟨rfl, rfl⟩ := hP; exact ⟨v', new, hl1, hl2⟩
  · obtain ⟨rfl, rfl⟩ := hP; rw [hl2] at hn; simp only [Option.some.injEq] at hn; subst hn; exact hf
  · obtain ⟨rfl, rfl⟩ := hP; rw [hl1] at h1; rw [hl2] at h2; simp only [Option.some.injEq] at h1 h2; subst h1 h2; exact hk y E' X' hLP
theorem Wk.sub {σ σ' : St} (hs : ∀ s v, find σ'.slots s = some v → find σ.slots s = some v) (ho : ∀ r o, find σ'.objs r = some o → find σ.objs r = some o) (hn : σ.next ≤ σ'.next) (ht : σ'.nt = σ.nt) (he : σ'.env = σ.env) : Wk σ σ' :=
  fun C E X a h => ⟨E, X, rfl, ⟨fun s v hv => h.slots s v (hs s v hv), h.size.trans ht.symm, h.defers, fun r o hr => h.objs r o (ho r o hr), fun r r' o o' b hr hr' => h.apart r r' o o' b (ho r o hr) (ho r' o' hr'),
    fun b hb => ⟨(h.stay b hb).1, fun r o hr => (h.stay b hb).2 r o (ho r o hr)⟩, fun r hr => Nat.lt_of_lt_of_le (h.fresh r hr) hn, h.kept, fun r o b hr => h.mine r o b (ho r o hr), h.env, h.envD, h.base, h.grow, h.envk.trans he.symm, h.glob⟩⟩
def slotsRen (ρ : Nat → Option Nat) (σ : St) : List (Nat × AV) → Prop
  | [] => True
  | p :: l => renAV ρ (σ.get p.1) = some p.2 ∧ slotsRen ρ σ l
theorem slotsRen_spec {ρ : Nat → Option Nat} {σ : St} : ∀ {l : List (Nat × AV)}, slotsRen ρ σ l → ∀ s v, find l s = some v → renAV ρ (σ.get s) = some v
  | [], _, s, v, hf => by simp [find] at hf
  | (k, u) :: l, h, s, v, hf => by
    rw [find_cons] at hf
    split at hf
    · rename_i e
      simp only [Option.some.injEq] at hf; subst e hf; exact h.1
    · exact slotsRen_spec h.2 s v hf
theorem Wk.ren (ks : List Nat) {σ σ' : St} (hnd : ks.Nodup) (hs : slotsRen (pos ks 0) σ σ'.slots) (ho : keepObjs σ (pos ks 0) 0 ks = some σ'.objs) (hn : σ'.next = ks.length) (ht : σ'.nt = σ.nt) (he : σ'.env = σ.env)
    (hk : ∀ i, i < σ.env → ks[i]? = some i) : Wk σ σ' := by
  intro C E X a hr
  let E'' : Env := { w := E.w, H := fun r' => match ks[r']? with | some k => E.H k | none => undef, Z := fun r' => match ks[r']? with | some k => E.Z k | none => 0, D := fun r' => ∃ k, ks[r']? = some k ∧ E.D k, S := E.S }
  have hren : E.ren (pos ks 0) E'' := by
    refine ⟨fun b hb => ⟨hb, rfl⟩, fun r r' hD hp => ?_⟩; obtain ⟨_, h2⟩ := pos_spec ks 0 r r' hp; simp only [Nat.sub_zero] at h2; exact ⟨⟨r, h2, hD⟩, by simp [E'', h2], by simp [E'', h2]⟩
  refine ⟨E'', fun r' => match ks[r']? with | some k => X k | none => [], rfl, ⟨?_, hr.size.trans ht.symm, hr.defers, ?_, ?_, ?_, ?_, hr.kept, ?_, ?_, ?_, hr.base, hr.grow, hr.envk.trans he.symm, hr.glob⟩⟩
  · intro s v hv; exact FV.ren hren (slotsRen_spec hs s v hv) (hr.ev (.tmp s))
  · intro r o hro; obtain ⟨k, o1, _, hkk, hk2, hk3⟩ := keepObjs_spec ks 0 _ ho r o hro; simp only [Nat.sub_zero] at hkk; obtain ⟨g1, g2, g3, g4⟩ := hr.objs k o1 hk2; have hsp := renObj_spec hk3; refine ⟨⟨k, hkk, g1⟩, by simp [E'', hkk, g2, hsp.2.2.1], ?_, ?_⟩
    · simp only [E'', hkk]; exact g3.ren hk3
    · simp only [hkk]; exact FVr.renObj hk3 hren g4
  · intro r r' o o' b hro hro' hb hb'; obtain ⟨k, o1, _, hkk, hk2, hk3⟩ := keepObjs_spec ks 0 _ ho r o hro; obtain ⟨k', o1', _, hkk', hk2', hk3'⟩ := keepObjs_spec ks 0 _ ho r' o' hro'; simp only [Nat.sub_zero] at hkk hkk'; simp only [E'', hkk] at hb; simp only [E'', hkk'] at hb'; have := hr.apart k k' o1 o1' b hk2 hk2' hb hb'; subst this; obtain ⟨hl, he⟩ := List.getElem?_eq_some_iff.1 hkk; obtain ⟨hl', he'⟩ := List.getElem?_eq_some_iff.1 hkk'; exact (List.getElem_inj hnd).1 (he.trans he'.symm)
  · intro b hb; obtain ⟨h1, h2⟩ := hr.stay b hb; refine ⟨h1, fun r o hro e => ?_⟩; obtain ⟨k, o1, _, hkk, hk2, hk3⟩ := keepObjs_spec ks 0 _ ho r o hro; simp only [Nat.sub_zero] at hkk; simp only [E'', hkk] at e; exact h2 k o1 hk2 e
  · rintro r ⟨k, hkk, _⟩; rw [hn]; exact (List.getElem?_eq_some_iff.1 hkk).1
  · intro r o b hro hb; obtain ⟨k, o1, _, hkk, hk2, hk3⟩ := keepObjs_spec ks 0 _ ho r o hro; simp only [Nat.sub_zero] at hkk; simp only [E'', hkk] at hb; exact hr.mine k o1 b hk2 hb
  · intro r hkr; have := hk r (by rw [← hr.envk]; exact hkr); simp only [E'', this]; exact hr.env r hkr
  · intro r hkr; exact ⟨r, hk r (by rw [← hr.envk]; exact hkr), hr.envD r hkr⟩
theorem Wk.nil (s : Nat) (e : TypeId) (sz : Nat) {σ : St} (h : σ.get s = .lit (.slice none 0 0)) :
    Wk σ { σ with slots := (s, .als σ.next 0 0) :: σ.slots, objs := (σ.next, ⟨true, e, sz, [], true⟩) :: σ.objs, next := σ.next + 1 } := by
  intro C E X a hr
  let N := σ.next
  have hN : ¬ E.D N := fun hD => Nat.lt_irrefl _ (hr.fresh N hD); have hne : ∀ r, E.D r → r ≠ N := fun r hD e => hN (e ▸ hD)
  let E' : Env := { w := E.w, H := updN E.H N (.slice none 0 0), Z := updN E.Z N sz, D := fun r => E.D r ∨ r = N, S := E.S }
  have hle : E.le E' := ⟨fun b hb => ⟨hb, rfl⟩, fun r hD => ⟨.inl hD, by simp [E', updN, hne r hD], by simp [E', updN, hne r hD]⟩⟩
  have hcase : ∀ r ob, find ((σ.next, (⟨true, e, sz, [], true⟩ : Obj)) :: σ.objs) r = some ob → (r = N ∧ ob = ⟨true, e, sz, [], true⟩) ∨ (find σ.objs r = some ob ∧ r ≠ N) := by
    intro r ob hf; rw [find_cons] at hf
    split at hf
    · rename_i e
      simp only [Option.some.injEq] at hf; exact .inl ⟨e.symm, hf.symm⟩
    · rename_i e
      exact .inr ⟨hf, fun e' => e e'.symm⟩
  have hH : ∀ r, r ≠ N → E'.H r = E.H r := fun r h => by simp [E', updN, h]
  have hHN : E'.H N = .slice none 0 0 := by simp [E', updN]
  have hblk : ∀ r ob b, find ((σ.next, (⟨true, e, sz, [], true⟩ : Obj)) :: σ.objs) r = some ob → blockOf (E'.H r) = some b → find σ.objs r = some ob ∧ blockOf (E.H r) = some b := by
    intro r ob b hf hb
    rcases hcase r ob hf with ⟨rfl, _⟩ | ⟨hf, hne⟩
    · rw [hHN] at hb; simp [blockOf, baseOf] at hb
    · rw [hH r hne] at hb; exact ⟨hf, hb⟩
  refine ⟨E', updN X N [], rfl, ⟨?_, hr.size, hr.defers, ?_, ?_, ?_, ?_, hr.kept, ?_, ?_, ?_, hr.base, hr.grow, hr.envk, hr.glob⟩⟩
  · intro s' v hv; rw [find_cons] at hv
    split at hv
    · rename_i e'
      simp only [Option.some.injEq] at hv; subst e' hv; have hx := hr.ev (.tmp s); simp only [St.ev, h, FV, Act.eval] at hx; simp only [FV]; refine ⟨.inr rfl, ?_⟩; rw [hHN, hx]; exact ⟨none, 0, 0, none, 0, rfl, rfl, Nat.le_refl _, fun _ => ⟨rfl, rfl⟩, fun h => absurd h (by omega)⟩
    · exact FV.le _ hle _ (hr.slots s' v hv)
  · intro r ob hf
    rcases hcase r ob hf with ⟨rfl, rfl⟩ | ⟨hf, hne⟩
    · refine ⟨.inr rfl, by simp [E', updN], ?_, by simp [updN, FVr]⟩; rw [hHN]; simp only [updN, if_true]; exact .inl ⟨rfl, rfl, rfl⟩
    · obtain ⟨g1, g2, g3, g4⟩ := hr.objs r ob hf; rw [hH r hne]; simp only [updN, hne, if_false]; exact ⟨.inl g1, by simp [E', updN, hne, g2], g3, FVr.le _ _ (hle.by _) _ g4⟩
  · intro r1 r2 o1 o2 b h1 h2 hb1 hb2; obtain ⟨g1, g2⟩ := hblk r1 o1 b h1 hb1; obtain ⟨g3, g4⟩ := hblk r2 o2 b h2 hb2; exact hr.apart r1 r2 o1 o2 b g1 g3 g2 g4
  · intro b hb; refine ⟨(hr.stay b hb).1, fun r ob hf hbk => ?_⟩; obtain ⟨g1, g2⟩ := hblk r ob b hf hbk; exact (hr.stay b hb).2 r ob g1 g2
  · rintro r (hD | rfl)
    · have := hr.fresh r hD; simp only; omega
    · exact Nat.lt_succ_self _
  · intro r ob b hf hbk; obtain ⟨g1, g2⟩ := hblk r ob b hf hbk; exact hr.mine r ob b g1 g2
  · intro r hk; have hner := hne r (hr.envD r hk); have := hr.env r hk
    simpa [E', updN, hner] using this
  · intro r hk; exact .inl (hr.envD r hk)
theorem Wk.freeze (s : Nat) {σ : St} {r lo n : Nat} {o : Obj} (hs : σ.get s = .als r lo n) (ho : find σ.objs r = some o) (hc : o.cl = true) (hle : lo + n ≤ o.rows.length) (hk : σ.env ≤ r) :
    Wk σ { σ with slots := (s, .sh o.sz ((o.rows.drop lo).take n)) :: σ.slots, objs := del σ.objs r } := by
  intro C E X a hr; obtain ⟨g1, g2, g3, g4⟩ := hr.objs r o ho
  let E' : Env := { E with S := fun b => E.S b ∨ blockOf (E.H r) = some b }
  have hle' : E.le E' := ⟨fun b hb => ⟨.inl hb, rfl⟩, fun r hD => ⟨hD, rfl, rfl⟩⟩
  have hd : ∀ r' o', find (del σ.objs r) r' = some o' → find σ.objs r' = some o' ∧ r' ≠ r := by
    intro r' o' hf; rw [find_del] at hf
    split at hf
    · cases hf
    · rename_i e; exact ⟨hf, fun e' => e e'.symm⟩
  refine ⟨E', X, rfl, ⟨?_, hr.size, hr.defers, ?_, ?_, ?_, hr.fresh, hr.kept, ?_, ?_, hr.envD, ?_, ?_, hr.envk, hr.glob.le hle'⟩⟩
  · intro s' v hv; rw [find_cons] at hv
    split at hv
    · rename_i e
      simp only [Option.some.injEq] at hv; subst e hv; have hx := hr.ev (.tmp s); simp only [St.ev, hs, FV, Act.eval] at hx; obtain ⟨_, A0, n0, c0, A, c, hH, hxe, hnc, _, hA⟩ := hx
      have hlen : ((o.rows.drop lo).take n).length = n := by simp; omega
      rw [hc] at g4; simp only [FV]; refine ⟨A, c, ((X r).drop (lo * o.sz)).take (n * o.sz), by rw [hlen]; exact hxe, by rw [hlen]; exact hnc, FVr.le _ _ hle'.clear _ ((g4.drop lo).take n), fun hne => ?_⟩
      have hpos : 0 < n := by
        rcases Nat.eq_zero_or_pos n with h0 | h0
        · rw [h0] at hne; simp at hne
        · exact h0
      obtain ⟨a0, rfl, hsp, rfl⟩ := hA hpos; obtain ⟨_, hh⟩ := g3.holds (a0 := a0) (by rw [hH]; rfl); refine ⟨_, rfl, add_spot _ hsp _, ?_, ?_⟩
      · rw [add_block]; exact .inr (by rw [hH]; rfl)
      · rw [g2]; exact (hh.drop hsp _).take _
    · exact FV.le _ hle' _ (hr.slots s' v hv)
  · intro r' o' hf; obtain ⟨hf, hne⟩ := hd r' o' hf; obtain ⟨k1, k2, k3, k4⟩ := hr.objs r' o' hf; exact ⟨k1, k2, k3, FVr.le _ _ (hle'.by _) _ k4⟩
  · intro r1 r2 o1 o2 b h1 h2 hb1 hb2; exact hr.apart r1 r2 o1 o2 b (hd r1 o1 h1).1 (hd r2 o2 h2).1 hb1 hb2
  · rintro b (hb | hb)
    · exact ⟨(hr.stay b hb).1, fun r' o' hf => (hr.stay b hb).2 r' o' (hd r' o' hf).1⟩
    · refine ⟨g3.lt hb, fun r' o' hf hbk => ?_⟩; obtain ⟨hf, hne⟩ := hd r' o' hf; exact hne (hr.apart r' r o' o b hf ho hbk hb)
  · intro r' o' b hf hbk; exact hr.mine r' o' b (hd r' o' hf).1 hbk
  · exact hr.env
  · intro b hb; exact .inl (hr.base b hb)
  · rintro b (hb | hb)
    · exact hr.grow b hb
    · rcases hr.mine r o b ho hb with h | h
      · exact .inr (.inr h)
      · exact .inr (.inl h)
end Go.AM
