/-
  The abstract machine, continued: the rules for maps.
  Conditions: none; generic over the program.
-/
import Derived.Test.YtkbpignlggahaaaGreatDoorAmLib
namespace Go.AM
open Go.MapKept
set_option linter.unusedVariables false
set_option linter.unusedSimpArgs false
set_option linter.unusedSectionVars false
section plain
variable {K V : Type} [DecidableEq K]
def mget : List (K × V) → K → Option V
  | [], _ => none
  | p :: m, k => if k = p.1 then some p.2 else mget m k
def mput : List (K × V) → K → V → List (K × V)
  | [], k, v => [(k, v)]
  | p :: m, k, v => if k = p.1 then (k, v) :: m else p :: mput m k v
def mpos : List (K × V) → K → Nat
  | [], _ => 0
  | p :: m, k => if k = p.1 then 0 else mpos m k + 1
theorem mget_cons (p : K × V) (m : List (K × V)) (k : K) : mget (p :: m) k = if k = p.1 then some p.2 else mget m k := rfl
theorem mget_mput (m : List (K × V)) (k : K) (v : V) (k' : K) : mget (mput m k v) k' = if k' = k then some v else mget m k' := by
  induction m with
  | nil => simp [mput, mget]
  | cons p m ih =>
    simp only [mput]
    by_cases h : k = p.1
    · simp only [h, if_true, mget]
      by_cases h2 : k' = p.1 <;> simp [h2]
    · simp only [h, if_false, mget, ih]
      by_cases h2 : k' = p.1
      · have : ¬ k' = k := fun e => h (e ▸ h2); simp only [h2, if_true]; rw [if_neg]; intro e; exact h e.symm
      · simp [h2]
theorem mput_same (m : List (K × V)) (k : K) (v u : V) : mput (mput m k v) k u = mput m k u := by
  induction m with
  | nil => simp [mput]
  | cons p m ih =>
    simp only [mput]
    by_cases h : k = p.1
    · simp [h, mput]
    · simp [h, mput, ih]
theorem mpos_get {m : List (K × V)} {k : K} {v : V} (h : mget m k = some v) : m[mpos m k]? = some (k, v) := by
  induction m with
  | nil => simp [mget] at h
  | cons p m ih =>
    simp only [mget] at h; simp only [mpos]
    by_cases h2 : k = p.1
    · simp only [h2, if_true, Option.some.injEq] at h ⊢; subst h
      simp
    · simp only [h2, if_false] at h ⊢
      simpa using ih h
theorem mput_some {m : List (K × V)} {k : K} {v : V} (u : V) (h : mget m k = some v) : mput m k u = m.set (mpos m k) (k, u) := by
  induction m with
  | nil => simp [mget] at h
  | cons p m ih =>
    simp only [mget] at h; simp only [mpos, mput]
    by_cases h2 : k = p.1
    · simp [h2]
    · simp only [h2, if_false] at h ⊢
      simp [ih h]
theorem mput_none {m : List (K × V)} {k : K} (u : V) (h : mget m k = none) : mput m k u = m ++ [(k, u)] := by
  induction m with
  | nil => rfl
  | cons p m ih =>
    simp only [mget] at h; simp only [mput]
    by_cases h2 : k = p.1
    · simp [h2] at h
    · simp only [h2, if_false] at h ⊢; rw [ih h]; rfl
theorem mpos_none {m : List (K × V)} {k : K} (h : mget m k = none) : mpos m k = m.length := by
  induction m with
  | nil => rfl
  | cons p m ih =>
    simp only [mget] at h; simp only [mpos]
    by_cases h2 : k = p.1
    · simp [h2] at h
    · simp only [h2, if_false] at h ⊢; rw [ih h]; rfl
theorem mpos_mput (m : List (K × V)) (k : K) (v : V) : mpos (mput m k v) k = mpos m k := by
  induction m with
  | nil => simp [mput, mpos]
  | cons p m ih =>
    simp only [mput, mpos]
    by_cases h : k = p.1
    · simp [h, mpos]
    · simp [h, mpos, ih]
theorem mput_keys (m : List (K × V)) (k : K) (v : V) (k' : K) : k' ∈ (mput m k v).map (·.1) ↔ k' = k ∨ k' ∈ m.map (·.1) := by
  induction m with
  | nil => simp [mput]
  | cons p m ih =>
    simp only [mput]
    by_cases h : k = p.1
    · simp [h]
    · simp only [h, if_false, List.map_cons, List.mem_cons, ih]
      constructor
      · rintro (h1 | h1 | h1) <;> simp [h1]
      · rintro (h1 | h1 | h1) <;> simp [h1]
theorem mput_nodup {m : List (K × V)} (h : (m.map (·.1)).Nodup) (k : K) (v : V) : ((mput m k v).map (·.1)).Nodup := by
  induction m with
  | nil => simp [mput]
  | cons p m ih =>
    simp only [List.map_cons, List.nodup_cons] at h; simp only [mput]
    by_cases h2 : k = p.1
    · simp only [h2, if_true, List.map_cons, List.nodup_cons]; exact h
    · simp only [h2, if_false, List.map_cons, List.nodup_cons]; refine ⟨fun hm => ?_, ih h.2⟩
      rcases (mput_keys m k v p.1).1 hm with h3 | h3
      · exact h2 h3.symm
      · exact h.1 h3
theorem mget_isSome (m : List (K × V)) (k : K) : (mget m k).isSome = true ↔ k ∈ m.map (·.1) := by
  induction m with
  | nil => simp [mget]
  | cons p m ih =>
    simp only [mget, List.map_cons, List.mem_cons]
    by_cases h : k = p.1
    · simp [h]
    · simp only [h, if_false, false_or]; exact ih
end plain
structure KL {K : Type} [DecidableEq K] (d : TypeDesc) (kv : K → Value) : Prop where
  same : ∀ a b, Instr.sameNow d (kv a) (kv b) = some (decide (a = b))
  key : ∀ a, keyB d (kv a) = true
theorem klI : KL (.int .i64) (Value.int .i64) := ⟨fun a b => by simp [Instr.sameNow]; by_cases h : a = b <;> simp [h], fun a => by simp [keyB]⟩
theorem klS : KL .string str := ⟨fun a b => by
  simp only [Instr.sameNow]
  congr 1
  by_cases h : a = b
  · subst h; simp only [decide_true]
    show ((_ : ByteArray) == _) = true
    simp [bytes_beq]
  · simp only [h, decide_false]; rw [Bool.eq_false_iff]; intro hb
    exact h (bytes_inj.1 ((bytes_beq _ _).1 hb)), fun a => rfl⟩
def rowK {K V : Type} (kv : K → Value) (vv : V → Value) (p : K × V) : List AV := [.lit (kv p.1), .top, .lit (vv p.2)]
section find
variable {K V : Type} [DecidableEq K] {d : TypeDesc} {kv : K → Value} {vv : V → Value}
theorem findAV_K (h : KL d kv) (k : K) : ∀ (m : List (K × V)) (i : Nat), findAV d (kv k) (m.map (rowK kv vv)) i = some ((mget m k).map fun v => (i + mpos m k, [.top, .lit (vv v)]))
  | [], i => rfl
  | p :: m, i => by
    simp only [List.map_cons, rowK, findAV, h.same, mget, mpos]
    by_cases h2 : k = p.1
    · simp [h2]
    · simp only [h2, decide_false, if_false]; rw [findAV_K h k m (i + 1)]
      congr 1
      cases mget m k with
      | none => rfl
      | some v => simp; omega
end find
section rules
variable {P : Program} {ops : Array Oper} {rest : List Oper} {s : List (Nat × AV)} {b : List (Nat × Obj)} {n t e id : Nat} {Q : St → Prop} {dd ty : Nat} {pos : String} {aft : Array Edge} {g : Option (Nat × Bool)} {x y z : Operand}
variable {K V : Type} [DecidableEq K] {d : TypeDesc} {kv : K → Value} {vv : V → Value} {m : List (K × V)} {k : K} {mt r el : Nat} {z0 : V} {cl : Bool}
theorem q.mm {p : TypeDesc × Option Value} (ht : mapTy P mt = some p) : stepQ P ⟨s, b, n, t, e⟩ id (.makeMap mt none) = some (.hd id, [(id, ⟨true, mt, msz p.2, [], true⟩)]) := by
  simp only [stepQ, ht, Option.map_some]
theorem look_own (h : KL d kv) (ht : mapTy P mt = some (d, some (vv z0))) (ok : Bool) (hx : opv s x = some (.hd r) := by exact rfl) (ho : find b r = some ⟨true, el, 3, m.map (rowK kv vv), cl⟩ := by exact rfl) (hy : opv s y = some (.lit (kv k)) := by exact rfl) :
    stepQ P ⟨s, b, n, t, e⟩ id (.lookup mt x y ok) = some (bif ok then .tup [.lit (vv ((mget m k).getD z0)), .lit (.bool (mget m k).isSome)] else .lit (vv ((mget m k).getD z0)), []) := by
  simp only [stepQ, ht, Option.bind_some, opv_ev hx, mapRows, ho, cond_true, opv_ev hy, toVal, msz, Nat.beq_refl, h.key, Bool.and_self, findAV_K h]
  cases mget m k with
  | none => cases ok <;> rfl
  | some v => cases ok <;> rfl
theorem q.lk (h : KL d kv) (ht : mapTy P mt = some (d, some (vv z0))) (hx : opv s x = some (.hd r) := by exact rfl) (ho : find b r = some ⟨true, el, 3, m.map (rowK kv vv), cl⟩ := by exact rfl) (hy : opv s y = some (.lit (kv k)) := by exact rfl) :
    stepQ P ⟨s, b, n, t, e⟩ id (.lookup mt x y false) = some (.lit (vv ((mget m k).getD z0)), []) := look_own h ht false hx ho hy
theorem SeqL.of_run {o : Oper} {σ : St} (hg : guardGo (dstsOf ops) σ o.guard = some true)
    (h : ∀ C E X a, Rel C E X σ a → ∃ y E' X' σ', (execOp a.eval o).run P E.w = .ok (.value y) E'.w ∧ Rel C E' X' σ' (a.put o.dst y) ∧ SeqL P ops rest σ' Q) : SeqL P ops (o :: rest) σ Q := by
  intro C E X a hr Q' hq; simp only [wpL_cons, hr.guard hg, if_true]; obtain ⟨y, E', X', σ', h1, h2, h3⟩ := h C E X a hr; exact wp_value h1 (h3 C E' X' _ h2 Q' hq)
theorem SeqL.of_skip {o : Oper} {σ : St} (hg : guardGo (dstsOf ops) σ o.guard = some true)
    (h : ∀ C E X a, Rel C E X σ a → ∃ E' X' σ', (execOp a.eval o).run P E.w = .ok .skip E'.w ∧ Rel C E' X' σ' (a.put o.dst undef) ∧ SeqL P ops rest σ' Q) : SeqL P ops (o :: rest) σ Q := by
  intro C E X a hr Q' hq; simp only [wpL_cons, hr.guard hg, if_true]; obtain ⟨E', X', σ', h1, h2, h3⟩ := h C E X a hr
  unfold Oper.wp
  rw [h1]; simp only [Oper.upon]; exact h3 C E' X' _ h2 Q' hq
theorem rowM_key {E : Env} {v : Value} {vs : List AV} {ee : MapEntry} (h : FVc E (.lit v :: vs) (rowM ee)) : ee.key = v := by
  simp only [FVc, rowM, List.cons.injEq] at h; obtain ⟨y, ys, ⟨rfl, rfl⟩, _, hy, _⟩ := h
  simpa [FV] using hy
theorem FVr_setM {E : Env} {sz : Nat} {new : List AV} {e1 : MapEntry} (hn : new.length = sz) (hnew : FVc E new (rowM e1)) : ∀ {rows : List (List AV)} {es : List MapEntry} {i : Nat}, (∀ x ∈ es, (rowM x).length = sz) → FVr E sz rows (flatM es) → i < rows.length → i < es.length → FVr E sz (rows.set i new) (flatM (es.set i e1))
  | [], _, i, _, _, hi, _ => by simp at hi
  | _ :: _, [], i, _, _, _, hi => by simp at hi
  | row :: rows, x :: es, i, hl, hf, hi, hi' => by
    obtain ⟨h1, h2, h3⟩ := FVr_rowM hf (hl x (by simp))
    cases i with
    | zero => exact FVr_rowM_of hn hnew h3
    | succ i => exact FVr_rowM_of h1 h2 (FVr_setM hn hnew (fun y hy => hl y (by simp [hy])) h3 (by simpa using hi) (by simpa using hi'))
theorem flatM_app (l m : List MapEntry) : flatM (l ++ m) = flatM l ++ flatM m := by simp [flatM]
theorem FVr_one {E : Env} {sz : Nat} {new : List AV} {e1 : MapEntry} (hn : new.length = sz) (hnew : FVc E new (rowM e1)) : FVr E sz [new] (flatM [e1]) := FVr_rowM_of hn hnew (by simp [FVr, flatM])
theorem key_one {d : TypeDesc} {v : Value} (h : IsKey d v) : v.oneCell' = true := by
  cases d <;> cases v <;> simp_all [IsKey] <;> rfl
theorem modify_set {es : Array MapEntry} {i : Nat} {x : MapEntry} (f : MapEntry → MapEntry) (h : es.toList[i]? = some x) : (es.modify i f).toList = es.toList.set i (f x) := by
  apply List.ext_getElem?
  intro j; simp only [Array.getElem?_toList, Array.getElem?_modify, List.getElem?_set]; rw [Array.getElem?_toList] at h
  by_cases hj : i = j
  · subst hj; obtain ⟨hlt, hge⟩ := Array.getElem?_eq_some_iff.1 h
    simp [hlt, hge]
  · simp [hj]
theorem Rel.putMap {C : Ctx} {E : Env} {X : Nat → List Value} {σ : St} {a : Act} (hr : Rel C E X σ a) {r : Nat} {o : Obj} (hob : find σ.objs r = some o) (hs : o.slc = true) (hcl : o.cl = true) {bb : Nat} (hH : E.H r = .map (some bb)) {es : Array MapEntry} {clk : Nat} (hg : E.w.heap[bb]? = some (.map es clk))
    (es' : Array MapEntry) (clk' : Nat) (hwf : MapWf o.sz es' clk') (rows' : List (List AV)) (hf : FVr E.clear o.sz rows' (flatM es'.toList)) :
    ∃ E' X', E'.w = { E.w with heap := E.w.heap.setIfInBounds bb (.map es' clk') } ∧ Rel C E' X' { σ with objs := (r, ⟨true, o.elem, o.sz, rows', true⟩) :: del σ.objs r } a := by
  have hset := Go.MapKept.heap_set (o' := .map es' clk') hg
  have hbo : blockOf (E.H r) = some bb := by rw [hH]; rfl
  have hle : E.clear.le (Env.clear { E with w := { E.w with heap := E.w.heap.setIfInBounds bb (.map es' clk') } }) := ⟨fun k hk => ⟨hk, hset.2 k (fun e => (hr.stay k hk).2 r o hob (e ▸ hbo))⟩, fun r hr => hr.elim⟩
  obtain ⟨h1, _⟩ := hr.update (o' := ⟨true, o.elem, o.sz, rows', true⟩) (w' := { E.w with heap := E.w.heap.setIfInBounds bb (.map es' clk') }) (xs' := flatM es'.toList) hob hbo rfl ⟨rfl, Nat.le_refl _⟩ rfl (by simp) (fun k hk => hset.2 k hk) rfl
    (by unfold ObjOK; exact .inr (.inr ⟨bb, es', clk', hH, hset.1, hwf, rfl⟩)) (FVr.le _ _ hle _ hf)
  exact ⟨_, _, rfl, h1⟩
theorem rel_ev_lit {C : Ctx} {E : Env} {X : Nat → List Value} {a : Act} (hr : Rel C E X ⟨s, b, n, t, e⟩ a) {v : Value} (hx : opv s x = some (.lit v)) : a.eval x = v := by
  have h := hr.ev x; rw [opv_ev hx] at h
  simpa [FV] using h
theorem S.mu {v : V} (b' : List (Nat × Obj)) (h : KL d kv) (ht : mapTy P mt = some (d, some (vv z0))) (hv : ∀ u, (vv u).oneCell' = true) (hx : opv s x = some (.hd r) := by exact rfl) (ho : find b r = some ⟨true, el, 3, m.map (rowK kv vv), true⟩ := by exact rfl) (hy : opv s y = some (.lit (kv k)) := by exact rfl) (hz : opv s z = some (.lit (vv v)) := by exact rfl)
    (hdel : del b r = b' := by exact rfl) (hg : guardGo (dstsOf ops) ⟨s, b, n, t, e⟩ g = some true := by exact rfl) (hn : SeqL P ops rest ⟨s, (r, ⟨true, el, 3, (mput m k v).map (rowK kv vv), true⟩) :: b', n, t, e⟩ Q) :
    SeqL P ops (⟨none, .mapUpdate mt x y z, ty, pos, aft, g⟩ :: rest) ⟨s, b, n, t, e⟩ Q := by
  subst hdel; refine SeqL.of_skip hg fun C E X a hr => ?_; obtain ⟨kt, et, z1, ht1, ht2, hzz, hz1⟩ := mapTy_spec ht; obtain ⟨_, hZ, hok, hrr⟩ := hr.objs r _ ho; have hxv := hr.ev x; rw [opv_ev hx] at hxv; obtain ⟨bb, es, clk, hH, hgg, hwf, hfl, hxe⟩ := hok.asMap rfl hxv; rw [← hfl] at hrr; have hye := rel_ev_lit hr hy; have hze := rel_ev_lit hr hz; have hik := keyB_is (h.key k)
  have hun : isUnit (vv v) = false := by
    have := hv v
    cases hvv : vv v <;> simp [hvv, isUnit] at this ⊢
    simp [Value.oneCell'] at this
  have hvc : valCells (vv v) = [vv v] := by simp [valCells, hun]
  have hnew : ∀ st : Nat, FVc E.clear (rowK kv vv (k, v)) (rowM ⟨kv k, vv v, st⟩) := by
    intro st; simp only [rowM, hvc, rowK, FVc]; exact ⟨_, _, rfl, key_one hik, by simp [FV], _, _, rfl, rfl, by simp [FV], _, _, rfl, hv v, by simp [FV], rfl⟩
  have hlen : ∀ st : Nat, (rowM ⟨kv k, vv v, st⟩).length = 3 := fun st => by simp [rowM, hvc]
  rcases findAV_spec (show (0 : Nat) < 3 by decide) hwf.len hrr (findAV_K (vv := vv) h k m 0) with ⟨h1, h2, h3⟩ | ⟨j, v1, vs, e1, h1, h2, h3, h4, h5, h6, h7⟩
  · have hm0 : mget m k = none := by simpa using h1
    have hne : ∀ x ∈ es.toList, x.key ≠ kv k := fun x hx e => by
      have := h3 x hx; rw [e, h.same] at this
      simp at this
    obtain ⟨E', X', hw, hr'⟩ := hr.putMap ho rfl rfl hH hgg (es.push { key := kv k, val := vv v, born := clk }) (clk + 1) ⟨stamped_push hwf.st hne, fun x hx => by
      simp only [Array.toList_push, List.mem_append, List.mem_singleton] at hx
      rcases hx with hx | rfl
      · exact hwf.len x hx
      · exact hlen clk⟩ ((mput m k v).map (rowK kv vv)) (by
        rw [mput_none v hm0, List.map_append, Array.toList_push, flatM_app]
        exact hrr.append (FVr_one rfl (hnew clk)))
    refine ⟨E', X', _, ?_, hr', hn⟩
    unfold execOp
    simp [hxe, hye, hze, Instr.mapUpdate, run_underlying ht1, Go.MapKept.run_getObj_map hgg, Go.MapKept.run_checkKey ht2 hik, Go.MapKept.run_findKey ht2 h2, Go.MapKept.run_setObj_map _ hgg, Result.andThen, hw]
  · have hj : es.toList[j]? = some e1 := h3
    have hj' : es[j]? = some e1 := by simpa using h3
    have hke : e1.key = kv k := by
      rw [h4] at h7 ⊢
      have hmk : ∃ p ∈ m, kv p.1 = v1 := by
        rw [List.getElem?_map, Option.map_eq_some_iff] at h2; obtain ⟨p, hp, hp2⟩ := h2; simp only [rowK, List.cons.injEq, AV.lit.injEq] at hp2; exact ⟨p, List.mem_of_getElem? hp, hp2.1⟩
      obtain ⟨p, _, rfl⟩ := hmk; rw [h.same] at h7; simp only [Option.some.injEq, decide_eq_true_eq] at h7; rw [h7]
    obtain ⟨u, hu⟩ : ∃ u, mget m k = some u := by
      cases hm : mget m k with
      | none => rw [hm] at h1; simp at h1
      | some u => exact ⟨u, rfl⟩
    have hjp : j = mpos m k := by
      rw [hu] at h1; simp only [Option.map_some, Option.some.injEq, Prod.mk.injEq] at h1; omega
    obtain ⟨E', X', hw, hr'⟩ := hr.putMap ho rfl rfl hH hgg (es.modify j fun x => { x with key := kv k, val := vv v }) clk ⟨stamped_modify hwf.st _ _ (fun _ _ => rfl) (fun x _ hx => by rw [hj'] at hx; cases hx; exact hke.symm), fun x hx => by
      rw [modify_set _ hj] at hx
      rcases List.mem_or_eq_of_mem_set hx with hx | rfl
      · exact hwf.len x hx
      · exact hlen _⟩ ((mput m k v).map (rowK kv vv)) (by
        rw [mput_some v hu, List.map_set, modify_set _ hj, ← hjp]; refine FVr_setM rfl (hnew _) hwf.len hrr ?_ (List.getElem?_eq_some_iff.1 hj).1; rw [List.length_map]; have := (List.getElem?_eq_some_iff.1 (mpos_get hu)).1
        omega)
    refine ⟨E', X', _, ?_, hr', hn⟩
    have h6' : Instr.findNow d (kv k) es.toList 0 = some (some (j, e1.val)) := by simpa using h6
    unfold execOp
    simp [hxe, hye, hze, Instr.mapUpdate, run_underlying ht1, Go.MapKept.run_getObj_map hgg, Go.MapKept.run_checkKey ht2 hik, Go.MapKept.run_findKey ht2 h6', hj', hke, run_keyThatStays hik, Go.MapKept.run_setObj_map _ hgg, Result.andThen, hw]
def pinR (kv : K → Value) (vv : V → Value) (m : List (K × V)) (k : K) (v : V) (q : Int) : List (List AV) := ((mput m k v).map (rowK kv vv)).set (mpos m k) [.lit (kv k), .lit (.int .i64 q), .lit (vv v)]
theorem unit_no (hv : ∀ u : V, (vv u).oneCell' = true) (v : V) : isUnit (vv v) = false := by
  have := hv v
  cases hvv : vv v <;> simp [hvv, isUnit] at this ⊢
  simp [Value.oneCell'] at this
theorem S.es {v v0 : V} {q : Int} (b' : List (Nat × Obj)) (h : KL d kv) (hv : ∀ u, (vv u).oneCell' = true) (hx : opv s x = some (.hd r) := by exact rfl) (ho : find b r = some ⟨true, el, 3, pinR kv vv m k v0 q, true⟩ := by exact rfl) (hy : opv s y = some (.lit (.int .i64 q)) := by exact rfl) (hz : opv s z = some (.lit (vv v)) := by exact rfl)
    (hdel : del b r = b' := by exact rfl) (hg : guardGo (dstsOf ops) ⟨s, b, n, t, e⟩ g = some true := by exact rfl)
    (hn : SeqL P ops rest ⟨s, (r, ⟨true, el, 3, (mput m k v).map (rowK kv vv), true⟩) :: b', n, t, e⟩ Q) :
    SeqL P ops (⟨none, .entryStore mt x y z, ty, pos, aft, g⟩ :: rest) ⟨s, b, n, t, e⟩ Q := by
  subst hdel; refine SeqL.of_skip hg fun C E X a hr => ?_; obtain ⟨_, hZ, hok, hrr⟩ := hr.objs r _ ho; have hxv := hr.ev x; rw [opv_ev hx] at hxv; obtain ⟨bb, es, clk, hH, hgg, hwf, hfl, hxe⟩ := hok.asMap rfl hxv; rw [← hfl] at hrr; have hye := rel_ev_lit hr hy; have hze := rel_ev_lit hr hz; have hik := keyB_is (h.key k)
  have hvc : ∀ v, valCells (vv v) = [vv v] := fun v => by simp [valCells, unit_no hv v]
  have hpos : mpos m k < (mput m k v0).length := by
    have := mpos_get (m := mput m k v0) (k := k) (v := v0) (by rw [mget_mput, if_pos rfl]); rw [mpos_mput] at this; exact (List.getElem?_eq_some_iff.1 this).1
  have hrow : (pinR kv vv m k v0 q)[mpos m k]? = some [.lit (kv k), .lit (.int .i64 q), .lit (vv v0)] := by
    unfold pinR
    rw [List.getElem?_set_self (by simpa using hpos)]
  obtain ⟨hlen1, hent⟩ := FVr_ent (show (0 : Nat) < 3 by decide) hwf.len hrr; obtain ⟨e1, he1, _, hc1⟩ := hent _ _ hrow; have hk1 : e1.key = kv k := rowM_key hc1
  have hb1 : (e1.born : Int) = q := by
    simp only [FVc, rowM, List.cons.injEq] at hc1; obtain ⟨y, ys, ⟨rfl, rfl⟩, _, _, y, ys, ⟨rfl, rfl⟩, _, hb, _⟩ := hc1
    simpa [FV, goInt] using hb
  have he1' : es[mpos m k]? = some e1 := by simpa using he1
  have hidx : es.findIdx? (fun x => (x.born : Int) == q) = some (mpos m k) := by
    rw [Array.findIdx?_eq_some_iff_getElem]; obtain ⟨hlt, hge⟩ := Array.getElem?_eq_some_iff.1 he1'; refine ⟨hlt, by rw [hge]; simp [hb1], fun j hj => ?_⟩
    have hjlt : j < es.size := by omega
    intro hc
    have hbe : es[j].born = e1.born := by
      have : (es[j].born : Int) = q := by simpa using hc
      omega
    have hnd := hwf.st.2.1
    have h1 : (es.toList.map (·.born))[j]? = some e1.born := by simp [hjlt, hbe]
    have h2 : (es.toList.map (·.born))[mpos m k]? = some e1.born := by simp [he1']
    have := (List.getElem?_inj (by simpa using hjlt) hnd).1 (h1.trans h2.symm); omega
  have hnew : FVc E.clear (rowK kv vv (k, v)) (rowM { e1 with val := vv v }) := by
    simp only [rowM, hvc, rowK, FVc, hk1]; exact ⟨_, _, rfl, key_one hik, by simp [FV], _, _, rfl, rfl, by simp [FV], _, _, rfl, hv v, by simp [FV], rfl⟩
  have hl3 : (rowM { e1 with val := vv v }).length = 3 := by simp [rowM, hvc]
  obtain ⟨E', X', hw, hr'⟩ := hr.putMap ho rfl rfl hH hgg (es.modify (mpos m k) fun x => { x with val := vv v }) clk ⟨stamped_modify hwf.st _ _ (fun _ _ => rfl) (fun _ _ _ => rfl), fun x hx => by
    rw [modify_set _ he1] at hx
    rcases List.mem_or_eq_of_mem_set hx with hx | rfl
    · exact hwf.len x hx
    · exact hl3⟩ ((mput m k v).map (rowK kv vv)) (by
      have e2 : (mput m k v).map (rowK kv vv) = (pinR kv vv m k v0 q).set (mpos m k) (rowK kv vv (k, v)) := by
        unfold pinR
        rw [List.set_set, ← mput_same m k v0 v, mput_some (m := mput m k v0) v (v := v0) (by rw [mget_mput, if_pos rfl]), List.map_set, mpos_mput]
      rw [e2, modify_set _ he1]
      exact FVr_setM rfl hnew hwf.len hrr (by rw [hlen1]; exact (List.getElem?_eq_some_iff.1 he1).1) (List.getElem?_eq_some_iff.1 he1).1)
  refine ⟨E', X', _, ?_, hr', hn⟩
  unfold execOp
  simp [hxe, hye, hze, Instr.entryStore, Go.MapKept.run_getObj_map hgg, asInt, asIntOf, hidx, Go.MapKept.run_setObj_map _ hgg, Result.andThen, hw]
theorem perm_split {α : Type} {f : α → Nat} {a c F : List α} {e : α} (hp : (a ++ e :: c).Perm F) (hn : (F.map f).Nodup) : (a ++ c).Perm (F.filter fun x => !(f x == f e)) := by
  have hn' : ((a ++ e :: c).map f).Nodup := (hp.map f).nodup_iff.2 hn; have h1 := hp.filter (fun x => !(f x == f e))
  have h2 : (a ++ e :: c).filter (fun x => !(f x == f e)) = a ++ c := by
    rw [List.map_append, List.map_cons, List.nodup_append] at hn'; obtain ⟨_, h4, h5⟩ := hn'; rw [List.nodup_cons] at h4; rw [List.filter_append, List.filter_cons]; simp only [beq_self_eq_true, Bool.not_true, Bool.false_eq_true, if_false]
    congr 1
    · rw [List.filter_eq_self]; intro x hx; have := h5 (f x) (List.mem_map.2 ⟨x, hx, rfl⟩) (f e) (by simp)
      simpa using this
    · rw [List.filter_eq_self]; intro x hx; have : f x ≠ f e := fun h => h4.1 (h ▸ List.mem_map.2 ⟨x, hx, rfl⟩)
      simpa using this
  rw [h2] at h1; exact h1
theorem S.nx {l : List (K × V)} {lr : List (List AV)} {it is : Nat} (b' : List (Nat × Obj)) (hx : opv s x = some (.hd r) := by exact rfl) (ho : find b r = some ⟨false, it, is, [[.rem 3 lr (l.map (rowK kv vv))]], true⟩ := by exact rfl) (hdel : del b r = b' := by exact rfl) (hg : guardGo (dstsOf ops) ⟨s, b, n, t, e⟩ g = some true := by exact rfl) (hd : Nat.blt dd t = true := by exact rfl)
    (h0 : l = [] → SeqL P ops rest ⟨(dd, .tup [.lit (.bool false)]) :: s, b, n, t, e⟩ Q)
    (h1 : ∀ l1 p l2, l = l1 ++ p :: l2 → SeqL P ops rest ⟨(dd, .tup [.lit (.bool true), .lit (kv p.1), .lit (vv p.2)]) :: s, (r, ⟨false, it, is, [[.rem 3 [rowK kv vv p] ((l1 ++ l2).map (rowK kv vv))]], true⟩) :: b', n, t, e⟩ Q) :
    SeqL P ops (⟨some dd, .next x false, ty, pos, aft, g⟩ :: rest) ⟨s, b, n, t, e⟩ Q := by
  subst hdel; refine SeqL.of_run hg fun C E X a hr => ?_
  have hdlt : ∀ d', some dd = some d' → d' < t := fun d' e' => by cases e'; exact Nat.le_of_ble_eq_true hd
  obtain ⟨_, hZ, hok, hrr⟩ := hr.objs r _ ho; have hxv := hr.ev x; rw [opv_ev hx] at hxv; obtain ⟨bi, it0, hH, hgi, hxe, _, hit⟩ := hok.asIter rfl hxv; simp only [FVr, FVc] at hrr; obtain ⟨ys, zs, hcat, hsz1, ⟨y, ys', rfl, _, hfv, rfl⟩, rfl⟩ := hrr; simp only [List.append_nil] at hcat; simp only [FV] at hfv
  rcases hit with ⟨rfl, hX⟩ | ⟨mb, clk, seen, rfl, hX⟩
  · rw [hX] at hcat; simp only [List.cons.injEq, and_true] at hcat; subst hcat
    rcases hfv with ⟨_, _, hl⟩ | ⟨_, _, _, _, _, _, h, _⟩
    · have hlnil : l = [] := List.map_eq_nil_iff.1 hl; have hput := hr.put (some dd) (v := .tup [.lit (.bool false)]) (y := .tuple #[.bool false]) hdlt (by simp [FV, FVs]); refine ⟨_, E, X, _, ?_, hput, h0 hlnil⟩
      unfold execOp
      simp only [hxe, Instr.next, getObj, Sem.run_bind, Sem.run, hgi, Result.andThen]; rfl
    · simp [itn, itv] at h
  rw [hX] at hcat; simp only [List.cons.injEq, and_true] at hcat; subst hcat
  rcases hfv with ⟨h, _⟩ | ⟨m', es, clk', seen', left, le, hitv, hS, hgm, hwf, hperm, _, _, hrest⟩
  · simp [itn, itv] at h
  obtain ⟨rfl, rfl, rfl⟩ := itv_inj hitv; have hgm' : E.w.heap[mb]? = some (.map es clk) := hgm; have hold := hwf.st.1
  have hbo : blockOf (E.H r) = some bi := by rw [hH]; rfl
  have hne : mb ≠ bi := by
    rintro rfl; rw [hgi] at hgm'
    cases hgm'
  generalize hL : Array.filter (fun e => !seen.contains e.born) es = L
  have hLl : L.toList = es.toList.filter (fun e => !seen.contains e.born) := by rw [← hL]; simp
  have hpL : left.Perm L.toList := by rw [hLl]; exact hperm
  have hmem : ∀ x ∈ L.toList, x ∈ es.toList := fun x hx => by rw [hLl] at hx; exact (List.mem_filter.1 hx).1
  have e1 : L.filter (fun x => decide (x.born < clk)) = L := Array.filter_eq_self.2 (fun x hx => by simpa using hold x (hmem x (by simpa using hx)))
  have e2 : L.filter (fun x => decide (x.born ≥ clk)) = #[] := by
    rw [Array.filter_eq_empty_iff]; intro x hx; have := hold x (hmem x (by simpa using hx))
    simp
    omega
  have hlenl : ∀ x ∈ left, (rowM x).length = 3 := fun x hx => hwf.len x (hmem x (hpL.subset hx)); obtain ⟨hl1, hent⟩ := FVr_ent (show (0 : Nat) < 3 by decide) hlenl hrest; have htest := next_test_false seen es clk clk hold (Nat.le_refl _)
  by_cases hl0 : L.size = 0
  · have hLe : L = #[] := Array.eq_empty_of_size_eq_zero hl0; subst hLe; have hleft : left = [] := hpL.eq_nil
    have hlnil : l = [] := by
      rw [hleft, List.length_map] at hl1; exact List.eq_nil_of_length_eq_zero hl1
    have hput := hr.put (some dd) (v := .tup [.lit (.bool false)]) (y := .tuple #[.bool false]) hdlt (by simp [FV, FVs]); refine ⟨_, E, X, _, ?_, hput, h0 hlnil⟩
    unfold execOp
    simp only [hxe, Instr.next, getObj, Sem.run_bind, Sem.run, hgi, hgm', Result.andThen, htest, Bool.false_eq_true, if_false, hL, e1, e2, Array.append_empty]
    simp [choose, Sem.run, Question.forced]
  · have hne0 : L.isEmpty = false := by simp [Array.isEmpty, hl0]
    have hch : ∃ (j : Nat) (w1 : World), j < L.size ∧ (w1 = E.w ∨ w1 = E.w.drew) ∧ (choose (Question.mapNext L.size)).run P E.w = .ok j w1 := by
      by_cases hf : L.size ≤ 1
      · exact ⟨0, E.w, by omega, .inl rfl, by simp [choose, Sem.run, Question.forced, hf]⟩
      · exact ⟨_, E.w.drew, Nat.mod_lt _ (by omega), .inr rfl, by
          simp only [choose, Sem.run, Question.forced, decide_eq_true_eq, hf, if_false, Question.cut]
          rfl⟩
    obtain ⟨j, w1, hj, hw1, hrun⟩ := hch; have hej : L[j] ∈ left := hpL.symm.subset (by simp); obtain ⟨a1, c1, hsplit⟩ := List.append_of_mem hej; obtain ⟨i, hi, hil⟩ : ∃ i, left[i]? = some L[j] ∧ i = a1.length := ⟨a1.length, by rw [hsplit]; simp, rfl⟩
    have hilt : i < l.length := by
      rw [List.length_map] at hl1; rw [hl1, hsplit, hil]
      simp
    have hlsp : l = l.take i ++ l[i] :: l.drop (i + 1) := by rw [← List.drop_eq_getElem_cons hilt, List.take_append_drop]
    have hrow : (l.map (rowK kv vv))[i]? = some (rowK kv vv l[i]) := by simp [hilt]
    obtain ⟨ee, hee, _, hcc⟩ := hent i _ hrow; rw [hi] at hee
    cases hee
    have hfr : FVr (E.by true).clear 3 ((l.take i ++ l.drop (i + 1)).map (rowK kv vv)) (flatM (a1 ++ c1)) := by
      have key : ∀ (rows1 : List (List AV)) (es1 : List MapEntry) (row : List AV) (rows2 : List (List AV)) (x : MapEntry) (es2 : List MapEntry), rows1.length = es1.length → (∀ y ∈ es1 ++ x :: es2, (rowM y).length = 3) → FVr (E.by true).clear 3 (rows1 ++ row :: rows2) (flatM (es1 ++ x :: es2)) → FVr (E.by true).clear 3 (rows1 ++ rows2) (flatM (es1 ++ es2)) := by
        intro rows1
        induction rows1 with
        | nil =>
          intro es1 row rows2 x es2 hl hh hf; have : es1 = [] := List.eq_nil_of_length_eq_zero hl.symm; subst this; exact (FVr_rowM hf (hh x (by simp))).2.2
        | cons q rows1 ih =>
          intro es1 row rows2 x es2 hl hh hf
          cases es1 with
          | nil => simp at hl
          | cons y es1 =>
            obtain ⟨g1, g2, g3⟩ := FVr_rowM (row := q) (rows := rows1 ++ row :: rows2) (e := y) (es := es1 ++ x :: es2) hf (hh y (by simp)); exact FVr_rowM_of g1 g2 (ih es1 row rows2 x es2 (by simpa using hl) (fun z hz => hh z (by simp at hz ⊢; exact .inr hz)) g3)
      rw [List.map_append]; refine key _ a1 (rowK kv vv l[i]) _ L[j] c1 ?_ (by rw [← hsplit]; exact hlenl) ?_
      · simp only [List.length_map, List.length_take]; omega
      · rw [← hsplit, ← List.map_cons, ← List.map_append, ← hlsp]; exact hrest
    have hbnd : (es.toList.map (·.born)).Nodup := hwf.st.2.1
    have hpn : (a1 ++ c1).Perm (es.toList.filter fun e => !(seen.push L[j].born).contains e.born) := by
      have h2 : ((es.toList.filter (fun e => !seen.contains e.born)).map (·.born)).Nodup := hbnd.sublist (List.Sublist.map _ List.filter_sublist); rw [hsplit, hLl] at hpL; have h3 := perm_split hpL h2; rw [List.filter_filter] at h3; refine h3.trans ?_
      apply List.Perm.of_eq
      apply List.filter_congr
      intro x _; rw [contains_push]
      cases h4 : seen.contains x.born <;> cases h5 : x.born == L[j].born <;> simp
    have hr1 : Rel C { E with w := w1 } X ⟨s, b, n, t, e⟩ a := by
      rcases hw1 with rfl | rfl
      · exact hr
      · exact hr.drew
    have hgi1 : w1.heap[bi]? = some (.mapIter (some mb) clk seen clk) := by rcases hw1 with rfl | rfl <;> exact hgi
    have hgm1 : w1.heap[mb]? = some (.map es clk) := by rcases hw1 with rfl | rfl <;> exact hgm'
    have hset := Go.MapKept.heap_set (o' := .mapIter (some mb) clk (seen.push L[j].born) clk) hgi1
    obtain ⟨hrel, hle⟩ := hr1.update (r := r) (o' := ⟨false, it, is, [[.rem 3 [rowK kv vv l[i]] ((l.take i ++ l.drop (i + 1)).map (rowK kv vv))]], true⟩) (b := bi) (w' := { w1 with heap := w1.heap.setIfInBounds bi (.mapIter (some mb) clk (seen.push L[j].born) clk) }) (xs' := [itv mb clk (seen.push L[j].born)])
      ho hbo rfl ⟨rfl, Nat.le_refl _⟩ rfl (by simp) (fun k hk => hset.2 k hk) rfl
      (by unfold ObjOK; exact .inr ⟨bi, _, hH, rfl, hset.1, .inr ⟨mb, clk, _, rfl, rfl⟩⟩)
      (by
        simp only [FVr, FVc, Env.by]; refine ⟨[_], [], rfl, hsz1, ⟨_, [], rfl, rfl, ?_, rfl⟩, rfl⟩; simp only [FV]
        have hle2 : (E.by true).clear.le (Env.clear (Env.clear { E with w := { w1 with heap := w1.heap.setIfInBounds bi (.mapIter (some mb) clk (seen.push L[j].born) clk) } })) := ⟨fun k hk => ⟨hk, by
          show (w1.heap.setIfInBounds bi _)[k]? = E.w.heap[k]?
          rw [hset.2 k (fun e => (hr.stay k hk).2 r _ ho (e ▸ hbo))]
          rcases hw1 with rfl | rfl <;> rfl⟩, fun r hr => hr.elim⟩
        refine .inr ⟨mb, es, clk, _, a1 ++ c1, [L[j]], rfl, hS, ?_, hwf, hpn, ?_, ?_, ?_⟩
        · show (w1.heap.setIfInBounds bi _)[mb]? = _
          rw [hset.2 mb hne]; exact hgm1
        · intro x hx; simp only [List.mem_singleton] at hx; subst hx; exact ⟨hmem _ (by simp), by simp⟩
        · exact FVr_one rfl (FVc.le _ hle2 _ hcc)
        · exact FVr.le _ _ hle2 _ hfr)
    have hkv : L[j].key = kv l[i].1 := rowM_key hcc
    have hvv : L[j].val = vv l[i].2 := by
      have := FV_val (z := some undef) hcc (u := .lit (vv l[i].2)) rfl
      simpa [FV] using this
    have hput := hrel.put (some dd) (v := .tup [.lit (.bool true), .lit (kv l[i].1), .lit (vv l[i].2)]) (y := .tuple #[.bool true, L[j].key, L[j].val]) hdlt (by simp [FV, FVs, hkv, hvv]); refine ⟨_, _, _, _, ?_, hput, h1 _ _ _ hlsp⟩
    have hsetr : (setObj bi (.mapIter (some mb) clk (seen.push L[j].born) clk)).run P w1 = .ok () { w1 with heap := w1.heap.setIfInBounds bi (.mapIter (some mb) clk (seen.push L[j].born) clk) } := by
      simp [setObj, Sem.run, hgi1]
    unfold execOp
    simp only [hxe, Instr.next, getObj, Sem.run_bind, Sem.run, hgi, hgm', Result.andThen, htest, Bool.false_eq_true, if_false, hL, e1, e2, Array.append_empty, hne0, Array.empty_append, Array.size_map, hrun, Array.getElem?_map, Array.getElem?_eq_getElem hj, Option.map_some, hsetr]; rfl
def nsh1 : Nat → AV → AV
  | k + 1, .lit (.slice none 0 0) => .sh k []
  | _, v => v
def nshL : List Nat → List AV → List AV
  | k :: m, v :: l => nsh1 k v :: nshL m l
  | _, l => l
def nshR : List (List Nat) → List (List AV) → List (List AV)
  | m :: M, r :: R => nshL m r :: nshR M R
  | _, R => R
theorem FV.nsh1 {E : Env} (k : Nat) (v : AV) (x : Value) (h : FV E v x) : FV E (AM.nsh1 k v) x := by
  unfold AM.nsh1
  split
  · simp only [FV] at h ⊢; exact ⟨none, 0, [], h, Nat.le_refl _, by simp [FVr], fun h => absurd rfl h⟩
  · exact h
theorem FVc.nshL {E : Env} : ∀ (m : List Nat) (l : List AV) (xs : List Value), FVc E l xs → FVc E (AM.nshL m l) xs
  | [], _, _, h => by simpa [AM.nshL] using h
  | k :: m, [], _, h => by simpa [AM.nshL] using h
  | k :: m, v :: l, xs, h => by
    simp only [AM.nshL, FVc] at h ⊢; obtain ⟨y, ys, rfl, h0, h1, h2⟩ := h; exact ⟨y, ys, rfl, h0, FV.nsh1 k v y h1, FVc.nshL m l ys h2⟩
theorem nshL_len : ∀ (m : List Nat) (l : List AV), (nshL m l).length = l.length
  | [], _ => by simp [nshL]
  | _ :: _, [] => by simp [nshL]
  | k :: m, v :: l => by simp [nshL, nshL_len m l]
theorem FVr.nshR {E : Env} {sz : Nat} : ∀ (M : List (List Nat)) (R : List (List AV)) (xs : List Value), FVr E sz R xs → FVr E sz (AM.nshR M R) xs
  | [], _, _, h => by simpa [AM.nshR] using h
  | _ :: _, [], _, h => by simpa [AM.nshR] using h
  | m :: M, r :: R, xs, h => by
    simp only [AM.nshR, FVr] at h ⊢; obtain ⟨ys, zs, rfl, h0, h1, h2⟩ := h; exact ⟨ys, zs, rfl, by rw [nshL_len]; exact h0, FVc.nshL m r ys h1, FVr.nshR M R zs h2⟩
end rules
end Go.AM
