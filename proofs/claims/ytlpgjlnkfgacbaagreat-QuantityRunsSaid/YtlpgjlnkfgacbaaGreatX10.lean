/-
  Part 10 of the proof: the abstract machine, proved sound over the model.
  Conditions: none.
-/
import Derived.Shelf.SlicesQ.Reverse
import Derived.Test.YtlpgjlnkfgacbaaGreatX9
set_option linter.unusedVariables false
set_option linter.unusedSimpArgs false
set_option linter.unusedSectionVars false
namespace Go.AM
section
open Go.Proofs Go.Lib Go.Sort
abbrev CV (k : Nat) : Type := {l : List Value // l.length = k ∧ ∀ v ∈ l, v.oneCell' = true}
instance (k : Nat) : Inhabited (CV k) := ⟨⟨List.replicate k (.bool false), by simp, fun v hv => by rw [List.eq_of_mem_replicate hv]; rfl⟩⟩
theorem flat_list {α : Type} [Inhabited α] (enc : α → List Value) (k : Nat) (hk : ∀ x, (enc x).length = k) (h0 : 0 < k) : ∀ (n : Nat) (cs : List α), cs.length = n → (flatK enc k cs.toArray).toList = (cs.map enc).flatten
  | 0, cs, h => by
    rw [List.eq_nil_of_length_eq_zero h]
    simp [flatK]
  | n + 1, cs, h => by
    have hne : cs ≠ [] := by intro e; subst e; simp at h
    obtain ⟨pre, c, rfl⟩ : ∃ pre c, cs = pre ++ [c] := ⟨_, _, (List.dropLast_concat_getLast hne).symm⟩
    have hl : pre.length = n := by simpa using h
    have ih := flat_list enc k hk h0 n pre hl; simp only [flatK, Array.toList_map, Array.toList_range, List.size_toArray] at ih ⊢; rw [List.length_append, List.length_singleton, Nat.add_mul, Nat.one_mul, List.range_add, List.map_append, List.map_append, List.flatten_append, ← ih]
    congr 1
    · apply List.map_congr_left
      intro t ht
      have ht' : t / k < pre.length := by
        rw [Nat.div_lt_iff_lt_mul h0]; exact List.mem_range.1 ht
      congr 2
      rw [getElem!_pos _ _ (by simp; omega), getElem!_pos _ _ (by simpa using ht')]
      simp [List.getElem_append_left ht']
    · simp only [List.map_cons, List.map_nil, List.flatten_cons, List.flatten_nil, List.append_nil, List.map_map]
      apply List.ext_getElem
      · simp [hk]
      · intro i h1 h2; simp only [List.length_map, List.length_range] at h1; simp only [List.getElem_map, List.getElem_range, Function.comp_apply]
        have e1 : (pre.length * k + i) / k = pre.length := by rw [Nat.mul_comm, Nat.mul_add_div h0, Nat.div_eq_of_lt h1, Nat.add_zero]
        have e2 : (pre.length * k + i) % k = i := by rw [Nat.mul_comm, Nat.mul_add_mod, Nat.mod_eq_of_lt h1]
        rw [e1, e2, getElem!_pos _ pre.length (by simp)]; simp only [List.getElem_toArray, List.getElem_concat_length]; rw [getElem!_pos _ i (by rw [hk]; exact h1)]
def ZR (E : Env) (sz : Nat) : List (List AV) → List (CV sz) → Prop
  | [], [] => True
  | r :: rs, c :: cs => (r.length = sz ∧ FVc E r c.1) ∧ ZR E sz rs cs
  | _, _ => False
theorem ZR.length {E : Env} {sz : Nat} : ∀ {rows : List (List AV)} {cs : List (CV sz)}, ZR E sz rows cs → cs.length = rows.length
  | [], [], _ => rfl
  | _ :: rs, _ :: cs, h => by simp [ZR.length h.2]
theorem take_put (F cur : Array Value) (h : F.size ≤ cur.size) : (putCells id 0 F cur).size = cur.size ∧ (putCells id 0 F cur).toList.take F.size = F.toList := by
  have hs : (putCells id 0 F cur).size = cur.size := by simp [putCells]
  refine ⟨hs, ?_⟩
  apply List.ext_getElem
  · simp [hs]; omega
  · intro i h1 h2
    have hi : i < F.size := by simpa using h2
    rw [List.getElem_take, Array.getElem_toList, Array.getElem_toList]; simp only [putCells, Array.getElem_mapIdx]; rw [if_pos ⟨Nat.zero_le _, by omega⟩, Nat.sub_zero, getElem!_pos F i hi]; rfl
theorem rel0 {E : Env} {X : Nat → List Value} {objs : List (Nat × Obj)} {k : Nat} (hE : Entry E X objs k) : Rel (ctxOf E objs k) E X ⟨[(0, .tup [])], objs, k, 1, k⟩ { tmps := #[.tuple #[]], defers := [] } := by
  refine ⟨?_, rfl, rfl, ?_, hE.apart, hE.stay, ?_, Keep.refl _ _, ?_, ?_, ?_, fun b hb => hb, fun b hb => .inl hb, rfl, hE.glob⟩
  · intro s v hv; rw [find_cons] at hv
    split at hv
    · rename_i e
      subst e; simp only [Option.some.injEq] at hv; subst hv
      simp [FV, FVs]
    · simp [find] at hv
  · intro r o hr; obtain ⟨h1, h2⟩ := hE.objs r o hr; exact ⟨(hE.dom r).2 h1, h2⟩
  · intro r hr; exact (hE.dom r).1 hr
  · intro r o b hr hb; exact .inl ⟨r, o, hr, hb⟩
  · intro r hr; exact ⟨rfl, rfl⟩
  · intro r hr; exact (hE.dom r).2 hr
end
section
open Go.MapKept
section plain
variable {K V : Type} [DecidableEq K]
def mget : List (K × V) → K → Option V
  | [], _ => none
  | p :: m, k => if k = p.1 then some p.2 else mget m k
def mput : List (K × V) → K → V → List (K × V)
  | [], k, v => [(k, v)]
  | p :: m, k, v => if k = p.1 then (k, v) :: m else p :: mput m k v
def mpos : List (K × V) → K → Nat
  | [], _ => 0
  | p :: m, k => if k = p.1 then 0 else mpos m k + 1
theorem mget_mput (m : List (K × V)) (k : K) (v : V) (k' : K) : mget (mput m k v) k' = if k' = k then some v else mget m k' := by
  induction m with
  | nil => simp [mput, mget]
  | cons p m ih =>
    simp only [mput]
    by_cases h : k = p.1
    · simp only [h, if_true, mget]
      by_cases h2 : k' = p.1 <;> simp [h2]
    · simp only [h, if_false, mget, ih]
      by_cases h2 : k' = p.1
      · have : ¬ k' = k := fun e => h (e ▸ h2); simp only [h2, if_true]; rw [if_neg]; intro e; exact h e.symm
      · simp [h2]
theorem mpos_get {m : List (K × V)} {k : K} {v : V} (h : mget m k = some v) : m[mpos m k]? = some (k, v) := by
  induction m with
  | nil => simp [mget] at h
  | cons p m ih =>
    simp only [mget] at h; simp only [mpos]
    by_cases h2 : k = p.1
    · simp only [h2, if_true, Option.some.injEq] at h ⊢; subst h
      simp
    · simp only [h2, if_false] at h ⊢
      simpa using ih h
theorem mput_some {m : List (K × V)} {k : K} {v : V} (u : V) (h : mget m k = some v) : mput m k u = m.set (mpos m k) (k, u) := by
  induction m with
  | nil => simp [mget] at h
  | cons p m ih =>
    simp only [mget] at h; simp only [mpos, mput]
    by_cases h2 : k = p.1
    · simp [h2]
    · simp only [h2, if_false] at h ⊢
      simp [ih h]
theorem mput_none {m : List (K × V)} {k : K} (u : V) (h : mget m k = none) : mput m k u = m ++ [(k, u)] := by
  induction m with
  | nil => rfl
  | cons p m ih =>
    simp only [mget] at h; simp only [mput]
    by_cases h2 : k = p.1
    · simp [h2] at h
    · simp only [h2, if_false] at h ⊢; rw [ih h]; rfl
end plain
structure KL {K : Type} [DecidableEq K] (d : TypeDesc) (kv : K → Value) : Prop where
  same : ∀ a b, Instr.sameNow d (kv a) (kv b) = some (decide (a = b))
  key : ∀ a, keyB d (kv a) = true
theorem klI : KL (.int .i64) (Value.int .i64) := ⟨fun a b => by simp [Instr.sameNow]; by_cases h : a = b <;> simp [h], fun a => by simp [keyB]⟩
def rowK {K V : Type} (kv : K → Value) (vv : V → Value) (p : K × V) : List AV := [.lit (kv p.1), .top, .lit (vv p.2)]
section find
variable {K V : Type} [DecidableEq K] {d : TypeDesc} {kv : K → Value} {vv : V → Value}
theorem findAV_K (h : KL d kv) (k : K) : ∀ (m : List (K × V)) (i : Nat), findAV d (kv k) (m.map (rowK kv vv)) i = some ((mget m k).map fun v => (i + mpos m k, [.top, .lit (vv v)]))
  | [], i => rfl
  | p :: m, i => by
    simp only [List.map_cons, rowK, findAV, h.same, mget, mpos]
    by_cases h2 : k = p.1
    · simp [h2]
    · simp only [h2, decide_false, if_false]; rw [findAV_K h k m (i + 1)]
      congr 1
      cases mget m k with
      | none => rfl
      | some v => simp; omega
end find
section rules
variable {P : Program} {ops : Array Oper} {rest : List Oper} {s : List (Nat × AV)} {b : List (Nat × Obj)} {n t e id : Nat} {Q : St → Prop} {dd ty : Nat} {pos : String} {aft : Array Edge} {g : Option (Nat × Bool)} {x y z : Operand}
variable {K V : Type} [DecidableEq K] {d : TypeDesc} {kv : K → Value} {vv : V → Value} {m : List (K × V)} {k : K} {mt r el : Nat} {z0 : V} {cl : Bool}
theorem q.mm {p : TypeDesc × Option Value} (ht : mapTy P mt = some p) : stepQ P ⟨s, b, n, t, e⟩ id (.makeMap mt none) = some (.hd id, [(id, ⟨true, mt, msz p.2, [], true⟩)]) := by
  simp only [stepQ, ht, Option.map_some]
theorem look_own (h : KL d kv) (ht : mapTy P mt = some (d, some (vv z0))) (ok : Bool) (hx : opv s x = some (.hd r) := by exact rfl) (ho : find b r = some ⟨true, el, 3, m.map (rowK kv vv), cl⟩ := by exact rfl) (hy : opv s y = some (.lit (kv k)) := by exact rfl) :
    stepQ P ⟨s, b, n, t, e⟩ id (.lookup mt x y ok) = some (bif ok then .tup [.lit (vv ((mget m k).getD z0)), .lit (.bool (mget m k).isSome)] else .lit (vv ((mget m k).getD z0)), []) := by
  simp only [stepQ, ht, Option.bind_some, opv_ev hx, mapRows, ho, cond_true, opv_ev hy, toVal, msz, Nat.beq_refl, h.key, Bool.and_self, findAV_K h]
  cases mget m k with
  | none => cases ok <;> rfl
  | some v => cases ok <;> rfl
theorem q.lk (h : KL d kv) (ht : mapTy P mt = some (d, some (vv z0))) (hx : opv s x = some (.hd r) := by exact rfl) (ho : find b r = some ⟨true, el, 3, m.map (rowK kv vv), cl⟩ := by exact rfl) (hy : opv s y = some (.lit (kv k)) := by exact rfl) :
    stepQ P ⟨s, b, n, t, e⟩ id (.lookup mt x y false) = some (.lit (vv ((mget m k).getD z0)), []) := look_own h ht false hx ho hy
theorem SeqL.of_run {o : Oper} {σ : St} (hg : guardGo (dstsOf ops) σ o.guard = some true)
    (h : ∀ C E X a, Rel C E X σ a → ∃ y E' X' σ', (execOp a.eval o).run P E.w = .ok (.value y) E'.w ∧ Rel C E' X' σ' (a.put o.dst y) ∧ SeqL P ops rest σ' Q) : SeqL P ops (o :: rest) σ Q := by
  intro C E X a hr Q' hq; simp only [wpL_cons, hr.guard hg, if_true]; obtain ⟨y, E', X', σ', h1, h2, h3⟩ := h C E X a hr; exact wp_value h1 (h3 C E' X' _ h2 Q' hq)
theorem SeqL.of_skip {o : Oper} {σ : St} (hg : guardGo (dstsOf ops) σ o.guard = some true)
    (h : ∀ C E X a, Rel C E X σ a → ∃ E' X' σ', (execOp a.eval o).run P E.w = .ok .skip E'.w ∧ Rel C E' X' σ' (a.put o.dst undef) ∧ SeqL P ops rest σ' Q) : SeqL P ops (o :: rest) σ Q := by
  intro C E X a hr Q' hq; simp only [wpL_cons, hr.guard hg, if_true]; obtain ⟨E', X', σ', h1, h2, h3⟩ := h C E X a hr
  unfold Oper.wp
  rw [h1]; simp only [Oper.upon]; exact h3 C E' X' _ h2 Q' hq
theorem FVr_setM {E : Env} {sz : Nat} {new : List AV} {e1 : MapEntry} (hn : new.length = sz) (hnew : FVc E new (rowM e1)) : ∀ {rows : List (List AV)} {es : List MapEntry} {i : Nat}, (∀ x ∈ es, (rowM x).length = sz) → FVr E sz rows (flatM es) → i < rows.length → i < es.length → FVr E sz (rows.set i new) (flatM (es.set i e1))
  | [], _, i, _, _, hi, _ => by simp at hi
  | _ :: _, [], i, _, _, _, hi => by simp at hi
  | row :: rows, x :: es, i, hl, hf, hi, hi' => by
    obtain ⟨h1, h2, h3⟩ := FVr_rowM hf (hl x (by simp))
    cases i with
    | zero => exact FVr_rowM_of hn hnew h3
    | succ i => exact FVr_rowM_of h1 h2 (FVr_setM hn hnew (fun y hy => hl y (by simp [hy])) h3 (by simpa using hi) (by simpa using hi'))
theorem flatM_app (l m : List MapEntry) : flatM (l ++ m) = flatM l ++ flatM m := by simp [flatM]
theorem FVr_one {E : Env} {sz : Nat} {new : List AV} {e1 : MapEntry} (hn : new.length = sz) (hnew : FVc E new (rowM e1)) : FVr E sz [new] (flatM [e1]) := FVr_rowM_of hn hnew (by simp [FVr, flatM])
theorem key_one {d : TypeDesc} {v : Value} (h : IsKey d v) : v.oneCell' = true := by
  cases d <;> cases v <;> simp_all [IsKey] <;> rfl
theorem modify_set {es : Array MapEntry} {i : Nat} {x : MapEntry} (f : MapEntry → MapEntry) (h : es.toList[i]? = some x) : (es.modify i f).toList = es.toList.set i (f x) := by
  apply List.ext_getElem?
  intro j; simp only [Array.getElem?_toList, Array.getElem?_modify, List.getElem?_set]; rw [Array.getElem?_toList] at h
  by_cases hj : i = j
  · subst hj; obtain ⟨hlt, hge⟩ := Array.getElem?_eq_some_iff.1 h
    simp [hlt, hge]
  · simp [hj]
theorem Rel.putMap {C : Ctx} {E : Env} {X : Nat → List Value} {σ : St} {a : Act} (hr : Rel C E X σ a) {r : Nat} {o : Obj} (hob : find σ.objs r = some o) (hs : o.slc = true) (hcl : o.cl = true) {bb : Nat} (hH : E.H r = .map (some bb)) {es : Array MapEntry} {clk : Nat} (hg : E.w.heap[bb]? = some (.map es clk))
    (es' : Array MapEntry) (clk' : Nat) (hwf : MapWf o.sz es' clk') (rows' : List (List AV)) (hf : FVr E.clear o.sz rows' (flatM es'.toList)) :
    ∃ E' X', E'.w = { E.w with heap := E.w.heap.setIfInBounds bb (.map es' clk') } ∧ Rel C E' X' { σ with objs := (r, ⟨true, o.elem, o.sz, rows', true⟩) :: del σ.objs r } a := by
  have hset := Go.MapKept.heap_set (o' := .map es' clk') hg
  have hbo : blockOf (E.H r) = some bb := by rw [hH]; rfl
  have hle : E.clear.le (Env.clear { E with w := { E.w with heap := E.w.heap.setIfInBounds bb (.map es' clk') } }) := ⟨fun k hk => ⟨hk, hset.2 k (fun e => (hr.stay k hk).2 r o hob (e ▸ hbo))⟩, fun r hr => hr.elim⟩
  obtain ⟨h1, _⟩ := hr.update (o' := ⟨true, o.elem, o.sz, rows', true⟩) (w' := { E.w with heap := E.w.heap.setIfInBounds bb (.map es' clk') }) (xs' := flatM es'.toList) hob hbo rfl ⟨rfl, Nat.le_refl _⟩ rfl (by simp) (fun k hk => hset.2 k hk) rfl
    (by unfold ObjOK; exact .inr (.inr ⟨bb, es', clk', hH, hset.1, hwf, rfl⟩)) (FVr.le _ _ hle _ hf)
  exact ⟨_, _, rfl, h1⟩
theorem rel_ev_lit {C : Ctx} {E : Env} {X : Nat → List Value} {a : Act} (hr : Rel C E X ⟨s, b, n, t, e⟩ a) {v : Value} (hx : opv s x = some (.lit v)) : a.eval x = v := by
  have h := hr.ev x; rw [opv_ev hx] at h
  simpa [FV] using h
theorem S.mu {v : V} (b' : List (Nat × Obj)) (h : KL d kv) (ht : mapTy P mt = some (d, some (vv z0))) (hv : ∀ u, (vv u).oneCell' = true) (hx : opv s x = some (.hd r) := by exact rfl) (ho : find b r = some ⟨true, el, 3, m.map (rowK kv vv), true⟩ := by exact rfl) (hy : opv s y = some (.lit (kv k)) := by exact rfl) (hz : opv s z = some (.lit (vv v)) := by exact rfl)
    (hdel : del b r = b' := by exact rfl) (hg : guardGo (dstsOf ops) ⟨s, b, n, t, e⟩ g = some true := by exact rfl) (hn : SeqL P ops rest ⟨s, (r, ⟨true, el, 3, (mput m k v).map (rowK kv vv), true⟩) :: b', n, t, e⟩ Q) :
    SeqL P ops (⟨none, .mapUpdate mt x y z, ty, pos, aft, g⟩ :: rest) ⟨s, b, n, t, e⟩ Q := by
  subst hdel; refine SeqL.of_skip hg fun C E X a hr => ?_; obtain ⟨kt, et, z1, ht1, ht2, hzz, hz1⟩ := mapTy_spec ht; obtain ⟨_, hZ, hok, hrr⟩ := hr.objs r _ ho; have hxv := hr.ev x; rw [opv_ev hx] at hxv; obtain ⟨bb, es, clk, hH, hgg, hwf, hfl, hxe⟩ := hok.asMap rfl hxv; rw [← hfl] at hrr; have hye := rel_ev_lit hr hy; have hze := rel_ev_lit hr hz; have hik := keyB_is (h.key k)
  have hun : isUnit (vv v) = false := by
    have := hv v
    cases hvv : vv v <;> simp [hvv, isUnit] at this ⊢
    simp [Value.oneCell'] at this
  have hvc : valCells (vv v) = [vv v] := by simp [valCells, hun]
  have hnew : ∀ st : Nat, FVc E.clear (rowK kv vv (k, v)) (rowM ⟨kv k, vv v, st⟩) := by
    intro st; simp only [rowM, hvc, rowK, FVc]; exact ⟨_, _, rfl, key_one hik, by simp [FV], _, _, rfl, rfl, by simp [FV], _, _, rfl, hv v, by simp [FV], rfl⟩
  have hlen : ∀ st : Nat, (rowM ⟨kv k, vv v, st⟩).length = 3 := fun st => by simp [rowM, hvc]
  rcases findAV_spec (show (0 : Nat) < 3 by decide) hwf.len hrr (findAV_K (vv := vv) h k m 0) with ⟨h1, h2, h3⟩ | ⟨j, v1, vs, e1, h1, h2, h3, h4, h5, h6, h7⟩
  · have hm0 : mget m k = none := by simpa using h1
    have hne : ∀ x ∈ es.toList, x.key ≠ kv k := fun x hx e => by
      have := h3 x hx; rw [e, h.same] at this
      simp at this
    obtain ⟨E', X', hw, hr'⟩ := hr.putMap ho rfl rfl hH hgg (es.push { key := kv k, val := vv v, born := clk }) (clk + 1) ⟨stamped_push hwf.st hne, fun x hx => by
      simp only [Array.toList_push, List.mem_append, List.mem_singleton] at hx
      rcases hx with hx | rfl
      · exact hwf.len x hx
      · exact hlen clk⟩ ((mput m k v).map (rowK kv vv)) (by
        rw [mput_none v hm0, List.map_append, Array.toList_push, flatM_app]
        exact hrr.append (FVr_one rfl (hnew clk)))
    refine ⟨E', X', _, ?_, hr', hn⟩
    unfold execOp
    simp [hxe, hye, hze, Instr.mapUpdate, run_underlying ht1, Go.MapKept.run_getObj_map hgg, Go.MapKept.run_checkKey ht2 hik, Go.MapKept.run_findKey ht2 h2, Go.MapKept.run_setObj_map _ hgg, Result.andThen, hw]
  · have hj : es.toList[j]? = some e1 := h3
    have hj' : es[j]? = some e1 := by simpa using h3
    have hke : e1.key = kv k := by
      rw [h4] at h7 ⊢
      have hmk : ∃ p ∈ m, kv p.1 = v1 := by
        rw [List.getElem?_map, Option.map_eq_some_iff] at h2; obtain ⟨p, hp, hp2⟩ := h2; simp only [rowK, List.cons.injEq, AV.lit.injEq] at hp2; exact ⟨p, List.mem_of_getElem? hp, hp2.1⟩
      obtain ⟨p, _, rfl⟩ := hmk; rw [h.same] at h7; simp only [Option.some.injEq, decide_eq_true_eq] at h7; rw [h7]
    obtain ⟨u, hu⟩ : ∃ u, mget m k = some u := by
      cases hm : mget m k with
      | none => rw [hm] at h1; simp at h1
      | some u => exact ⟨u, rfl⟩
    have hjp : j = mpos m k := by
      rw [hu] at h1; simp only [Option.map_some, Option.some.injEq, Prod.mk.injEq] at h1; omega
    obtain ⟨E', X', hw, hr'⟩ := hr.putMap ho rfl rfl hH hgg (es.modify j fun x => { x with key := kv k, val := vv v }) clk ⟨stamped_modify hwf.st _ _ (fun _ _ => rfl) (fun x _ hx => by rw [hj'] at hx; cases hx; exact hke.symm), fun x hx => by
      rw [modify_set _ hj] at hx
      rcases List.mem_or_eq_of_mem_set hx with hx | rfl
      · exact hwf.len x hx
      · exact hlen _⟩ ((mput m k v).map (rowK kv vv)) (by
        rw [mput_some v hu, List.map_set, modify_set _ hj, ← hjp]; refine FVr_setM rfl (hnew _) hwf.len hrr ?_ (List.getElem?_eq_some_iff.1 hj).1; rw [List.length_map]; have := (List.getElem?_eq_some_iff.1 (mpos_get hu)).1
        omega)
    refine ⟨E', X', _, ?_, hr', hn⟩
    have h6' : Instr.findNow d (kv k) es.toList 0 = some (some (j, e1.val)) := by simpa using h6
    unfold execOp
    simp [hxe, hye, hze, Instr.mapUpdate, run_underlying ht1, Go.MapKept.run_getObj_map hgg, Go.MapKept.run_checkKey ht2 hik, Go.MapKept.run_findKey ht2 h6', hj', hke, run_keyThatStays hik, Go.MapKept.run_setObj_map _ hgg, Result.andThen, hw]
end rules
end
def PureS (P : Program) (σ : St) (o : Oper) (v : AV) : Prop :=
  ∀ C E X a, Rel C E X σ a → ∃ y, FV E v y ∧ ∀ w : World, (∀ b, E.S b → w.heap[b]? = E.w.heap[b]?) → (execOp a.eval o).run P w = .ok (.value y) w
inductive HP (P : Program) (l : List Oper) : Nat → Array Bool → St → (St → Prop) → Prop
  | done {n : Nat} {L : Array Bool} {σ : St} {Q : St → Prop} (h : HT P l 1000000 (fun _ => True) n L σ Q) : HP P l n L σ Q
  | take {n i d : Nat} {L L' : Array Bool} {σ : St} {Q : St → Prop} {o : Oper} {v : AV} (ho : l[i]? = some o) (hd : o.dst = some d) (hdn : d < σ.nt) (hdt : d ≠ 1000000) (hg : guardGo (dstsOf ⟨l⟩) σ o.guard = some true) (hc : (Region.noSelect ⟨l⟩ && Region.free .any ⟨l⟩ L i && (Region.ready .any ⟨l⟩ L).contains i) = true) (hL : L.setIfInBounds i true = L') (hp : PureS P σ o v) (h : HP P l n L' (σ.put (some d) v) Q) : HP P l (n + 1) L σ Q
theorem pre_seq {P : Program} {l : List Oper} {C : Ctx} {E : Env} {X : Nat → List Value} {Qn : St → Prop} (hS : ∀ E' X' σ' a', Rel C E' X' σ' a' → ∀ b, E.S b → E'.w.heap[b]? = E.w.heap[b]?) {n : Nat} {L : Array Bool} {σ : St} (h : HP P l n L σ Qn) :
    ∀ (a : Act), Rel C E X σ a → wpAnyH P .any ⟨l⟩ (nrmE fun a' w' => ∃ E' X' σ', E'.w = w' ∧ Rel C E' X' σ' a' ∧ Qn σ') (fun w => ∀ b, E.S b → w.heap[b]? = E.w.heap[b]?) n L a E.w := by
  induction h with
  | done h =>
    intro a hr; exact held_seq (hb := fun _ => True) (v0 := a.tmps[1000000]?) (fun E' X' σ' a' h1 _ _ => hS E' X' σ' a' h1) _ _ E X _ a hr h rfl
  | take ho hd hdn hdt hg hc hL hp h ih =>
    intro a hr; subst hL; simp only [Bool.and_eq_true] at hc; obtain ⟨y, hy, hrun⟩ := hp C E X a hr; exact take_one hr ho hd hdn hg hc.1.1 hc.1.2 hc.2 (fun b _ => rfl) hrun hy fun hr1 => ih _ hr1
def Ctx.at (C : Ctx) (E : Env) (σ : St) : Ctx := { C with w0 := E.w, own := fun b => ∃ r o, find σ.objs r = some o ∧ blockOf (E.H r) = some b, S0 := E.S }
theorem Rel.rebase {C : Ctx} {E : Env} {X : Nat → List Value} {σ : St} {a : Act} (h : Rel C E X σ a) : Rel (C.at E σ) E X σ a :=
  ⟨h.slots, h.size, h.defers, h.objs, h.apart, h.stay, h.fresh, Keep.refl _ _, fun r o b h1 h2 => .inl ⟨r, o, h1, h2⟩, h.env, h.envD, fun b hb => hb, fun b hb => .inl hb, h.envk, h.glob⟩
theorem Rel.unbase {C : Ctx} {E E' : Env} {X X' : Nat → List Value} {σ σ' : St} {a a' : Act} (h : Rel C E X σ a) (h' : Rel (C.at E σ) E' X' σ' a') : Rel C E' X' σ' a' := by
  have hown : ∀ b, (C.at E σ).own b → C.own b ∨ C.w0.heap.size ≤ b := fun b ⟨r, o, h1, h2⟩ => h.mine r o b h1 h2; have hsz := h.kept.size; refine ⟨h'.slots, h'.size, h'.defers, h'.objs, h'.apart, h'.stay, h'.fresh, ⟨h'.kept.os.trans h.kept.os, h.kept.tape.trans h'.kept.tape, h'.kept.output.trans h.kept.output, Nat.le_trans hsz h'.kept.size, fun b hb hn => ?_⟩, fun r o b h1 h2 => ?_, h'.env, h'.envD, fun b hb => h'.base b (h.base b hb), fun b hb => ?_, h'.envk, h'.glob⟩
  · refine (h'.kept.block b (Nat.lt_of_lt_of_le hb hsz) fun ho => ?_).trans (h.kept.block b hb hn)
    rcases hown b ho with h1 | h1
    · exact hn h1
    · omega
  · rcases h'.mine r o b h1 h2 with h3 | h3
    · exact hown b h3
    · exact .inr (Nat.le_trans hsz h3)
  · rcases h'.grow b hb with h3 | h3 | h3
    · exact h.grow b h3
    · exact .inr (.inl (Nat.le_trans hsz h3))
    · rcases hown b h3 with h4 | h4
      · exact .inr (.inr h4)
      · exact .inr (.inl h4)
theorem Rel.at_keeps {C : Ctx} {E E' : Env} {X X' : Nat → List Value} {σ σ' : St} {a a' : Act} (h : Rel C E X σ a) (h' : Rel (C.at E σ) E' X' σ' a') : ∀ b, E.S b → E'.w.heap[b]? = E.w.heap[b]? := fun b hb =>
  h'.kept.block b (h.stay b hb).1 fun ⟨r, o, h1, h2⟩ => (h.stay b hb).2 r o h1 h2
section
variable {P : Program} {s : List (Nat × AV)} {b : List (Nat × Obj)} {n t e : Nat} {Q : Exit → St → Prop}
theorem Ev.rtp {l : List Oper} {id m : Nat} {L0 : Array Bool} (hlen : l.length = m) (h4 : Array.replicate l.length false = L0) (hm : P.follows .mixedOrders = true)
    (h : ∀ Kt : St → Prop, (∀ σ', Q .normal σ' → Kt σ') → HP P l m L0 ⟨s, b, n, t, e⟩ Kt) : Ev P (.region id ⟨l⟩ true) ⟨s, b, n, t, e⟩ Q := by
  subst h4 hlen; intro C E X a hr; have hrd := hr.drew
  refine wp_mono (wp_region_held (Q := nrmE fun a' w' => ∃ E' X' σ', E'.w = w' ∧ Rel (C.at { E with w := E.w.drew } ⟨s, b, n, t, e⟩) E' X' σ' a' ∧ Q .normal σ') (S := fun w => ∀ b, E.S b → w.heap[b]? = E.w.drew.heap[b]?) hm ?_) (fun e' a' w' hq => by
    obtain ⟨rfl, E', X', σ', h1, h2, h3⟩ := hq
    exact ⟨E', X', σ', h1, hrd.unbase h2, h3⟩)
  exact pre_seq (E := { E with w := E.w.drew }) (fun E' X' σ' a' h1 => hrd.at_keeps h1) (h _ fun _ h => h) a hrd.rebase
theorem Ev.stp {l : List Oper} {id m : Nat} {L0 : Array Bool} {y : Code} (hlen : l.length = m) (h4 : Array.replicate l.length false = L0) (hm : P.follows .mixedOrders = true)
    (h : ∀ Kt : St → Prop, (∀ σ', Ev P y σ' Q → Kt σ') → HP P l m L0 ⟨s, b, n, t, e⟩ Kt) : Ev P (.seq (.region id ⟨l⟩ true) y) ⟨s, b, n, t, e⟩ Q :=
  Ev.seq (Ev.rtp hlen h4 hm fun Kt hK => h Kt fun σ' h' => hK σ' h')
theorem pureW_s {P : Program} {σ : St} {o : Oper} {v : AV} (h : PureW P σ o v) : PureS P σ o v := fun C E X a hr => by
  obtain ⟨y, h1, h2⟩ := h C E X a hr; exact ⟨y, h1, fun w _ => h2 w⟩
theorem pure_ix {st el c : TypeId} {x y : Operand} {k : IntKind} {i : Int} {rows : List (List AV)} {row : List AV} {d : Option Nat} {ty : Nat} {pos : String} {aft : Array Edge} {g : Option (Nat × Bool)} (hel : elemOfSlice P st = some el) (hcl : P.cellsOf el = c) (hc : c ≠ 0) (hx : opv s x = some (.sh c rows)) (hy : opv s y = some (.lit (.int k i))) (h0 : 0 ≤ i) (hr' : rows[i.toNat]? = some row) : PureS P ⟨s, b, n, t, e⟩ ⟨d, .indexAddr st x y, ty, pos, aft, g⟩ (.sadr row 0) := by
  intro C E X a hr; have hix := hr.ev y; rw [opv_ev hy] at hix; simp only [FV] at hix; have hu := elemOfSlice_eq hel; subst hcl
  cases hi : P.info? el with
  | none => simp [Program.cellsOf, hi] at hc
  | some i' =>
  have hv := hr.ev x; rw [opv_ev hx] at hv; have hcs : P.cellsOf el = i'.size := cellsOf_info hi; simp only [FV] at hv; obtain ⟨A, c', xs, hxe, hcap, hrr, hA⟩ := hv; have hlt : i.toNat < rows.length := (List.getElem?_eq_some_iff.1 hr').1; obtain ⟨a0, rfl, hs, hS, hh⟩ := hA (by intro e; rw [e] at hlt; simp at hlt); have hg := hrr.get hr'; refine ⟨.pointer (some (a0.add (i.toNat * i'.size))), ?_, fun w _ => ?_⟩
  · simp only [FV]; refine ⟨a0.add (i.toNat * i'.size), (xs.drop (i.toNat * P.cellsOf el)).take (P.cellsOf el), ?_, add_spot _ hs _, by rw [add_block]; exact hS, hg.2, ?_⟩
    · rw [Addr.add_zero']
    · rw [hcs]; exact (hh.drop hs _).take _
  · unfold execOp
    have hlt' : 0 ≤ i ∧ i < (rows.length : Int) := by omega
    simp only [Instr.indexAt, hix, asIntOf, hxe, Sem.run_bind, Sem.run_pure, Result.andThen_ok, run_underlying hu, hlt', and_self, if_true, run_sizeOf' hi]
theorem pure_ls {lt : TypeId} {x : Operand} {row : List AV} {j : Nat} {u : AV} {d : Option Nat} {ty : Nat} {pos : String} {aft : Array Edge} {g : Option (Nat × Bool)} (hx : opv s x = some (.sadr row j)) (hl : AM.loadAV P ⟨s, b, n, t, e⟩ lt (.sadr row j) = some u) : PureS P ⟨s, b, n, t, e⟩ ⟨d, .load lt x, ty, pos, aft, g⟩ u := by
  intro C E X a hr; have hv := hr.ev x; rw [opv_ev hx] at hv; simp only [FV] at hv; obtain ⟨ad, xs, hxe, hs, hSb, hc, hh⟩ := hv; have hcs : FVc E (row.drop j) (xs.drop j) := FVc.le _ E.clear_le _ (hc.drop j)
  have hh2 : ∀ w : World, (∀ b, E.S b → w.heap[b]? = E.w.heap[b]?) → holds w (ad.add j) (xs.drop j) := fun w hw => by
    have hw2 : holds w ad xs := fun k u hk => by
      have h1 := hh k u hk
      have h2 : w.heap[(ad.add k).block]? = E.w.heap[(ad.add k).block]? := by rw [add_block]; exact hw _ hSb
      unfold World.cell? at h1 ⊢
      rw [h2]; exact h1
    exact hw2.drop hs j
  unfold AM.loadAV at hl
  split at hl
  · rename_i cs ht hcf
    simp only [cellsFrom, Option.some.injEq] at hcf; subst hcf
    cases hble : Nat.ble (P.cellsOf lt) (row.drop j).length with
    | false => rw [hble] at hl; cases hl
    | true =>
      rw [hble] at hl; simp only [cond_true, Option.some.injEq] at hl; subst hl; have hle := ble_le hble; have ht' := ht
      unfold isAggT at ht
      cases hu : P.underlying lt with
      | none => simp [hu] at ht
      | some dd =>
        obtain ⟨i, hi⟩ := info_of_underlying hu; have hsz := cellsOf_info hi
        have hlen : ((xs.drop j).take i.size).length = i.size := by rw [List.length_take, hcs.length, ← hsz]; omega
        refine ⟨.agg ((xs.drop j).take i.size).toArray, ?_, fun w hw => ?_⟩
        · simp only [FV]; exact ⟨_, rfl, by rw [hsz]; exact hcs.take _⟩
        · have hrun := run_loadCells_list (P := P) (w := w) (ad.add j) ((xs.drop j).take i.size) ((hh2 w hw).take _); rw [hlen] at hrun
          unfold execOp
          simp [hxe, Instr.loadAt, Instr.sureAddr, loadVar, run_isAgg (P := P) (t := lt) (b := true) ht', run_sizeOf' hi, hrun]
  · rename_i c cs ht hcf
    simp only [Option.some.injEq] at hl; subst hl; simp only [cellsFrom, Option.some.injEq] at hcf; rw [hcf] at hcs; obtain ⟨y, hy, _, hv⟩ := hcs.get (j := 0) (c := c) rfl; refine ⟨y, hv, fun w hw => ?_⟩; have hcell := hh2 w hw 0 y hy; rw [Addr.add_zero'] at hcell
    unfold execOp
    simp [hxe, Instr.loadAt, Instr.sureAddr, loadVar, run_isAgg ht, hcell]
  · cases hl
theorem HP.mv {l : List Oper} {i m d ty : Nat} {L : Array Bool} {Q : St → Prop} {x : Operand} {v : AV} {pos : String} {aft : Array Edge} (ho : l[i]? = some ⟨some d, .move x, ty, pos, aft, none⟩) (hx : opv s x = some v := by exact rfl) (hdn : Nat.blt d t = true := by exact rfl) (hc : (Region.noSelect ⟨l⟩ && Region.free .any ⟨l⟩ L i && (Region.ready .any ⟨l⟩ L).contains i) = true := by kernel_rfl) (hd : d ≠ 1000000 := by decide)
    (h : HP P l m (L.setIfInBounds i true) ⟨(d, v) :: s, b, n, t, e⟩ Q) : HP P l (m + 1) L ⟨s, b, n, t, e⟩ Q := .take ho rfl (Nat.le_of_ble_eq_true hdn) hd rfl hc rfl (pureW_s (pureW_mv hx)) h
theorem HP.fa {l : List Oper} {i m d ty : Nat} {L : Array Bool} {Q : St → Prop} {st : TypeId} {x : Operand} {f off ft : Nat} {v u : AV} {pos : String} {aft : Array Edge} (hf : fieldOf P st f = some (off, ft)) (hz : P.cellsOf ft ≠ 0) (ho : l[i]? = some ⟨some d, .fieldAddr st x f, ty, pos, aft, none⟩) (hx : opv s x = some v := by exact rfl) (hu : shift off v = some u := by exact rfl) (hdn : Nat.blt d t = true := by exact rfl) (hc : (Region.noSelect ⟨l⟩ && Region.free .any ⟨l⟩ L i && (Region.ready .any ⟨l⟩ L).contains i) = true := by kernel_rfl) (hd : d ≠ 1000000 := by decide)
    (h : HP P l m (L.setIfInBounds i true) ⟨(d, u) :: s, b, n, t, e⟩ Q) : HP P l (m + 1) L ⟨s, b, n, t, e⟩ Q := .take ho rfl (Nat.le_of_ble_eq_true hdn) hd rfl hc rfl (pureW_s (pureW_fa hf hz hx hu)) h
theorem HP.ix {T : Type} {f : T → List AV} {l : List Oper} {i m d ty st el c : Nat} {L : Array Bool} {Q : St → Prop} {x y : Operand} {k : IntKind} {ii : Int} {lst : List T} {qq : T} {pos : String} {aft : Array Edge} (hel : elemOfSlice P st = some el) (hcl : P.cellsOf el = c) (hc0 : c ≠ 0) (ho : l[i]? = some ⟨some d, .indexAddr st x y, ty, pos, aft, none⟩) (hx : opv s x = some (.sh c (lst.map f)) := by exact rfl) (hy : opv s y = some (.lit (.int k ii)) := by exact rfl) (hl : 0 ≤ ii ∧ lst[ii.toNat]? = some qq := by assumption) (hdn : Nat.blt d t = true := by exact rfl) (hc : (Region.noSelect ⟨l⟩ && Region.free .any ⟨l⟩ L i && (Region.ready .any ⟨l⟩ L).contains i) = true := by kernel_rfl) (hd : d ≠ 1000000 := by decide)
    (h : HP P l m (L.setIfInBounds i true) ⟨(d, .sadr (f qq) 0) :: s, b, n, t, e⟩ Q) : HP P l (m + 1) L ⟨s, b, n, t, e⟩ Q := .take ho rfl (Nat.le_of_ble_eq_true hdn) hd rfl hc rfl (pure_ix hel hcl hc0 hx hy hl.1 (by simp only [List.getElem?_map, hl.2, Option.map_some])) h
theorem HP.ls1 {l : List Oper} {i m d ty : Nat} {L : Array Bool} {Q : St → Prop} {lt : TypeId} {x : Operand} {row : List AV} {j : Nat} {c : AV} {cs : List AV} {pos : String} {aft : Array Edge} (ha : isAggT P lt = some false) (ho : l[i]? = some ⟨some d, .load lt x, ty, pos, aft, none⟩) (hx : opv s x = some (.sadr row j) := by exact rfl) (hr : row.drop j = c :: cs := by exact rfl) (hdn : Nat.blt d t = true := by exact rfl) (hc : (Region.noSelect ⟨l⟩ && Region.free .any ⟨l⟩ L i && (Region.ready .any ⟨l⟩ L).contains i) = true := by kernel_rfl) (hd : d ≠ 1000000 := by decide)
    (h : HP P l m (L.setIfInBounds i true) ⟨(d, c) :: s, b, n, t, e⟩ Q) : HP P l (m + 1) L ⟨s, b, n, t, e⟩ Q := .take ho rfl (Nat.le_of_ble_eq_true hdn) hd rfl hc rfl (pure_ls hx (by unfold AM.loadAV; rw [ha]; simp only [cellsFrom]; rw [hr])) h
theorem HP.lsA {l : List Oper} {i m d ty sz : Nat} {L : Array Bool} {Q : St → Prop} {lt : TypeId} {x : Operand} {row : List AV} {j : Nat} {pos : String} {aft : Array Edge} (cs : List AV) (ha : isAggT P lt = some true) (hz : P.cellsOf lt = sz) (ho : l[i]? = some ⟨some d, .load lt x, ty, pos, aft, none⟩) (hx : opv s x = some (.sadr row j) := by exact rfl) (hr : (row.drop j).take sz = cs := by exact rfl) (hle : Nat.ble sz (row.drop j).length = true := by exact rfl) (hdn : Nat.blt d t = true := by exact rfl) (hc : (Region.noSelect ⟨l⟩ && Region.free .any ⟨l⟩ L i && (Region.ready .any ⟨l⟩ L).contains i) = true := by kernel_rfl) (hd : d ≠ 1000000 := by decide)
    (h : HP P l m (L.setIfInBounds i true) ⟨(d, .agg cs) :: s, b, n, t, e⟩ Q) : HP P l (m + 1) L ⟨s, b, n, t, e⟩ Q := .take ho rfl (Nat.le_of_ble_eq_true hdn) hd rfl hc rfl (pure_ls hx (by unfold AM.loadAV; rw [ha]; simp only [cellsFrom, hz, hle, cond_true, hr])) h
end
end Go.AM
