/-
  Part 9 of the proof: the abstract machine, proved sound over the model.
  Conditions: none.
-/
import Derived.Shelf.SlicesQ.Reverse
import Derived.Test.YtlpgjlnkfgacbaaGreatDoorX8
set_option linter.unusedVariables false
set_option linter.unusedSimpArgs false
set_option linter.unusedSectionVars false
namespace Go.AM
section
open Go.Proofs Go.Lib Go.Sort
abbrev CV (k : Nat) : Type := {l : List Value // l.length = k ∧ ∀ v ∈ l, v.oneCell' = true}
instance (k : Nat) : Inhabited (CV k) := ⟨⟨List.replicate k (.bool false), by simp, fun v hv => by rw [List.eq_of_mem_replicate hv]; rfl⟩⟩
theorem flat_list {α : Type} [Inhabited α] (enc : α → List Value) (k : Nat) (hk : ∀ x, (enc x).length = k) (h0 : 0 < k) : ∀ (n : Nat) (cs : List α), cs.length = n → (flatK enc k cs.toArray).toList = (cs.map enc).flatten
  | 0, cs, h => by
    rw [List.eq_nil_of_length_eq_zero h]
    simp [flatK]
  | n + 1, cs, h => by
    have hne : cs ≠ [] := by intro e; subst e; simp at h
    obtain ⟨pre, c, rfl⟩ : ∃ pre c, cs = pre ++ [c] := ⟨_, _, (List.dropLast_concat_getLast hne).symm⟩
    have hl : pre.length = n := by simpa using h
    have ih := flat_list enc k hk h0 n pre hl; simp only [flatK, Array.toList_map, Array.toList_range, List.size_toArray] at ih ⊢; rw [List.length_append, List.length_singleton, Nat.add_mul, Nat.one_mul, List.range_add, List.map_append, List.map_append, List.flatten_append, ← ih]
    congr 1
    · apply List.map_congr_left
      intro t ht
      have ht' : t / k < pre.length := by
        rw [Nat.div_lt_iff_lt_mul h0]; exact List.mem_range.1 ht
      congr 2
      rw [getElem!_pos _ _ (by simp; omega), getElem!_pos _ _ (by simpa using ht')]
      simp [List.getElem_append_left ht']
    · simp only [List.map_cons, List.map_nil, List.flatten_cons, List.flatten_nil, List.append_nil, List.map_map]
      apply List.ext_getElem
      · simp [hk]
      · intro i h1 h2; simp only [List.length_map, List.length_range] at h1; simp only [List.getElem_map, List.getElem_range, Function.comp_apply]
        have e1 : (pre.length * k + i) / k = pre.length := by rw [Nat.mul_comm, Nat.mul_add_div h0, Nat.div_eq_of_lt h1, Nat.add_zero]
        have e2 : (pre.length * k + i) % k = i := by rw [Nat.mul_comm, Nat.mul_add_mod, Nat.mod_eq_of_lt h1]
        rw [e1, e2, getElem!_pos _ pre.length (by simp)]; simp only [List.getElem_toArray, List.getElem_concat_length]; rw [getElem!_pos _ i (by rw [hk]; exact h1)]
def ZR (E : Env) (sz : Nat) : List (List AV) → List (CV sz) → Prop
  | [], [] => True
  | r :: rs, c :: cs => (r.length = sz ∧ FVc E r c.1) ∧ ZR E sz rs cs
  | _, _ => False
theorem ZR.length {E : Env} {sz : Nat} : ∀ {rows : List (List AV)} {cs : List (CV sz)}, ZR E sz rows cs → cs.length = rows.length
  | [], [], _ => rfl
  | _ :: rs, _ :: cs, h => by simp [ZR.length h.2]
theorem take_put (F cur : Array Value) (h : F.size ≤ cur.size) : (putCells id 0 F cur).size = cur.size ∧ (putCells id 0 F cur).toList.take F.size = F.toList := by
  have hs : (putCells id 0 F cur).size = cur.size := by simp [putCells]
  refine ⟨hs, ?_⟩
  apply List.ext_getElem
  · simp [hs]; omega
  intro i h1 h2
  have hi : i < F.size := by simpa using h2
  rw [List.getElem_take, Array.getElem_toList, Array.getElem_toList]; simp only [putCells, Array.getElem_mapIdx]; rw [if_pos ⟨Nat.zero_le _, by omega⟩, Nat.sub_zero, getElem!_pos F i hi]; rfl
theorem rel0 {E : Env} {X : Nat → List Value} {objs : List (Nat × Obj)} {k : Nat} (hE : Entry E X objs k) : Rel (GJ E objs k) E X ⟨[(0, .tup [])], objs, k, 1, k⟩ { tmps := #[.tuple #[]], defers := [] } := by
  refine ⟨?_, rfl, rfl, ?_, hE.apart, hE.stay, ?_, Keep.refl _ _, ?_, ?_, ?_, fun b hb => hb, fun b hb => .inl hb, rfl, hE.glob⟩
  · intro s v hv; rw [AZ] at hv
    split at hv
    · rename_i e
      subst e; simp only [Option.some.injEq] at hv; subst hv
      simp [FV, FVs]
    simp [Aw] at hv
  · intro r o hr; obtain ⟨h1, h2⟩ := hE.objs r o hr; exact ⟨(hE.dom r).2 h1, h2⟩
  · intro r hr; exact (hE.dom r).1 hr
  · intro r o b hr hb; exact .inl ⟨r, o, hr, hb⟩
  · intro r hr; exact ⟨rfl, rfl⟩
  intro r hr; exact (hE.dom r).2 hr
end
section
open Go.MapKept
section plain
variable {K V : Type} [DecidableEq K]
def Ex : List (K × V) → K → Option V
  | [], _ => none
  | p :: m, k => if k = p.1 then some p.2 else Ex m k
def mput : List (K × V) → K → V → List (K × V)
  | [], k, v => [(k, v)]
  | p :: m, k, v => if k = p.1 then (k, v) :: m else p :: mput m k v
def mpos : List (K × V) → K → Nat
  | [], _ => 0
  | p :: m, k => if k = p.1 then 0 else mpos m k + 1
theorem mget_mput (m : List (K × V)) (k : K) (v : V) (k' : K) : Ex (mput m k v) k' = if k' = k then some v else Ex m k' := by
  induction m with
  | nil => simp [mput, Ex]
  | cons p m ih =>
    simp only [mput]
    by_cases h : k = p.1
    · simp only [h, if_true, Ex]
      by_cases h2 : k' = p.1 <;> simp [h2]
    simp only [h, if_false, Ex, ih]
    by_cases h2 : k' = p.1
    · have : ¬ k' = k := fun e => h (e ▸ h2); simp only [h2, if_true]; rw [if_neg]; intro e; exact h e.symm
    simp [h2]
theorem mpos_get {m : List (K × V)} {k : K} {v : V} (h : Ex m k = some v) : m[mpos m k]? = some (k, v) := by
  induction m with
  | nil => simp [Ex] at h
  | cons p m ih =>
    simp only [Ex] at h; simp only [mpos]
    by_cases h2 : k = p.1
    · simp only [h2, if_true, Option.some.injEq] at h ⊢; subst h
      simp
    simp only [h2, if_false] at h ⊢
    simpa using ih h
theorem mput_some {m : List (K × V)} {k : K} {v : V} (u : V) (h : Ex m k = some v) : mput m k u = m.set (mpos m k) (k, u) := by
  induction m with
  | nil => simp [Ex] at h
  | cons p m ih =>
    simp only [Ex] at h; simp only [mpos, mput]
    by_cases h2 : k = p.1
    · simp [h2]
    simp only [h2, if_false] at h ⊢
    simp [ih h]
theorem mput_none {m : List (K × V)} {k : K} (u : V) (h : Ex m k = none) : mput m k u = m ++ [(k, u)] := by
  induction m with
  | nil => rfl
  | cons p m ih =>
    simp only [Ex] at h; simp only [mput]
    by_cases h2 : k = p.1
    · simp [h2] at h
    simp only [h2, if_false] at h ⊢; rw [ih h]; rfl
end plain
structure KL {K : Type} [DecidableEq K] (d : TypeDesc) (kv : K → Value) : Prop where
  same : ∀ a b, Instr.sameNow d (kv a) (kv b) = some (decide (a = b))
  key : ∀ a, keyB d (kv a) = true
theorem klI : KL (.int .i64) (Value.int .i64) := ⟨fun a b => by simp [Instr.sameNow]; by_cases h : a = b <;> simp [h], fun a => by simp [keyB]⟩
def rowK {K V : Type} (kv : K → Value) (vv : V → Value) (p : K × V) : List AV := [.lit (kv p.1), .top, .lit (vv p.2)]
section Aw
variable {K V : Type} [DecidableEq K] {d : TypeDesc} {kv : K → Value} {vv : V → Value}
theorem findAV_K (h : KL d kv) (k : K) : ∀ (m : List (K × V)) (i : Nat), findAV d (kv k) (m.map (rowK kv vv)) i = some ((Ex m k).map fun v => (i + mpos m k, [.top, .lit (vv v)]))
  | [], i => rfl
  | p :: m, i => by
    simp only [List.map_cons, rowK, findAV, h.same, Ex, mpos]
    by_cases h2 : k = p.1
    · simp [h2]
    · simp only [h2, decide_false, if_false]; rw [findAV_K h k m (i + 1)]
      congr 1
      cases Ex m k with
      | none => rfl
      | some v => simp; omega
end Aw
section rules
variable {P : Program} {ops : Array Oper} {rest : List Oper} {s : List (Nat × AV)} {b : List (Nat × Obj)} {n t e id : Nat} {Q : St → Prop} {dd ty : Nat} {pos : String} {aft : Array Edge} {g : Option (Nat × Bool)} {x y z : Operand}
variable {K V : Type} [DecidableEq K] {d : TypeDesc} {kv : K → Value} {vv : V → Value} {m : List (K × V)} {k : K} {mt r el : Nat} {z0 : V} {cl : Bool}
theorem q.mm {p : TypeDesc × Option Value} (ht : mapTy P mt = some p) : Az P ⟨s, b, n, t, e⟩ id (.makeMap mt none) = some (.hd id, [(id, ⟨true, mt, msz p.2, [], true⟩)]) := by
  simp only [Az, ht, Option.map_some]
theorem look_own (h : KL d kv) (ht : mapTy P mt = some (d, some (vv z0))) (ok : Bool) (hx : Ba s x = some (.hd r) := by exact rfl) (ho : Aw b r = some ⟨true, el, 3, m.map (rowK kv vv), cl⟩ := by exact rfl) (hy : Ba s y = some (.lit (kv k)) := by exact rfl) :
    Az P ⟨s, b, n, t, e⟩ id (.lookup mt x y ok) = some (bif ok then .tup [.lit (vv ((Ex m k).getD z0)), .lit (.bool (Ex m k).isSome)] else .lit (vv ((Ex m k).getD z0)), []) := by
  simp only [Az, ht, Option.bind_some, AS hx, F0, ho, cond_true, AS hy, Cq, msz, Nat.beq_refl, h.key, Bool.and_self, findAV_K h]
  cases Ex m k with
  | none => cases ok <;> rfl
  | some v => cases ok <;> rfl
theorem q.lk (h : KL d kv) (ht : mapTy P mt = some (d, some (vv z0))) (hx : Ba s x = some (.hd r) := by exact rfl) (ho : Aw b r = some ⟨true, el, 3, m.map (rowK kv vv), cl⟩ := by exact rfl) (hy : Ba s y = some (.lit (kv k)) := by exact rfl) :
    Az P ⟨s, b, n, t, e⟩ id (.lookup mt x y false) = some (.lit (vv ((Ex m k).getD z0)), []) := look_own h ht false hx ho hy
theorem SeqL.of_run {o : Oper} {σ : St} (hg : B0 (B8 ops) σ o.guard = some true)
    (h : ∀ C E X a, Rel C E X σ a → ∃ y E' X' σ', (execOp a.eval o).run P E.w = .ok (.value y) E'.w ∧ Rel C E' X' σ' (a.put o.dst y) ∧ SeqL P ops rest σ' Q) : SeqL P ops (o :: rest) σ Q := by
  intro C E X a hr Q' hq; simp only [FN, hr.guard hg, if_true]; obtain ⟨y, E', X', σ', h1, h2, h3⟩ := h C E X a hr; exact wp_value h1 (h3 C E' X' _ h2 Q' hq)
theorem SeqL.of_skip {o : Oper} {σ : St} (hg : B0 (B8 ops) σ o.guard = some true)
    (h : ∀ C E X a, Rel C E X σ a → ∃ E' X' σ', (execOp a.eval o).run P E.w = .ok .skip E'.w ∧ Rel C E' X' σ' (a.put o.dst undef) ∧ SeqL P ops rest σ' Q) : SeqL P ops (o :: rest) σ Q := by
  intro C E X a hr Q' hq; simp only [FN, hr.guard hg, if_true]; obtain ⟨E', X', σ', h1, h2, h3⟩ := h C E X a hr
  unfold Oper.wp
  rw [h1]; simp only [Oper.upon]; exact h3 C E' X' _ h2 Q' hq
theorem FVr_setM {E : Env} {sz : Nat} {new : List AV} {e1 : MapEntry} (hn : new.length = sz) (hnew : FVc E new (F7 e1)) : ∀ {rows : List (List AV)} {es : List MapEntry} {i : Nat}, (∀ x ∈ es, (F7 x).length = sz) → FVr E sz rows (D7 es) → i < rows.length → i < es.length → FVr E sz (rows.set i new) (D7 (es.set i e1))
  | [], _, i, _, _, hi, _ => by simp at hi
  | _ :: _, [], i, _, _, _, hi => by simp at hi
  | row :: rows, x :: es, i, hl, hf, hi, hi' => by
    obtain ⟨h1, h2, h3⟩ := FVr_rowM hf (hl x (by simp))
    cases i with
    | zero => exact FVr_rowM_of hn hnew h3
    | succ i => exact FVr_rowM_of h1 h2 (FVr_setM hn hnew (fun y hy => hl y (by simp [hy])) h3 (by simpa using hi) (by simpa using hi'))
theorem flatM_app (l m : List MapEntry) : D7 (l ++ m) = D7 l ++ D7 m := by simp [D7]
theorem FVr_one {E : Env} {sz : Nat} {new : List AV} {e1 : MapEntry} (hn : new.length = sz) (hnew : FVc E new (F7 e1)) : FVr E sz [new] (D7 [e1]) := FVr_rowM_of hn hnew (by simp [FVr, D7])
theorem key_one {d : TypeDesc} {v : Value} (h : IsKey d v) : v.oneCell' = true := by
  cases d <;> cases v <;> simp_all [IsKey] <;> rfl
theorem modify_set {es : Array MapEntry} {i : Nat} {x : MapEntry} (f : MapEntry → MapEntry) (h : es.toList[i]? = some x) : (es.modify i f).toList = es.toList.set i (f x) := by
  apply List.ext_getElem?
  intro j; simp only [Array.getElem?_toList, Array.getElem?_modify, List.getElem?_set]; rw [Array.getElem?_toList] at h
  by_cases hj : i = j
  · subst hj; obtain ⟨hlt, hge⟩ := Array.getElem?_eq_some_iff.1 h
    simp [hlt, hge]
  simp [hj]
theorem Rel.putMap {C : Ctx} {E : Env} {X : Nat → List Value} {σ : St} {a : Act} (hr : Rel C E X σ a) {r : Nat} {o : Obj} (hob : Aw σ.objs r = some o) (hs : o.slc = true) (hcl : o.cl = true) {bb : Nat} (hH : E.H r = .map (some bb)) {es : Array MapEntry} {clk : Nat} (hg : E.w.heap[bb]? = some (.map es clk))
    (es' : Array MapEntry) (clk' : Nat) (hwf : MapWf o.sz es' clk') (rows' : List (List AV)) (hf : FVr E.clear o.sz rows' (D7 es'.toList)) :
    ∃ E' X', E'.w = { E.w with heap := E.w.heap.setIfInBounds bb (.map es' clk') } ∧ Rel C E' X' { σ with objs := (r, ⟨true, o.elem, o.sz, rows', true⟩) :: Fl σ.objs r } a := by
  have hset := Go.MapKept.heap_set (o' := .map es' clk') hg
  have hbo : Bl (E.H r) = some bb := by rw [hH]; rfl
  have hle : E.clear.le (Env.clear { E with w := { E.w with heap := E.w.heap.setIfInBounds bb (.map es' clk') } }) := ⟨fun k hk => ⟨hk, hset.2 k (fun e => (hr.stay k hk).2 r o hob (e ▸ hbo))⟩, fun r hr => hr.elim⟩
  obtain ⟨h1, _⟩ := hr.update (o' := ⟨true, o.elem, o.sz, rows', true⟩) (w' := { E.w with heap := E.w.heap.setIfInBounds bb (.map es' clk') }) (xs' := D7 es'.toList) hob hbo rfl ⟨rfl, Nat.le_refl _⟩ rfl (by simp) (fun k hk => hset.2 k hk) rfl
    (by unfold ObjOK; exact .inr (.inr ⟨bb, es', clk', hH, hset.1, hwf, rfl⟩)) (FVr.le _ _ hle _ hf)
  exact ⟨_, _, rfl, h1⟩
theorem rel_ev_lit {C : Ctx} {E : Env} {X : Nat → List Value} {a : Act} (hr : Rel C E X ⟨s, b, n, t, e⟩ a) {v : Value} (hx : Ba s x = some (.lit v)) : a.eval x = v := by
  have h := hr.ev x; rw [AS hx] at h
  simpa [FV] using h
theorem S.mu {v : V} (b' : List (Nat × Obj)) (h : KL d kv) (ht : mapTy P mt = some (d, some (vv z0))) (hv : ∀ u, (vv u).oneCell' = true) (hx : Ba s x = some (.hd r) := by exact rfl) (ho : Aw b r = some ⟨true, el, 3, m.map (rowK kv vv), true⟩ := by exact rfl) (hy : Ba s y = some (.lit (kv k)) := by exact rfl) (hz : Ba s z = some (.lit (vv v)) := by exact rfl)
    (hdel : Fl b r = b' := by exact rfl) (hg : B0 (B8 ops) ⟨s, b, n, t, e⟩ g = some true := by exact rfl) (hn : SeqL P ops rest ⟨s, (r, ⟨true, el, 3, (mput m k v).map (rowK kv vv), true⟩) :: b', n, t, e⟩ Q) :
    SeqL P ops (⟨none, .mapUpdate mt x y z, ty, pos, aft, g⟩ :: rest) ⟨s, b, n, t, e⟩ Q := by
  subst hdel; refine SeqL.of_skip hg fun C E X a hr => ?_; obtain ⟨kt, et, z1, ht1, ht2, hzz, hz1⟩ := mapTy_spec ht; obtain ⟨_, hZ, hok, hrr⟩ := hr.objs r _ ho; have hxv := hr.ev x; rw [AS hx] at hxv; obtain ⟨bb, es, clk, hH, hgg, hwf, hfl, hxe⟩ := hok.asMap rfl hxv; rw [← hfl] at hrr; have hye := rel_ev_lit hr hy; have hze := rel_ev_lit hr hz; have hik := keyB_is (h.key k)
  have hun : Gz (vv v) = false := by
    have := hv v
    cases hvv : vv v <;> simp [hvv, Gz] at this ⊢
    simp [Value.oneCell'] at this
  have hvc : valCells (vv v) = [vv v] := by simp [valCells, hun]
  have hnew : ∀ st : Nat, FVc E.clear (rowK kv vv (k, v)) (F7 ⟨kv k, vv v, st⟩) := by
    intro st; simp only [F7, hvc, rowK, FVc]; exact ⟨_, _, rfl, key_one hik, by simp [FV], _, _, rfl, rfl, by simp [FV], _, _, rfl, hv v, by simp [FV], rfl⟩
  have hlen : ∀ st : Nat, (F7 ⟨kv k, vv v, st⟩).length = 3 := fun st => by simp [F7, hvc]
  rcases findAV_spec (show (0 : Nat) < 3 by decide) hwf.len hrr (findAV_K (vv := vv) h k m 0) with ⟨h1, h2, h3⟩ | ⟨j, v1, vs, e1, h1, h2, h3, h4, h5, h6, h7⟩
  · have hm0 : Ex m k = none := by simpa using h1
    have hne : ∀ x ∈ es.toList, x.key ≠ kv k := fun x hx e => by
      have := h3 x hx; rw [e, h.same] at this
      simp at this
    obtain ⟨E', X', hw, hr'⟩ := hr.putMap ho rfl rfl hH hgg (es.push { key := kv k, val := vv v, born := clk }) (clk + 1) ⟨stamped_push hwf.st hne, fun x hx => by
      simp only [Array.toList_push, List.mem_append, List.mem_singleton] at hx
      rcases hx with hx | rfl
      · exact hwf.len x hx
      exact hlen clk⟩ ((mput m k v).map (rowK kv vv)) (by
      rw [mput_none v hm0, List.map_append, Array.toList_push, flatM_app]
      exact hrr.append (FVr_one rfl (hnew clk)))
    refine ⟨E', X', _, ?_, hr', hn⟩
    unfold execOp
    simp [hxe, hye, hze, Instr.mapUpdate, run_underlying ht1, Go.MapKept.run_getObj_map hgg, Go.MapKept.run_checkKey ht2 hik, Go.MapKept.run_findKey ht2 h2, Go.MapKept.run_setObj_map _ hgg, Result.andThen, hw]
  have hj : es.toList[j]? = some e1 := h3
  have hj' : es[j]? = some e1 := by simpa using h3
  have hke : e1.key = kv k := by
    rw [h4] at h7 ⊢
    have hmk : ∃ p ∈ m, kv p.1 = v1 := by
      rw [List.getElem?_map, Option.map_eq_some_iff] at h2; obtain ⟨p, hp, hp2⟩ := h2; simp only [rowK, List.cons.injEq, AV.lit.injEq] at hp2; exact ⟨p, List.mem_of_getElem? hp, hp2.1⟩
    obtain ⟨p, _, rfl⟩ := hmk; rw [h.same] at h7; simp only [Option.some.injEq, decide_eq_true_eq] at h7; rw [h7]
  obtain ⟨u, hu⟩ : ∃ u, Ex m k = some u := by
    cases hm : Ex m k with
    | none => rw [hm] at h1; simp at h1
    | some u => exact ⟨u, rfl⟩
  have hjp : j = mpos m k := by
    rw [hu] at h1; simp only [Option.map_some, Option.some.injEq, Prod.mk.injEq] at h1; omega
  obtain ⟨E', X', hw, hr'⟩ := hr.putMap ho rfl rfl hH hgg (es.modify j fun x => { x with key := kv k, val := vv v }) clk ⟨stamped_modify hwf.st _ _ (fun _ _ => rfl) (fun x _ hx => by rw [hj'] at hx; cases hx; exact hke.symm), fun x hx => by
    rw [modify_set _ hj] at hx
    rcases List.mem_or_eq_of_mem_set hx with hx | rfl
    · exact hwf.len x hx
    exact hlen _⟩ ((mput m k v).map (rowK kv vv)) (by
    rw [mput_some v hu, List.map_set, modify_set _ hj, ← hjp]; refine FVr_setM rfl (hnew _) hwf.len hrr ?_ (List.getElem?_eq_some_iff.1 hj).1; rw [List.length_map]; have := (List.getElem?_eq_some_iff.1 (mpos_get hu)).1
    omega)
  refine ⟨E', X', _, ?_, hr', hn⟩
  have h6' : Instr.findNow d (kv k) es.toList 0 = some (some (j, e1.val)) := by simpa using h6
  unfold execOp
  simp [hxe, hye, hze, Instr.mapUpdate, run_underlying ht1, Go.MapKept.run_getObj_map hgg, Go.MapKept.run_checkKey ht2 hik, Go.MapKept.run_findKey ht2 h6', hj', hke, run_keyThatStays hik, Go.MapKept.run_setObj_map _ hgg, Result.andThen, hw]
end rules
end
end Go.AM
