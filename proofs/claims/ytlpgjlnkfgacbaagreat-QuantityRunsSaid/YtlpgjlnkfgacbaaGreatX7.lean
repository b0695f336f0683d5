/-
  Part 7 of the proof: the abstract machine, proved sound over the model.
  Conditions: none.
-/
import Derived.Test.YtlpgjlnkfgacbaaGreatX6
set_option linter.unusedVariables false
set_option linter.unusedSimpArgs false
set_option linter.unusedSectionVars false
namespace Go.AM
def bitsL : Nat → Nat → List Bool
  | 0, _ => []
  | k + 1, m => Nat.beq (m % 2) 1 :: bitsL k (m / 2)
def tbs : List (Nat × Nat) → List (List Bool)
  | [] => []
  | p :: l => bitsL p.1 p.2 :: tbs l
def readsM : Op → Option (List Operand)
  | .alloc _ => some []
  | .box _ x => some [x]
  | .buildSlice _ _ parts => some (parts.toList.map (·.2))
  | .lookup _ x i _ => some [x, i]
  | .makeSlice _ x y => some [x, y]
  | .entry x => some [x]
  | op => readsOf op
def Ext (b b' : List (Nat × Obj)) : Prop := ∀ r o, find b r = some o → find b' r = some o
section mono
variable {P : Program} {σ σ' : St}
theorem cellsFrom_mono (h : Ext σ.objs σ'.objs) {v : AV} {cs : List AV} (hv : cellsFrom σ v = some cs) : cellsFrom σ' v = some cs := by
  cases v <;> simp only [cellsFrom] at hv ⊢ <;> try exact hv
  case adr r i j =>
    simp only [Option.bind_eq_some_iff] at hv ⊢; obtain ⟨o, ho, hv⟩ := hv; exact ⟨o, h r o ho, hv⟩
theorem loadAV_mono (h : Ext σ.objs σ'.objs) {t : TypeId} {v u : AV} (hv : loadAV P σ t v = some u) : loadAV P σ' t v = some u := by
  unfold loadAV at hv ⊢
  cases hc : cellsFrom σ v with
  | none => rw [hc] at hv; split at hv <;> simp_all
  | some cs => rw [hc] at hv; rw [cellsFrom_mono h hc]; exact hv
theorem indexAV_mono (h : Ext σ.objs σ'.objs) {sz : Nat} {v u : AV} {n : Int} (hv : indexAV σ sz v n = some u) : indexAV σ' sz v n = some u := by
  cases v <;> simp only [indexAV] at hv ⊢ <;> try exact hv
  case als r lo m =>
    simp only [Option.bind_eq_some_iff] at hv ⊢; obtain ⟨o, ho, hv⟩ := hv; exact ⟨o, h r o ho, hv⟩
mutual
theorem viewAV_mono (h : Ext σ.objs σ'.objs) : ∀ {v u : AV}, viewAV σ v = some u → viewAV σ' v = some u
  | .als r lo n, u, hv => by
    simp only [viewAV, Option.bind_eq_some_iff] at hv ⊢; obtain ⟨o, ho, hv⟩ := hv; exact ⟨o, h r o ho, hv⟩
  | .adr r i j, u, hv => by
    simp only [viewAV, Option.bind_eq_some_iff] at hv ⊢; obtain ⟨o, ho, hv⟩ := hv; exact ⟨o, h r o ho, hv⟩
  | .agg cs, u, hv => by
    simp only [viewAV, Option.map_eq_some_iff] at hv ⊢; obtain ⟨cs', hc, rfl⟩ := hv; exact ⟨cs', viewL_mono h hc, rfl⟩
  | .tup cs, u, hv => by
    simp only [viewAV, Option.map_eq_some_iff] at hv ⊢; obtain ⟨cs', hc, rfl⟩ := hv; exact ⟨cs', viewL_mono h hc, rfl⟩
  | .fn f first caps, u, hv => by
    simp only [viewAV] at hv ⊢
    split at hv
    · rename_i x y h1 h2
      rw [viewL_mono h h1, viewL_mono h h2]; exact hv
    · cases hv
  | .top, u, hv => hv
  | .lit v, u, hv => hv
  | .sh s rows, u, hv => hv
  | .sadr row j, u, hv => hv
  | .hd r, u, hv => by
    simp only [viewAV, Option.bind_eq_some_iff] at hv ⊢; obtain ⟨o, ho, hv⟩ := hv; exact ⟨o, h r o ho, hv⟩
  | .shm s rows, u, hv => hv
  | .rem s la rows, u, hv => hv
theorem viewL_mono (h : Ext σ.objs σ'.objs) : ∀ {l m : List AV}, viewL σ l = some m → viewL σ' l = some m
  | [], m, hv => hv
  | c :: cs, m, hv => by
    simp only [viewL] at hv ⊢
    split at hv
    · rename_i x y h1 h2
      rw [viewAV_mono h h1, viewL_mono h h2]; exact hv
    · cases hv
end
theorem mapRows_mono (h : Ext σ.objs σ'.objs) {v : AV} {q : Nat × List (List AV)} (hv : mapRows σ v = some q) : mapRows σ' v = some q := by
  cases v <;> try (simp [mapRows] at hv; done)
  · simp only [mapRows, Option.bind_eq_some_iff] at hv ⊢; obtain ⟨o, ho, hv⟩ := hv; exact ⟨o, h _ o ho, hv⟩
  · exact hv
theorem iterAV_mono (h : Ext σ.objs σ'.objs) {v : AV} {q : AV × List AV} (hv : iterAV σ v = some q) : iterAV σ' v = some q := by
  cases v <;> try (simp [iterAV] at hv; done)
  simp only [iterAV, Option.bind_eq_some_iff] at hv ⊢; obtain ⟨o, ho, hv⟩ := hv; exact ⟨o, h _ o ho, hv⟩
theorem stepQ_mono {op : Op} {xs : List Operand} {id : Nat} {v : AV} {new : List (Nat × Obj)} (hx : readsM op = some xs) (ho : Ext σ.objs σ'.objs) (he : ∀ x ∈ xs, σ'.ev x = σ.ev x) (hq : stepQ P σ id op = some (v, new)) : stepQ P σ' id op = some (v, new) := by
  cases op <;> try (simp [readsM, readsOf] at hx; done)
  case slice t x lo hi mx =>
    cases mx with
    | some m => simp [readsM, readsOf] at hx
    | none =>
      simp only [readsM, readsOf, Option.some.injEq] at hx; subst hx; have e1 := he x (by simp)
      have e2 : ∀ d, boundAV σ' d lo = boundAV σ d lo := by
        intro d
        cases lo with
        | none => rfl
        | some l => simp [boundAV, he l (by simp)]
      have e3 : ∀ d, boundAV σ' d hi = boundAV σ d hi := by
        intro d
        cases hi with
        | none => rfl
        | some l => simp [boundAV, he l (by simp)]
      have e4 : optVal σ' lo = optVal σ lo := by
        cases lo with
        | none => rfl
        | some l => simp [optVal, he l (by simp)]
      have e5 : optVal σ' hi = optVal σ hi := by
        cases hi with
        | none => rfl
        | some l => simp [optVal, he l (by simp)]
      simp only [stepQ, e1, e2, e3, e4, e5] at hq ⊢
      split at hq
      · obtain ⟨hb, hq⟩ := bif_none hq; rw [hb]; simp only [cond_false]; simp only [Option.bind_eq_some_iff] at hq ⊢; obtain ⟨n, hn, l, hl, hh, hhi, hq⟩ := hq; refine ⟨n, hn, l, hl, hh, hhi, ?_⟩
        split at hq
        · simp only [Option.bind_eq_some_iff] at hq ⊢; obtain ⟨o, hob, hq⟩ := hq; exact ⟨o, ho _ o hob, hq⟩
        · exact hq
        · cases hq
      · exact hq
  case call c =>
    obtain ⟨callee, as, ts⟩ := c
    cases callee <;> try (simp [readsM, readsOf] at hx; done)
    case builtin b =>
      simp only [readsM, readsOf, Option.some.injEq] at hx; subst hx; have hm : as.toList.map σ'.ev = as.toList.map σ.ev := List.map_congr_left fun y hy => he y hy; simp only [stepQ] at hq ⊢
      cases b <;> try (simp [stepBuiltin] at hq; done)
      case len =>
        simp only [stepBuiltin] at hq ⊢
        split at hq
        · rename_i x t hxx htt
          have : σ'.ev x = σ.ev x := he x (by rw [hxx]; simp); rw [this]
          split at hq
          · exact hq
          · rename_i hel
            rw [hm]
            split at hq
            · rename_i q hq0
              rw [mapRows_mono ho hq0]; exact hq
            · rename_i hq0
              split
              · rename_i q hq1
                exfalso
                obtain ⟨z, h1, _⟩ := lits_some hq; simp only [Option.bind_eq_some_iff] at h1; obtain ⟨l, h2, _⟩ := h1; rw [hxx] at h2; simp only [List.map_cons, List.map_nil, toVals] at h2
                cases hv : σ.ev x <;> simp [hv, mapRows, toVal] at hq0 hq1 h2
              · exact hq
        · cases hq
      case cap =>
        simp only [stepBuiltin] at hq ⊢
        split at hq
        · rename_i x t hxx htt
          have : σ'.ev x = σ.ev x := he x (by rw [hxx]; simp); rw [this]; exact hq
        · cases hq
      case unsafeSliceData =>
        simp only [stepBuiltin] at hq ⊢
        split at hq
        · rename_i x hxx
          have : σ'.ev x = σ.ev x := he x (by rw [hxx]; simp); rw [this]; exact hq
        · cases hq
      case max => simp only [stepBuiltin, hm] at hq ⊢; exact hq
      case min => simp only [stepBuiltin, hm] at hq ⊢; exact hq
    all_goals (simp [stepQ] at hq)
  case load t x =>
    simp only [readsM, readsOf, Option.some.injEq] at hx; subst hx; have e1 := he x (by simp); simp only [stepQ, e1] at hq ⊢; obtain ⟨h1, rfl⟩ := vals_some hq; rw [loadAV_mono ho h1]; rfl
  case indexAddr t x i =>
    simp only [readsM, readsOf, Option.some.injEq] at hx; subst hx; have e1 := he x (by simp); have e2 := he i (by simp); simp only [stepQ, e1, e2] at hq ⊢
    split at hq
    · split at hq
      · obtain ⟨hb, hq⟩ := bif_none hq; rw [hb]; obtain ⟨h1, rfl⟩ := vals_some hq; rw [indexAV_mono ho h1]; rfl
      · exact hq
    · cases hq
  case build t parts =>
    simp only [readsM, readsOf, Option.some.injEq] at hx; subst hx
    have hm : (parts.toList.map fun p => (p.1, σ'.ev p.2)) = (parts.toList.map fun p => (p.1, σ.ev p.2)) := List.map_congr_left fun p hp => by rw [he p.2 (List.mem_map.2 ⟨p, hp, rfl⟩)]
    simp only [stepQ, hm] at hq ⊢; exact hq
  case buildSlice t len parts =>
    simp only [readsM, Option.some.injEq] at hx; subst hx
    have hm : (parts.toList.map fun p => (p.1, σ'.ev p.2)) = (parts.toList.map fun p => (p.1, σ.ev p.2)) := List.map_congr_left fun p hp => by rw [he p.2 (List.mem_map.2 ⟨p, hp, rfl⟩)]
    simp only [stepQ, hm] at hq ⊢; exact hq
  case makeFunc f first caps =>
    simp only [readsM, readsOf, Option.some.injEq] at hx; subst hx; have h1 : first.toList.map σ'.ev = first.toList.map σ.ev := List.map_congr_left fun y hy => he y (by simp [hy]); have h2 : caps.toList.map σ'.ev = caps.toList.map σ.ev := List.map_congr_left fun y hy => he y (by simp [hy]); simp only [stepQ, h1, h2] at hq ⊢; exact hq
  case alloc t => simpa only [stepQ] using hq
  case makeSlice t x y =>
    simp only [readsM, Option.some.injEq] at hx; subst hx; have e1 := he x (by simp); have e2 := he y (by simp); simp only [stepQ, e1, e2] at hq ⊢; exact hq
  case entry x =>
    simp only [readsM, Option.some.injEq] at hx; subst hx; have e1 := he x (by simp); simp only [stepQ, e1, Option.bind_eq_some_iff] at hq ⊢; obtain ⟨p, h1, h⟩ := hq; exact ⟨p, iterAV_mono ho h1, h⟩
  case lookup t x i ok =>
    simp only [readsM, Option.some.injEq] at hx; subst hx; have e1 := he x (by simp); have e2 := he i (by simp); simp only [stepQ, e1, e2, Option.bind_eq_some_iff] at hq ⊢; obtain ⟨p, h1, q, h2, h⟩ := hq; exact ⟨p, h1, q, mapRows_mono ho h2, h⟩
  all_goals
    simp only [readsM, readsOf, Option.some.injEq] at hx; subst hx; simp only [List.mem_cons, List.not_mem_nil, or_false, forall_eq_or_imp, forall_eq] at he; simp only [stepQ, he] at hq ⊢; exact hq
end mono
def readsChkM (l : List Oper) (T : List (List Bool)) (K : Nat) : Bool :=
  (List.range K).all fun i => match l[i]? with
    | none => true
    | some o => (match readsM o.op with
      | none => false
      | some xs => xs.all (okX (dstsL (l.take i)) ((T[i]?).getD []))) &&
      (match o.guard with
      | none => true
      | some (j, _) => match (dstsOf ⟨l⟩)[j]? with
        | some (some d) => okT (dstsL (l.take i)) ((T[i]?).getD []) d
        | _ => true)
def QuietM (P : Program) (σ : St) (o : Oper) (v : AV) : Prop := ∀ σ' xs, readsM o.op = some xs → Ext σ.objs σ'.objs → (∀ x ∈ xs, σ'.ev x = σ.ev x) → Local P σ' o v []
def QuietN (P : Program) (σ : St) (o : Oper) (v : AV) (new : List (Nat × Obj)) : Prop := ∀ σ' xs, readsM o.op = some xs → Ext σ.objs σ'.objs → (∀ x ∈ xs, σ'.ev x = σ.ev x) → Local P σ' o v new
inductive DM (P : Program) (l : List Oper) (T : List (List Bool)) (nx : Nat) (F : List Oper → Nat → St → List (Nat × Obj) → Prop) : List Oper → Nat → Nat → St → List (Nat × Obj) → Prop
  | stop {rest : List Oper} {i : Nat} {σ : St} {N : List (Nat × Obj)} (h : F rest i σ N) : DM P l T nx F rest 0 i σ N
  | op {o : Oper} {rest : List Oper} {n i d : Nat} {σ : St} {N new : List (Nat × Obj)} {v : AV} (hd : o.dst = some d) (hg : guardGo (dstsOf ⟨l⟩) σ o.guard = some true) (hq : stepQ P σ (σ.next + 4 * i) o.op = some (v, new))
      (h : DM P l T nx F rest n (i + 1) (σ.put (some d) v) (N ++ new)) : DM P l T nx F (o :: rest) (n + 1) i σ N
  | opN {o : Oper} {rest : List Oper} {n i d : Nat} {σ : St} {N new : List (Nat × Obj)} {v : AV} (hd : o.dst = some d) (hg : guardGo (dstsOf ⟨l⟩) σ o.guard = some true) (hb : (N.all fun p => bit T i ((p.1 - σ.next) / 4)) = true)
      (hq : stepQ P { σ with objs := N ++ σ.objs } (σ.next + 4 * i) o.op = some (v, new)) (h : DM P l T nx F rest n (i + 1) (σ.put (some d) v) (N ++ new)) : DM P l T nx F (o :: rest) (n + 1) i σ N
  | call {o : Oper} {rest : List Oper} {n i d : Nat} {σ : St} {N : List (Nat × Obj)} {v : AV} {x : Operand} {as : Array Operand} {ts : Array TypeId} (hd : o.dst = some d) (hg : guardGo (dstsOf ⟨l⟩) σ o.guard = some true)
      (ho : o.op = .call { callee := .value x, args := as, argTypes := ts }) (hq : QuietM P σ o v) (h : DM P l T nx F rest n (i + 1) (σ.put (some d) v) N) : DM P l T nx F (o :: rest) (n + 1) i σ N
  | callN {o : Oper} {rest : List Oper} {n i d : Nat} {σ : St} {N new : List (Nat × Obj)} {v : AV} {x : Operand} {as : Array Operand} {ts : Array TypeId} (hd : o.dst = some d) (hg : guardGo (dstsOf ⟨l⟩) σ o.guard = some true)
      (ho : o.op = .call { callee := .value x, args := as, argTypes := ts }) (hid : idsIn (σ.next + 4 * i) new) (hq : QuietN P σ o v new) (h : DM P l T nx F rest n (i + 1) (σ.put (some d) v) (N ++ new)) : DM P l T nx F (o :: rest) (n + 1) i σ N
  | skip {o : Oper} {rest : List Oper} {n i d : Nat} {σ : St} {N : List (Nat × Obj)} (hd : o.dst = some d) (hg : guardGo (dstsOf ⟨l⟩) σ o.guard = some false) (h : DM P l T nx F rest n (i + 1) (σ.put (some d) (.lit undef)) N) : DM P l T nx F (o :: rest) (n + 1) i σ N
def endD (P : Program) (l : List Oper) (nx : Nat) (Q : St → Prop) (rest : List Oper) (i : Nat) (σ : St) (N : List (Nat × Obj)) : Prop := SeqL P ⟨l⟩ rest { σ with next := nx, objs := N ++ σ.objs } Q
def lateD (P : Program) (l : List Oper) (T : List (List Bool)) (nx : Nat) (Q : St → Prop) (rest : List Oper) (i : Nat) (σ : St) (N : List (Nat × Obj)) : Prop :=
  ∃ (oK : Oper) (rest' : List Oper) (t : TypeId) (x y : Operand) (r ri rj : Nat) (ob : Obj) (u : AV) (row cs : List AV), rest = oK :: rest' ∧ oK.op = .store t x y ∧ oK.dst = none ∧ oK.guard = none ∧ (∃ i, P.info? t = some i) ∧
    ([x, y].all (okX (dstsL (l.take i)) ((T[i]?).getD []))) = true ∧ opv σ.slots x = some (.adr r ri rj) ∧ opv σ.slots y = some u ∧ find N r = some ob ∧ ob.rows[ri]? = some row ∧ cellsAV u = some cs ∧ (Nat.ble (rj + cs.length) row.length && Nat.beq cs.length (P.cellsOf t)) = true ∧
    bit T i ((r - σ.next) / 4) = true ∧ ((List.range i).all fun j => bit T i j || (!(bit T j ((r - σ.next) / 4)) && N.all fun p => !(Nat.beq ((p.1 - σ.next) / 4) j))) = true ∧
    SeqL P ⟨l⟩ rest' { σ with next := nx, objs := (r, { ob with rows := ob.rows.set ri (splice row rj cs), cl := ob.cl && closedL cs }) :: (N ++ σ.objs) } Q
def keysLt (n : Nat) : List (Nat × Obj) → Bool
  | [] => true
  | p :: l => Nat.blt p.1 n && keysLt n l
theorem keysLt_find {n : Nat} : ∀ {l : List (Nat × Obj)}, keysLt n l = true → ∀ r o, find l r = some o → r < n
  | [], _, r, o, h => by simp [find] at h
  | (k, u) :: l, h, r, o, hf => by
    simp only [keysLt, Bool.and_eq_true] at h; rw [find_cons] at hf
    split at hf
    · rename_i e
      subst e; exact Nat.le_of_ble_eq_true h.1
    · exact keysLt_find h.2 r o hf
theorem find_flat : ∀ (R : List Res) (k : Nat) (o : Obj), find (R.flatMap (·.new)) k = some o → ∃ (j : Nat) (r : Res), R[j]? = some r ∧ find r.new k = some o
  | [], k, o, h => by simp [find] at h
  | r :: R, k, o, h => by
    rw [List.flatMap_cons, find_append] at h
    cases hf : find r.new k with
    | some o' =>
      rw [hf] at h; simp only [Option.some_or, Option.some.injEq] at h; exact ⟨0, r, rfl, by rw [hf, h]⟩
    | none =>
      rw [hf] at h; obtain ⟨j, r', h1, h2⟩ := find_flat R k o (by simpa using h); exact ⟨j + 1, r', by simpa using h1, h2⟩
theorem find_mem {T : Type} : ∀ {l : List (Nat × T)} {k : Nat} {o : T}, find l k = some o → ∃ p ∈ l, p.1 = k
  | [], k, o, h => by simp [find] at h
  | p :: l, k, o, h => by
    rw [find_cons] at h
    split at h
    · exact ⟨p, by simp, by assumption⟩
    · obtain ⟨q, hq, e⟩ := find_mem h; exact ⟨q, by simp [hq], e⟩
theorem DM_F {P : Program} {l : List Oper} {σ : St} {nx : Nat} {F : List Oper → Nat → St → List (Nat × Obj) → Prop} {Fin : List Oper → List Res → Prop} {T : List (List Bool)} {K : Nat} (hch : readsChkM l T K = true) (hnd : (dstsL (l.take K)).Nodup) (hKT : K ≤ T.length) (hKl : K ≤ l.length) (hkb : keysLt σ.next σ.objs = true)
    (hfin : ∀ (rest : List Oper) (σc : St) (N : List (Nat × Obj)) (R : List Res), R.length = K → l.drop K = rest → σc.slots = (R.map fun r => (r.dst, r.v)).reverse ++ σ.slots → σc.objs = σ.objs → σc.nt = σ.nt → σc.env = σ.env → σc.next = σ.next → N = R.flatMap (·.new) → R.map (·.dst) = dstsL (l.take R.length) → (∀ j r, R[j]? = some r → idsIn (σ.next + 4 * j) r.new) → F rest K σc N → Fin rest R) :
    ∀ {rest : List Oper} {n i : Nat} {σc : St} {N : List (Nat × Obj)}, DM P l T nx F rest n i σc N → ∀ (R : List Res), n + R.length = K → i = R.length → l.drop R.length = rest → σc.slots = (R.map fun r => (r.dst, r.v)).reverse ++ σ.slots → σc.objs = σ.objs → σc.nt = σ.nt → σc.env = σ.env → σc.next = σ.next →
      N = R.flatMap (·.new) → R.map (·.dst) = dstsL (l.take R.length) → (∀ j r, R[j]? = some r → idsIn (σ.next + 4 * j) r.new) → drawF P l (dstsOf ⟨l⟩) σ nx Fin rest ((T.take K).drop R.length) R := by
  intro rest n i σc N hdm
  have common : ∀ (o : Oper) (rest : List Oper) (n : Nat) (R : List Res) (σc : St), n + 1 + R.length = K → l.drop R.length = o :: rest → σc.slots = (R.map fun r => (r.dst, r.v)).reverse ++ σ.slots → σc.objs = σ.objs → R.map (·.dst) = dstsL (l.take R.length) → (∀ j r, R[j]? = some r → idsIn (σ.next + 4 * j) r.new) →
      ∃ bs, bs = (T[R.length]?).getD [] ∧ (T.take K).drop R.length = bs :: (T.take K).drop (R.length + 1) ∧ l.drop (R.length + 1) = rest ∧ (∃ xs, readsM o.op = some xs ∧ ∀ x ∈ xs, (stD σ nx bs R).ev x = σc.ev x) ∧ Ext σc.objs (stD σ nx bs R).objs ∧ guardGo (dstsOf ⟨l⟩) (stD σ nx bs R) o.guard = guardGo (dstsOf ⟨l⟩) σc o.guard ∧
        ∀ d v new, o.dst = some d → (R ++ [(⟨d, v, new⟩ : Res)]).map (·.dst) = dstsL (l.take (R.length + 1)) := by
    intro o rest n R σc hn hl hs ho hds hids
    have hlt : R.length < K := by omega
    have hlo : l[R.length]? = some o := by
      have := congrArg List.head? hl
      simpa [List.head?_drop] using this
    have hlr : l.drop (R.length + 1) = rest := by
      rw [← List.drop_drop, hl]; rfl
    have hTd : (T.take K).drop R.length = (T[R.length]?).getD [] :: (T.take K).drop (R.length + 1) := by
      have hlt' : R.length < (T.take K).length := by simp; omega
      rw [List.drop_eq_getElem_cons hlt']
      congr 1
      rw [List.getElem_take, List.getElem?_eq_getElem (by omega), Option.getD_some]
    refine ⟨(T[R.length]?).getD [], rfl, hTd, hlr, ?_⟩
    generalize hbs : (T[R.length]?).getD [] = bs
    have hck : (match readsM o.op with
        | none => false
        | some xs => xs.all (okX (dstsL (l.take R.length)) bs)) = true ∧ (match o.guard with
        | none => true
        | some (j, _) => match (dstsOf ⟨l⟩)[j]? with
          | some (some d) => okT (dstsL (l.take R.length)) bs d
          | _ => true) = true := by
      unfold readsChkM at hch
      rw [List.all_eq_true] at hch; have := hch R.length (by simpa using hlt); rw [hlo] at this; simp only [Bool.and_eq_true, hbs] at this; exact this
    have hRnd : (R.map (·.dst)).Nodup := by
      rw [hds]; have : (dstsL (l.take K)).Nodup := hnd; rw [show K = R.length + (K - R.length) by omega, List.take_add, dstsL_append] at this; exact (List.nodup_append.1 this).1
    have hev : ∀ t, okT (R.map (·.dst)) bs t = true → (stD σ nx bs R).get t = σc.get t := by
      intro t hok
      unfold St.get
      simp only [stD, hs]
      by_cases hm : t ∈ R.map (·.dst)
      · obtain ⟨r, hr, rfl⟩ := List.mem_map.1 hm; obtain ⟨j, hj⟩ := List.mem_iff_getElem?.1 hr; rw [find_rev R σ.slots r.dst j r hRnd hj rfl]; have hb := okT_spec _ bs r.dst hok hRnd j (by rw [List.getElem?_map, hj]; rfl); rw [find_append, slotsM_find bs R j r hRnd hb hj]; rfl
      · rw [find_slotsM_none bs R _ t hm, find_rev_none R _ t hm]
    refine ⟨?_, ?_, ?_, ?_⟩
    · cases hr : readsM o.op with
      | none => have := hck.1; rw [hr] at this; simp at this
      | some xs =>
        refine ⟨xs, rfl, fun x hx => ?_⟩; have h1 := hck.1; rw [hr] at h1; simp only [List.all_eq_true] at h1; have h2 := h1 x hx
        cases x with
        | tmp t => exact hev t (by rw [hds]; exact h2)
        | const v => rfl
        | global g => rfl
        | func f => rfl
    · intro r ob hr; rw [ho] at hr; simp only [stD, find_append]; have hlt := keysLt_find hkb r ob hr
      cases hf : find (objsM bs R) r with
      | none => simpa using hr
      | some ob' =>
        obtain ⟨j, q, _, h2, h3⟩ := find_objsM bs R r ob' hf; have := idsIn_find (hids j q h2) r ob' h3; omega
    · have h2 := hck.2
      cases hgo : o.guard with
      | none => rfl
      | some p =>
        obtain ⟨j, want⟩ := p; rw [hgo] at h2
        simp only at h2
        unfold guardGo
        simp only
        split
        · rename_i d hd
          rw [hd] at h2; rw [hev d (by rw [hds]; exact h2)]
        · rfl
    · intro d v new hd; rw [List.map_append, hds, List.take_add_one, hlo, dstsL_append]
      simp [dstsL, hd]
  have snocIds : ∀ (R : List Res) (r : Res), (∀ j r, R[j]? = some r → idsIn (σ.next + 4 * j) r.new) → idsIn (σ.next + 4 * R.length) r.new → ∀ j q, (R ++ [r])[j]? = some q → idsIn (σ.next + 4 * j) q.new := by
    intro R r h1 h2 j q hj; rw [List.getElem?_append] at hj
    split at hj
    · exact h1 j q hj
    · rename_i hlt
      rw [List.getElem?_singleton] at hj
      split at hj
      · rename_i e
        simp only [Option.some.injEq] at hj; subst hj; rw [show j = R.length by omega]; exact h2
      · cases hj
  induction hdm with
  | stop h =>
    rename_i rest i σc N
    intro R hn hi hl hs ho ht he hnx hN hds hids
    have hRK : R.length = K := by omega
    rw [List.drop_of_length_le (by simp; omega)]; simp only [drawF]; exact hfin rest σc N R hRK (by rw [← hRK]; exact hl) hs ho ht he hnx hN hds hids (by rw [← hRK, ← hi]; exact h)
  | op hd hg hq h ih =>
    rename_i o rest n i d σc N new v
    intro R hn hi hl hs ho ht he hnx hN hds hids; obtain ⟨bs, hbs, hT, hlr, ⟨xs, hxs, hev⟩, hext, hgd, hdst⟩ := common o rest n R σc hn hl hs ho hds hids; rw [hT]; simp only [drawF, hd, hgd, hg]; rw [hi, hnx] at hq; rw [stepQ_mono hxs hext hev hq]
    have hlen : (R ++ [(⟨d, v, new⟩ : Res)]).length = R.length + 1 := by simp
    have hnw : idsIn (σ.next + 4 * R.length) new := by
      rcases stepQ_new hq with rfl | ⟨ob, rfl⟩
      · intro p hp; simp at hp
      · intro p hp
        simp at hp
        subst hp
        simp
    have := ih (R ++ [⟨d, v, new⟩]) (by rw [hlen]; omega) (by rw [hlen, hi]) (by rw [hlen]; exact hlr) (by simp only [St.put, hs, List.map_append, List.map_cons, List.map_nil, List.reverse_append, List.reverse_cons, List.reverse_nil, List.nil_append, List.cons_append]) (by simpa [St.put] using ho) (by simpa [St.put] using ht) (by simpa [St.put] using he) (by simpa [St.put] using hnx)
      (by rw [hN]; simp) (by rw [hlen]; exact hdst d v new hd) (snocIds R _ hids hnw)
    rw [hlen] at this; exact this
  | opN hd hg hb hq h ih =>
    rename_i o rest n i d σc N new v
    intro R hn hi hl hs ho ht he hnx hN hds hids; obtain ⟨bs, hbs, hT, hlr, ⟨xs, hxs, hev⟩, hext, hgd, hdst⟩ := common o rest n R σc hn hl hs ho hds hids; rw [hT]; simp only [drawF, hd, hgd, hg]; rw [hi, hnx] at hq
    have hextN : Ext (N ++ σc.objs) (stD σ nx bs R).objs := by
      intro r ob hr; rw [find_append] at hr
      cases hf : find N r with
      | none => rw [hf] at hr; exact hext r ob (by simpa using hr)
      | some ob' =>
        rw [hf] at hr; simp only [Option.some_or, Option.some.injEq] at hr; subst hr; have hf' := hf; rw [hN] at hf'; obtain ⟨j, q, h2, h3⟩ := find_flat R r ob' hf'; have hin := idsIn_find (hids j q h2) r ob' h3; rw [List.all_eq_true] at hb; obtain ⟨p, hp, hpe⟩ := find_mem hf; have h4 := hb p hp; rw [hpe, hi, hnx, show (r - σ.next) / 4 = j by omega] at h4
        unfold bit at h4
        rw [← hbs] at h4
        have h5 : bs[j]? = some true := by
          rw [List.getD_eq_getElem?_getD] at h4
          cases h6 : bs[j]? with
          | none => rw [h6] at h4; cases h4
          | some z => rw [h6] at h4; simp only [Option.getD_some] at h4; rw [h4]
        simp only [stD, find_append]; rw [objsM_find σ.next bs R 0 j q r ob' (fun m q' hq' k o' hk => by have := idsIn_find (hids m q' hq') k o' hk; rw [Nat.zero_add]; exact this) h5 h2 h3]; rfl
    rw [stepQ_mono (σ := { σc with objs := N ++ σc.objs }) hxs hextN hev hq]
    have hlen : (R ++ [(⟨d, v, new⟩ : Res)]).length = R.length + 1 := by simp
    have hnw : idsIn (σ.next + 4 * R.length) new := by
      rcases stepQ_new hq with rfl | ⟨ob, rfl⟩
      · intro p hp; simp at hp
      · intro p hp
        simp at hp
        subst hp
        simp
    have := ih (R ++ [⟨d, v, new⟩]) (by rw [hlen]; omega) (by rw [hlen, hi]) (by rw [hlen]; exact hlr) (by simp only [St.put, hs, List.map_append, List.map_cons, List.map_nil, List.reverse_append, List.reverse_cons, List.reverse_nil, List.nil_append, List.cons_append]) (by simpa [St.put] using ho) (by simpa [St.put] using ht) (by simpa [St.put] using he) (by simpa [St.put] using hnx)
      (by rw [hN]; simp) (by rw [hlen]; exact hdst d v new hd) (snocIds R _ hids hnw)
    rw [hlen] at this; exact this
  | call hd hg hop hq h ih =>
    rename_i o rest n i d σc N v x as ts
    intro R hn hi hl hs ho ht he hnx hN hds hids; obtain ⟨bs, hbs, hT, hlr, ⟨xs, hxs, hev⟩, hext, hgd, hdst⟩ := common o rest n R σc hn hl hs ho hds hids; rw [hT]; simp only [drawF, hd, hgd, hg]
    have hlen : (R ++ [(⟨d, v, []⟩ : Res)]).length = R.length + 1 := by simp
    have hz : stepQ P (stD σ nx bs R) (σ.next + 4 * R.length) o.op = none := by simp [hop, stepQ]
    rw [hz]; refine ⟨v, [], fun p hp => (by simp at hp), hq _ xs hxs hext hev, ?_⟩
    have := ih (R ++ [⟨d, v, []⟩]) (by rw [hlen]; omega) (by rw [hlen, hi]) (by rw [hlen]; exact hlr) (by simp only [St.put, hs, List.map_append, List.map_cons, List.map_nil, List.reverse_append, List.reverse_cons, List.reverse_nil, List.nil_append, List.cons_append]) (by simpa [St.put] using ho) (by simpa [St.put] using ht) (by simpa [St.put] using he) (by simpa [St.put] using hnx)
      (by rw [hN]; simp) (by rw [hlen]; exact hdst d v [] hd) (snocIds R _ hids (fun p hp => by simp at hp))
    rw [hlen] at this; exact this
  | callN hd hg hop hid hq h ih =>
    rename_i o rest n i d σc N new v x as ts
    intro R hn hi hl hs ho ht he hnx hN hds hids; obtain ⟨bs, hbs, hT, hlr, ⟨xs, hxs, hev⟩, hext, hgd, hdst⟩ := common o rest n R σc hn hl hs ho hds hids; rw [hT]; simp only [drawF, hd, hgd, hg]; rw [hi, hnx] at hid
    have hlen : (R ++ [(⟨d, v, new⟩ : Res)]).length = R.length + 1 := by simp
    have hz : stepQ P (stD σ nx bs R) (σ.next + 4 * R.length) o.op = none := by simp [hop, stepQ]
    rw [hz]; refine ⟨v, new, hid, hq _ xs hxs hext hev, ?_⟩
    have := ih (R ++ [⟨d, v, new⟩]) (by rw [hlen]; omega) (by rw [hlen, hi]) (by rw [hlen]; exact hlr) (by simp only [St.put, hs, List.map_append, List.map_cons, List.map_nil, List.reverse_append, List.reverse_cons, List.reverse_nil, List.nil_append, List.cons_append]) (by simpa [St.put] using ho) (by simpa [St.put] using ht) (by simpa [St.put] using he) (by simpa [St.put] using hnx)
      (by rw [hN]; simp) (by rw [hlen]; exact hdst d v new hd) (snocIds R _ hids hid)
    rw [hlen] at this; exact this
  | skip hd hg h ih =>
    rename_i o rest n i d σc N
    intro R hn hi hl hs ho ht he hnx hN hds hids; obtain ⟨bs, hbs, hT, hlr, ⟨xs, hxs, hev⟩, hext, hgd, hdst⟩ := common o rest n R σc hn hl hs ho hds hids; rw [hT]; simp only [drawF, hd, hgd, hg]
    have hlen : (R ++ [(⟨d, .lit undef, []⟩ : Res)]).length = R.length + 1 := by simp
    have := ih (R ++ [⟨d, .lit undef, []⟩]) (by rw [hlen]; omega) (by rw [hlen, hi]) (by rw [hlen]; exact hlr) (by simp only [St.put, hs, List.map_append, List.map_cons, List.map_nil, List.reverse_append, List.reverse_cons, List.reverse_nil, List.nil_append, List.cons_append]) (by simpa [St.put] using ho) (by simpa [St.put] using ht) (by simpa [St.put] using he) (by simpa [St.put] using hnx)
      (by rw [hN]; simp) (by rw [hlen]; exact hdst d _ [] hd) (snocIds R _ hids (fun p hp => by simp at hp))
    rw [hlen] at this; exact this
theorem fin_end {P : Program} {l : List Oper} {σ : St} {nx : Nat} {Q : St → Prop} {K : Nat} (hnd : (dstsL (l.take K)).Nodup) :
    ∀ (rest : List Oper) (σc : St) (N : List (Nat × Obj)) (R : List Res), R.length = K → l.drop K = rest → σc.slots = (R.map fun r => (r.dst, r.v)).reverse ++ σ.slots → σc.objs = σ.objs → σc.nt = σ.nt → σc.env = σ.env → σc.next = σ.next → N = R.flatMap (·.new) → R.map (·.dst) = dstsL (l.take R.length) → (∀ j r, R[j]? = some r → idsIn (σ.next + 4 * j) r.new) →
      endD P l nx Q rest K σc N → finS P l σ nx Q rest R := by
    intro rest σc N R hRK hl hs ho ht he hnx hN hds hids h
    unfold finS
    unfold endD at h
    have hRnd : (R.map (·.dst)).Nodup := by rw [hds, hRK]; exact hnd
    refine SeqL.weaken (σ' := { σc with next := nx, objs := N ++ σc.objs }) (Wk.sub ?_ ?_ (Nat.le_refl _) ht he) h
    · intro s v hv; simp only [stAll]; simp only [hs] at hv
      by_cases hm : s ∈ R.map (·.dst)
      · obtain ⟨r, hr, rfl⟩ := List.mem_map.1 hm; obtain ⟨j, hj⟩ := List.mem_iff_getElem?.1 hr; rw [find_rev R σ.slots r.dst j r hRnd hj rfl] at hv
        have hnd' : (R.reverse.map (·.dst)).Nodup := by rw [List.map_reverse]; exact nodup_rev hRnd
        have hr' : r ∈ R.reverse := List.mem_reverse.2 hr; obtain ⟨j', hj'⟩ := List.mem_iff_getElem?.1 hr'; have := find_rev R.reverse σ.slots r.dst j' r hnd' hj' rfl; rw [← List.map_reverse, List.reverse_reverse] at this; rw [this]; exact hv
      · rw [find_rev_none R _ s hm] at hv
        have hm' : s ∉ R.reverse.map (·.dst) := by rw [List.map_reverse, List.mem_reverse]; exact hm
        have := find_rev_none R.reverse σ.slots s hm'; rw [← List.map_reverse, List.reverse_reverse] at this; rw [this]; exact hv
    · intro r o hr; simp only [stAll]; rw [← hN, ← ho]; exact hr
theorem late_end {P : Program} {l : List Oper} {σ : St} {nx : Nat} {Q : St → Prop} {T : List (List Bool)} {K : Nat} (hnd : (dstsL (l.take K)).Nodup) (hkb : keysLt σ.next σ.objs = true) :
    ∀ (rest : List Oper) (σc : St) (N : List (Nat × Obj)) (R : List Res), R.length = K → l.drop K = rest → σc.slots = (R.map fun r => (r.dst, r.v)).reverse ++ σ.slots → σc.objs = σ.objs → σc.nt = σ.nt → σc.env = σ.env → σc.next = σ.next → N = R.flatMap (·.new) → R.map (·.dst) = dstsL (l.take R.length) → (∀ j r, R[j]? = some r → idsIn (σ.next + 4 * j) r.new) →
      lateD P l T nx Q rest K σc N → LateOk P l T σ nx K Q rest R := by
  intro rest σc N R hRK hl hs ho ht he hnx hN hds hids h
  have hRnd : (R.map (·.dst)).Nodup := by rw [hds, hRK]; exact hnd
  obtain ⟨oK, rest', t, x, y, r, ri, rj, ob, u, row, cs, h1, h2, h3, h4, h5, h6, h7, h8, h9, h10, h11, h12, h13, h14, h15⟩ := h; rw [hnx] at h13 h14; obtain ⟨j0, q0, e1, e2⟩ := find_flat R r ob (hN ▸ h9); have hin := idsIn_find (hids j0 q0 e1) r ob e2
  have hj0 : (r - σ.next) / 4 = j0 := by omega
  rw [hj0] at h13 h14; refine ⟨oK, rest', r, { ob with rows := ob.rows.set ri (splice row rj cs), cl := ob.cl && closedL cs }, h1, h4, by omega, ?_, ?_, ?_⟩
  · intro i hi hb; rw [List.all_eq_true] at h14; have h16 := h14 i (by simpa using hi); simp only [hb, Bool.false_or, Bool.and_eq_true, Bool.not_eq_true', List.all_eq_true] at h16; obtain ⟨h17, h18⟩ := h16; refine ⟨?_, fun q hq => ?_⟩
    · cases hf : find (objsM ((T[i]?).getD []) R) r with
      | none => rfl
      | some ob' =>
        exfalso
        obtain ⟨m, q, k1, k2, k3⟩ := find_objsM _ R r ob' hf; have := idsIn_find (hids m q k2) r ob' k3
        have hm : m = j0 := by omega
        subst hm
        unfold bit at h17
        rw [List.getD_eq_getElem?_getD, k1] at h17
        cases h17
    · cases hnw : q.new with
      | nil => rfl
      | cons p ps =>
        exfalso
        have hp : p ∈ q.new := by rw [hnw]; simp
        have hpi := hids i q hq p hp
        have hpN : p ∈ N := by
          rw [hN]; exact List.mem_flatMap.2 ⟨q, List.mem_of_getElem? hq, hp⟩
        have h19 := h18 p hpN; rw [show (p.1 - σ.next) / 4 = i by omega] at h19
        simp at h19
  · intro bs hbs
    have hslot : ∀ z, okX (dstsL (l.take K)) ((T[K]?).getD []) z = true → ∀ v, opv σc.slots z = some v → (stD σ nx bs R).ev z = v := by
      intro z hz v hv; have hv' := opv_ev (s := σc.slots) (b := []) (n := 0) (t := 0) (e := 0) hv
      cases z with
      | const c => exact hv'
      | global g => exact hv'
      | func f => exact hv'
      | tmp d =>
        have hev : ∀ τ : St, τ.ev (.tmp d) = τ.get d := fun _ => rfl; rw [hev] at hv' ⊢; rw [← hv']
        unfold St.get
        simp only [stD, hs]
        by_cases hm : d ∈ R.map (·.dst)
        · obtain ⟨q, hq, rfl⟩ := List.mem_map.1 hm; obtain ⟨j, hj⟩ := List.mem_iff_getElem?.1 hq; rw [find_rev R σ.slots q.dst j q hRnd hj rfl]
          have hz' : okT (R.map (·.dst)) ((T[K]?).getD []) q.dst = true := by rw [hds, hRK]; exact hz
          have hb := okT_spec _ _ q.dst hz' hRnd j (by rw [List.getElem?_map, hj]; rfl); have hb2 := hbs j (by unfold bit; rw [List.getD_eq_getElem?_getD, hb]; rfl); rw [find_append, slotsM_find bs R j q hRnd hb2 hj]; rfl
        · rw [find_slotsM_none bs R _ d hm, find_rev_none R _ d hm]
    simp only [List.all_cons, List.all_nil, Bool.and_true, Bool.and_eq_true] at h6; have hx := hslot x h6.1 _ h7; have hy := hslot y h6.2 _ h8
    have hob : find (stD σ nx bs R).objs r = some ob := by
      simp only [stD, find_append]; rw [objsM_find σ.next bs R 0 j0 q0 r ob (fun m q' hq' k o' hk => by have := idsIn_find (hids m q' hq') k o' hk; rw [Nat.zero_add]; exact this) (hbs j0 h13) e1 e2]; rfl
    have hw : Writer P (stD σ nx bs R) oK _ := Writer.store h2 h5 (fun d hd => by rw [h3] at hd; cases hd) (σ' := { (stD σ nx bs R) with objs := (r, { ob with rows := ob.rows.set ri (splice row rj cs), cl := ob.cl && closedL cs }) :: del (stD σ nx bs R).objs r }) (by
      rw [hx, hy]
      simp only [storeAV, hob, Option.bind_some, h10, h11, h12, cond_true])
    intro C E X a hr K' Q' hk; refine hw C E X a hr K' Q' (fun E' X' a' hr' => hk E' X' a' (hr'.sub ?_ ?_ (Nat.le_refl _) rfl rfl))
    · intro s v hv; simp only [h3, St.put]; exact hv
    · intro k o hk'; simp only [h3, St.put, St.over, find_cons] at hk' ⊢
      split at hk'
      · rename_i e; rw [if_pos e]; exact hk'
      · rename_i e
        rw [if_neg e, find_del, if_neg e]; exact hk'
  · have hfe := fin_end (P := P) (nx := nx) (Q := Q) (σ := σ) hnd; refine SeqL.weaken (σ' := { σc with next := nx, objs := (r, { ob with rows := ob.rows.set ri (splice row rj cs), cl := ob.cl && closedL cs }) :: (N ++ σc.objs) }) (Wk.sub ?_ ?_ (Nat.le_refl _) ht he) h15
    · intro s v hv; simp only [St.over, stAll]; simp only [hs] at hv
      by_cases hm : s ∈ R.map (·.dst)
      · obtain ⟨q, hq, rfl⟩ := List.mem_map.1 hm; obtain ⟨j, hj⟩ := List.mem_iff_getElem?.1 hq; rw [find_rev R σ.slots q.dst j q hRnd hj rfl] at hv
        have hnd' : (R.reverse.map (·.dst)).Nodup := by rw [List.map_reverse]; exact nodup_rev hRnd
        have hr' : q ∈ R.reverse := List.mem_reverse.2 hq; obtain ⟨j', hj'⟩ := List.mem_iff_getElem?.1 hr'; have := find_rev R.reverse σ.slots q.dst j' q hnd' hj' rfl; rw [← List.map_reverse, List.reverse_reverse] at this; rw [this]; exact hv
      · rw [find_rev_none R _ s hm] at hv
        have hm' : s ∉ R.reverse.map (·.dst) := by rw [List.map_reverse, List.mem_reverse]; exact hm
        have := find_rev_none R.reverse σ.slots s hm'; rw [← List.map_reverse, List.reverse_reverse] at this; rw [this]; exact hv
    · intro k o hk; simp only [St.over, stAll]; rw [← hN, ← ho]; exact hk
theorem Ev.region_L {P : Program} {s : List (Nat × AV)} {b : List (Nat × Obj)} {n t e : Nat} {Q : Exit → St → Prop} {id : Nat} {l : List Oper} (T : List (List Bool)) (K : Nat)
    (h : ∀ Kt : St → Prop, (∀ σ', Q .normal σ' → Kt σ') → DM P l T (n + 4 * K) (lateD P l T (n + 4 * K) Kt) l K 0 ⟨s, b, n, t, e⟩ []) (hm : P.follows .mixedOrders = true := by exact rfl) (hok : drawOkL l T ⟨s, b, n, t, e⟩ K = true := by exact rfl) (hch : readsChkM l T K = true := by exact rfl) (hTl : Nat.ble K T.length = true := by exact rfl) (hkb : keysLt n b = true := by exact rfl) : Ev P (.region id ⟨l⟩ true) ⟨s, b, n, t, e⟩ Q := by
  have hok' := hok; simp only [drawOkL, Bool.and_eq_true, decide_eq_true_eq, List.all_eq_true] at hok'; obtain ⟨⟨_, hKl⟩, ⟨_, hnd⟩, _⟩ := hok'; refine Ev.drawL T K hm hok (ble_le hTl) fun Kt hKt => ?_; have := DM_F (σ := ⟨s, b, n, t, e⟩) hch hnd (ble_le hTl) (Nat.le_of_lt (Nat.le_of_ble_eq_true hKl)) hkb (late_end hnd hkb) (h Kt hKt) [] (by simp) rfl rfl (by simp) rfl rfl rfl rfl (by simp) rfl (by simp)
  simpa using this
theorem Ev.region_M {P : Program} {s : List (Nat × AV)} {b : List (Nat × Obj)} {n t e : Nat} {Q : Exit → St → Prop} {id : Nat} {l : List Oper} (T : List (List Bool)) (K : Nat)
    (h : ∀ Kt : St → Prop, (∀ σ', Q .normal σ' → Kt σ') → DM P l T (n + 4 * K) (endD P l (n + 4 * K) Kt) l K 0 ⟨s, b, n, t, e⟩ []) (hm : P.follows .mixedOrders = true := by exact rfl) (hok : drawOk l T ⟨s, b, n, t, e⟩ K = true := by exact rfl) (hch : readsChkM l T K = true := by exact rfl) (hTl : Nat.ble K T.length = true := by exact rfl) (hkb : keysLt n b = true := by exact rfl) : Ev P (.region id ⟨l⟩ true) ⟨s, b, n, t, e⟩ Q := by
  have hok' := hok; simp only [drawOk, Bool.and_eq_true, decide_eq_true_eq, List.all_eq_true] at hok'; obtain ⟨⟨_, hKl⟩, ⟨_, hnd⟩, _⟩ := hok'; refine Ev.draw T K hm hok (ble_le hTl) fun Kt hKt => ?_; have := DM_F (σ := ⟨s, b, n, t, e⟩) hch hnd (ble_le hTl) (ble_le hKl) hkb (fin_end hnd) (h Kt hKt) [] (by simp) rfl rfl (by simp) rfl rfl rfl rfl (by simp) rfl (by simp)
  simpa using this
section rules
variable {P : Program} {rest : List Oper} {s : List (Nat × AV)} {b N : List (Nat × Obj)} {n t e K i : Nat} {Q : St → Prop} {F : List Oper → Nat → St → List (Nat × Obj) → Prop} {d ty : Nat} {pos : String} {aft : Array Edge} {g : Option (Nat × Bool)} {op : Op} {l : List Oper} {nx : Nat} {T : List (List Bool)}
variable {x : Operand} {v : AV}
theorem M.o (hq : stepQ P ⟨s, b, n, t, e⟩ (n + 4 * i) op = some (v, [])) (h : DM P l T nx F rest K (i + 1) ⟨(d, v) :: s, b, n, t, e⟩ N) (hg : guardGo (dstsOf ⟨l⟩) ⟨s, b, n, t, e⟩ g = some true := by exact rfl) :
    DM P l T nx F (⟨some d, op, ty, pos, aft, g⟩ :: rest) (K + 1) i ⟨s, b, n, t, e⟩ N := .op rfl hg hq (by rw [List.append_nil]; exact h)
theorem M.bb {c : Bool} (hq : stepQ P ⟨s, b, n, t, e⟩ (n + 4 * i) op = some (.lit (.bool c), [])) (ht : c = true → DM P l T nx F rest K (i + 1) ⟨(d, .lit (.bool true)) :: s, b, n, t, e⟩ N) (hf : c = false → DM P l T nx F rest K (i + 1) ⟨(d, .lit (.bool false)) :: s, b, n, t, e⟩ N)
    (hg : guardGo (dstsOf ⟨l⟩) ⟨s, b, n, t, e⟩ g = some true := by exact rfl) : DM P l T nx F (⟨some d, op, ty, pos, aft, g⟩ :: rest) (K + 1) i ⟨s, b, n, t, e⟩ N := by
  cases c
  · exact M.o hq (hf rfl) hg
  · exact M.o hq (ht rfl) hg
theorem M.bd {p : Prop} [Decidable p] (hq : stepQ P ⟨s, b, n, t, e⟩ (n + 4 * i) op = some (.lit (.bool (decide p)), [])) (ht : p → DM P l T nx F rest K (i + 1) ⟨(d, .lit (.bool true)) :: s, b, n, t, e⟩ N) (hf : ¬ p → DM P l T nx F rest K (i + 1) ⟨(d, .lit (.bool false)) :: s, b, n, t, e⟩ N)
    (hg : guardGo (dstsOf ⟨l⟩) ⟨s, b, n, t, e⟩ g = some true := by exact rfl) : DM P l T nx F (⟨some d, op, ty, pos, aft, g⟩ :: rest) (K + 1) i ⟨s, b, n, t, e⟩ N :=
  M.bb hq (fun h => ht (of_decide_eq_true h)) (fun h => hf (of_decide_eq_false h)) hg
theorem M.bn {p : Prop} [Decidable p] (hq : stepQ P ⟨s, b, n, t, e⟩ (n + 4 * i) op = some (.lit (.bool (!decide p)), [])) (ht : ¬ p → DM P l T nx F rest K (i + 1) ⟨(d, .lit (.bool true)) :: s, b, n, t, e⟩ N) (hf : p → DM P l T nx F rest K (i + 1) ⟨(d, .lit (.bool false)) :: s, b, n, t, e⟩ N)
    (hg : guardGo (dstsOf ⟨l⟩) ⟨s, b, n, t, e⟩ g = some true := by exact rfl) : DM P l T nx F (⟨some d, op, ty, pos, aft, g⟩ :: rest) (K + 1) i ⟨s, b, n, t, e⟩ N :=
  M.bb hq (fun h => ht (by simpa using h)) (fun h => hf (by simpa using h)) hg
theorem M.nn {o : Obj} (N' : List (Nat × Obj)) (hq : stepQ P ⟨s, b, n, t, e⟩ (n + 4 * i) op = some (v, [(n + 4 * i, o)])) (hN : N ++ [(n + 4 * i, o)] = N' := by exact rfl) (hg : guardGo (dstsOf ⟨l⟩) ⟨s, b, n, t, e⟩ g = some true := by exact rfl) (h : DM P l T nx F rest K (i + 1) ⟨(d, v) :: s, b, n, t, e⟩ N') :
    DM P l T nx F (⟨some d, op, ty, pos, aft, g⟩ :: rest) (K + 1) i ⟨s, b, n, t, e⟩ N := .op rfl hg hq (by rw [hN]; exact h)
theorem M.sk (h : DM P l T nx F rest K (i + 1) ⟨(d, .lit undef) :: s, b, n, t, e⟩ N) (hg : guardGo (dstsOf ⟨l⟩) ⟨s, b, n, t, e⟩ g = some false := by exact rfl) : DM P l T nx F (⟨some d, op, ty, pos, aft, g⟩ :: rest) (K + 1) i ⟨s, b, n, t, e⟩ N := .skip rfl hg h
theorem M.end (b' : List (Nat × Obj)) (hb : N ++ b = b' := by exact rfl) (h : SeqL P ⟨l⟩ rest ⟨s, b', nx, t, e⟩ Q) : DM P l T nx (endD P l nx Q) rest 0 i ⟨s, b, n, t, e⟩ N := by
  subst hb; exact .stop h
theorem M.late {st r ri rj c : Nat} {ob : Obj} {u : AV} {row cs : List AV} {x y : Operand} (row' : List AV) (cl' : Bool) (b' : List (Nat × Obj)) (hin : (P.info? st).isSome = true) (hcl : P.cellsOf st = c) (hx : opv s x = some (.adr r ri rj) := by exact rfl) (hy : opv s y = some u := by exact rfl) (ho : find N r = some ob := by exact rfl) (hrow : ob.rows[ri]? = some row := by exact rfl) (hc : cellsAV u = some cs := by exact rfl)
    (hchk : (Nat.ble (rj + cs.length) row.length && Nat.beq cs.length c) = true := by exact rfl) (hsp : splice row rj cs = row' := by exact rfl) (hcl' : (ob.cl && closedL cs) = cl' := by exact rfl) (hok : ([x, y].all (okX (dstsL (l.take i)) ((T[i]?).getD []))) = true := by exact rfl) (hbit : bit T i ((r - n) / 4) = true := by exact rfl)
    (hfree : ((List.range i).all fun j => bit T i j || (!(bit T j ((r - n) / 4)) && N.all fun p => !(Nat.beq ((p.1 - n) / 4) j))) = true := by exact rfl) (hb : (r, { ob with rows := ob.rows.set ri row', cl := cl' }) :: del (N ++ b) r = b' := by exact rfl)
    (h : SeqL P ⟨l⟩ rest ⟨s, b', nx, t, e⟩ Q) : DM P l T nx (lateD P l T nx Q) (⟨none, .store st x y, ty, pos, aft, none⟩ :: rest) 0 i ⟨s, b, n, t, e⟩ N := by
  subst hcl hsp hcl' hb; refine .stop ⟨_, rest, st, x, y, r, ri, rj, ob, u, row, cs, rfl, rfl, rfl, rfl, Option.isSome_iff_exists.1 hin, hok, hx, hy, ho, hrow, hc, hchk, hbit, hfree, ?_⟩; refine SeqL.weaken (σ' := ⟨s, (r, { ob with rows := ob.rows.set ri (splice row rj cs), cl := ob.cl && closedL cs }) :: del (N ++ b) r, nx, t, e⟩) (Wk.sub (fun _ _ h => h) (fun k o hk => ?_) (Nat.le_refl _) rfl rfl) h; simp only [find_cons] at hk ⊢
  split at hk
  · rename_i e; rw [if_pos e]; exact hk
  · rename_i e
    rw [if_neg e]; rw [find_del, if_neg e] at hk; exact hk
theorem M.c0 {as : Array Operand} {ts : Array TypeId} {f : FuncId} {first caps : List AV} {vs : List AV} {v v' : AV} (hc : calleeOf (St.ev ⟨s, b, n, t, e⟩ x) = some (f, first, caps) := by exact rfl) (hv : viewL ⟨s, b, n, t, e⟩ (first ++ (as.toList.map (St.ev ⟨s, b, n, t, e⟩) ++ caps)) = some vs := by exact rfl) (hF : Fun P f vs (Ret v []))
    (hm : closedL (first ++ (as.toList.map (St.ev ⟨s, b, n, t, e⟩) ++ caps)) = true ∨ noShAV v = true := by first | exact .inl rfl | exact .inr rfl) (hl : liftAV 0 v = some v' := by exact rfl)
    (hg : guardGo (dstsOf ⟨l⟩) ⟨s, b, n, t, e⟩ g = some true := by exact rfl) (h : DM P l T nx F rest K (i + 1) ⟨(d, v') :: s, b, n, t, e⟩ N) :
    DM P l T nx F (⟨some d, .call { callee := .value x, args := as, argTypes := ts }, ty, pos, aft, g⟩ :: rest) (K + 1) i ⟨s, b, n, t, e⟩ N := by
  refine .call rfl hg rfl ?_ h; intro σ' xs hxs hob he; simp only [readsM, readsOf, Option.some.injEq] at hxs; subst hxs; have e1 : σ'.ev x = St.ev ⟨s, b, n, t, e⟩ x := he x (by simp); have e2 : as.toList.map σ'.ev = as.toList.map (St.ev ⟨s, b, n, t, e⟩) := List.map_congr_left fun y hy => he y (by simp [hy]); refine Local.call (N := 0) (new := []) rfl (by rw [e1]; exact hc) (by rw [e2]; exact viewL_mono hob hv) hF ?_ hl rfl; rw [e2]
  rcases hm with hm | hm
  · exact .inl hm
  · exact .inr ⟨hm, fun r ob h => by simp [find] at h⟩
end rules
end Go.AM
