/-
  Part 6 of the proof: the abstract machine, proved sound over the model.
  Conditions: none.
-/
import Derived.Test.YtlpgjlnkfgacbaaGreatX5
set_option linter.unusedVariables false
set_option linter.unusedSimpArgs false
set_option linter.unusedSectionVars false
set_option linter.unnecessarySimpa false
namespace Go.AM
def readsOf : Op → Option (List Operand)
  | .move x => some [x]
  | .assign x => some [x]
  | .pick c x y => some [c, x, y]
  | .binOp _ _ x y _ => some [x, y]
  | .unOp _ _ x => some [x]
  | .convert _ _ x => some [x]
  | .makeInterface _ x => some [x]
  | .index _ x i => some [x, i]
  | .load _ x => some [x]
  | .fieldAddr _ x _ => some [x]
  | .field _ x _ => some [x]
  | .indexAddr _ x i => some [x, i]
  | .slice _ x lo hi none => some (x :: lo.toList ++ hi.toList)
  | .build _ parts => some (parts.toList.map (·.2))
  | .makeFunc _ first caps => some (first.toList ++ caps.toList)
  | .extract x _ => some [x]
  | .nilCheck x => some [x]
  | .call { callee := .builtin _, args := as, argTypes := _ } => some as.toList
  | .call { callee := .value x, args := as, argTypes := _ } => some (x :: as.toList)
  | _ => none
theorem cellsFrom_congr {σ σ' : St} (h : σ'.objs = σ.objs) (v : AV) : cellsFrom σ' v = cellsFrom σ v := by
  cases v <;> simp [cellsFrom, h]
theorem loadAV_congr {P : Program} {σ σ' : St} (h : σ'.objs = σ.objs) (t : TypeId) (v : AV) : loadAV P σ' t v = loadAV P σ t v := by
  simp [loadAV, cellsFrom_congr h]
theorem indexAV_congr {σ σ' : St} (h : σ'.objs = σ.objs) (sz : Nat) (v : AV) (n : Int) : indexAV σ' sz v n = indexAV σ sz v n := by
  cases v <;> simp [indexAV, h]
theorem mapRows_congr {σ σ' : St} (h : σ'.objs = σ.objs) (v : AV) : mapRows σ' v = mapRows σ v := by
  cases v <;> simp [mapRows, h]
theorem stepQ_congr {P : Program} {σ σ' : St} {op : Op} {xs : List Operand} (hx : readsOf op = some xs) (ho : σ'.objs = σ.objs) (he : ∀ x ∈ xs, σ'.ev x = σ.ev x) (id id' : Nat) : stepQ P σ' id' op = stepQ P σ id op := by
  cases op <;> try (simp [readsOf] at hx; done)
  case slice t x lo hi mx =>
    cases mx with
    | some m => simp [readsOf] at hx
    | none =>
      simp only [readsOf, Option.some.injEq] at hx; subst hx; have e1 := he x (by simp)
      have e2 : ∀ d, boundAV σ' d lo = boundAV σ d lo := by
        intro d
        cases lo with
        | none => rfl
        | some l => simp [boundAV, he l (by simp)]
      have e3 : ∀ d, boundAV σ' d hi = boundAV σ d hi := by
        intro d
        cases hi with
        | none => rfl
        | some l => simp [boundAV, he l (by simp)]
      have e4 : optVal σ' lo = optVal σ lo := by
        cases lo with
        | none => rfl
        | some l => simp [optVal, he l (by simp)]
      have e5 : optVal σ' hi = optVal σ hi := by
        cases hi with
        | none => rfl
        | some l => simp [optVal, he l (by simp)]
      simp only [stepQ, e1, e2, e3, e4, e5, ho]
  case build t parts =>
    simp only [readsOf, Option.some.injEq] at hx; subst hx
    have : (parts.toList.map fun p => (p.1, σ'.ev p.2)) = parts.toList.map fun p => (p.1, σ.ev p.2) := by
      apply List.map_congr_left
      intro p hp; rw [he p.2 (List.mem_map.2 ⟨p, hp, rfl⟩)]
    simp only [stepQ, this]
  case makeFunc f first caps =>
    simp only [readsOf, Option.some.injEq] at hx; subst hx; have e1 : first.toList.map σ'.ev = first.toList.map σ.ev := List.map_congr_left fun x h => he x (by simp [h]); have e2 : caps.toList.map σ'.ev = caps.toList.map σ.ev := List.map_congr_left fun x h => he x (by simp [h]); simp only [stepQ, e1, e2]
  case call c =>
    obtain ⟨callee, as, ts⟩ := c
    cases callee <;> try (simp [readsOf] at hx; done)
    case builtin b =>
      simp only [readsOf, Option.some.injEq] at hx; subst hx; have e1 : as.toList.map σ'.ev = as.toList.map σ.ev := List.map_congr_left fun x h => he x h; simp only [stepQ]
      cases b <;> simp only [stepBuiltin, e1]
      case len =>
        split
        · rename_i x t h1 h2
          rw [he x (by rw [h1]; simp), mapRows_congr ho]
        · rfl
      case cap =>
        split
        · rename_i x t h1 h2
          rw [he x (by rw [h1]; simp)]
        · rfl
      case unsafeSliceData =>
        split
        · rename_i x h1
          rw [he x (by rw [h1]; simp)]
        · rfl
    case value x => simp [stepQ]
  all_goals
    simp only [readsOf, Option.some.injEq] at hx; subst hx; simp only [List.mem_cons, List.not_mem_nil, or_false, forall_eq_or_imp, forall_eq] at he; simp only [stepQ, he, ho, loadAV_congr ho, indexAV_congr ho]
def okT : List Nat → List Bool → Nat → Bool
  | [], _, _ => true
  | d :: ds, bs, t => bif Nat.beq d t then (match bs with | b :: _ => b | [] => false) else okT ds bs.tail t
def okX (ds : List Nat) (bs : List Bool) : Operand → Bool
  | .tmp t => okT ds bs t
  | _ => true
theorem okT_spec : ∀ (ds : List Nat) (bs : List Bool) (t : Nat), okT ds bs t = true → ds.Nodup → ∀ (j : Nat), ds[j]? = some t → bs[j]? = some true
  | [], _, t, _, _, j, h => by simp at h
  | d :: ds, bs, t, h, hnd, j, hj => by
    simp only [okT] at h; simp only [List.nodup_cons] at hnd
    cases j with
    | zero =>
      simp at hj
      subst hj; rw [Nat.beq_refl] at h; simp only [cond_true] at h
      cases bs with
      | nil => simp at h
      | cons b bs => simp at h; simp [h]
    | succ j =>
      simp at hj
      have hne : Nat.beq d t = false := by
        cases hb : Nat.beq d t with
        | false => rfl
        | true =>
          rw [Nat.beq_eq] at hb; subst hb; exact absurd (List.mem_of_getElem? hj) hnd.1
      rw [hne] at h; simp only [cond_false] at h; have := okT_spec ds bs.tail t h hnd.2 j hj
      cases bs with
      | nil => simp at this
      | cons b bs => simpa using this
def Quiet (P : Program) (σ : St) (o : Oper) (v : AV) : Prop := ∀ σ' xs, readsOf o.op = some xs → σ'.objs = σ.objs → (∀ x ∈ xs, σ'.ev x = σ.ev x) → Local P σ' o v []
def drawS (P : Program) (l : List Oper) (gs : List (Option Nat)) (nx : Nat) (Q : St → Prop) (Fb : List Oper → Nat → St → Prop) : List Oper → Nat → St → Prop
  | rest, 0, σ => SeqL P ⟨l⟩ rest { σ with next := nx } Q
  | [], _ + 1, _ => False
  | o :: rest, n + 1, σ => match o.dst with
    | none => False
    | some d => match guardGo gs σ o.guard with
      | some true => match stepQ P σ 0 o.op with
        | some (v, []) => drawS P l gs nx Q Fb rest n (σ.put (some d) v)
        | some (_, _ :: _) => False
        | none => Fb (o :: rest) n σ
      | some false => drawS P l gs nx Q Fb rest n (σ.put (some d) (.lit undef))
      | none => False
def drawN (P : Program) (l : List Oper) (gs : List (Option Nat)) (nx : Nat) (Q : St → Prop) : Nat → List Oper → Nat → St → Prop
  | 0 => drawS P l gs nx Q fun _ _ _ => False
  | c + 1 => drawS P l gs nx Q fun ops n σ => match ops with
    | [] => False
    | o :: rest => match o.dst with
      | none => False
      | some d => ∃ v, Quiet P σ o v ∧ drawN P l gs nx Q c rest n (σ.put (some d) v)
theorem dstsL_append : ∀ (l m : List Oper), dstsL (l ++ m) = dstsL l ++ dstsL m
  | [], m => rfl
  | o :: l, m => by
    simp only [List.cons_append, dstsL, dstsL_append l m]
    split <;> simp
theorem nodup_rev {α : Type} {l : List α} (h : l.Nodup) : l.reverse.Nodup := List.pairwise_reverse.2 (h.imp fun h e => h e.symm)
theorem find_rev : ∀ (R : List Res) (m : List (Nat × AV)) (t : Nat) (j : Nat) (r : Res), (R.map (·.dst)).Nodup → R[j]? = some r → r.dst = t → find ((R.map fun r => (r.dst, r.v)).reverse ++ m) t = some r.v := by
  intro R m t j r hnd hj hr
  have : ∀ (L : List (Nat × AV)), (L.map (·.1)).Nodup → (r.dst, r.v) ∈ L → find (L ++ m) t = some r.v := by
    intro L
    induction L with
    | nil => intro _ h; simp at h
    | cons p L ih =>
      intro h1 h2; obtain ⟨k, u⟩ := p; rw [List.cons_append, find_cons]; simp only [List.map_cons, List.nodup_cons] at h1
      rcases List.mem_cons.1 h2 with h2 | h2
      · simp only [Prod.mk.injEq] at h2; rw [if_pos (by rw [← h2.1, hr]), h2.2]
      · rw [if_neg]
        · exact ih h1.2 h2
        · intro e; subst e; exact h1.1 (List.mem_map.2 ⟨_, h2, hr⟩)
  apply this
  · rw [List.map_reverse, List.map_map]; exact nodup_rev hnd
  · rw [List.mem_reverse]; exact List.mem_map.2 ⟨r, List.mem_of_getElem? hj, rfl⟩
theorem find_rev_none : ∀ (R : List Res) (m : List (Nat × AV)) (t : Nat), t ∉ R.map (·.dst) → find ((R.map fun r => (r.dst, r.v)).reverse ++ m) t = find m t := by
  intro R m t h; rw [find_append]
  have : ∀ (L : List (Nat × AV)), t ∉ L.map (·.1) → find L t = none := by
    intro L
    induction L with
    | nil => intro _; rfl
    | cons p L ih =>
      intro h; obtain ⟨k, u⟩ := p; simp only [List.map_cons, List.mem_cons, not_or] at h; rw [find_cons, if_neg (fun e => h.1 e.symm)]; exact ih h.2
  rw [this _ (by rw [List.map_reverse, List.mem_reverse, List.map_map]; exact h)]
  simp
theorem find_slotsM_none : ∀ (bs : List Bool) (R : List Res) (m : List (Nat × AV)) (t : Nat), t ∉ R.map (·.dst) → find (slotsM bs R ++ m) t = find m t := by
  intro bs R m t h; rw [find_append]
  cases hf : find (slotsM bs R) t with
  | none => simp
  | some v =>
    obtain ⟨j, r, _, h2, h3, _⟩ := find_slotsM bs R t v hf; exact absurd (List.mem_map.2 ⟨r, List.mem_of_getElem? h2, h3⟩) h
mutual
theorem viewAV_congr {σ σ' : St} (h : σ'.objs = σ.objs) : ∀ v : AV, viewAV σ' v = viewAV σ v
  | .als r lo n => by simp only [viewAV, h]
  | .adr r i j => by simp only [viewAV, h]
  | .agg cs => by simp only [viewAV, viewL_congr h cs]
  | .tup cs => by simp only [viewAV, viewL_congr h cs]
  | .fn f first caps => by simp only [viewAV, viewL_congr h first, viewL_congr h caps]
  | .top => rfl
  | .lit v => rfl
  | .sh s rows => rfl
  | .sadr row j => rfl
  | .hd r => by simp only [viewAV, h]
  | .shm s rows => rfl
  | .rem s la rows => rfl
theorem viewL_congr {σ σ' : St} (h : σ'.objs = σ.objs) : ∀ l : List AV, viewL σ' l = viewL σ l
  | [] => rfl
  | c :: cs => by simp only [viewL, viewAV_congr h c, viewL_congr h cs]
end
theorem Quiet.call {P : Program} {σ : St} {o : Oper} {x : Operand} {as : Array Operand} {ts : Array TypeId} {g : FuncId} {first caps : List AV} {vs : List AV} {v v' : AV}
    (ho : o.op = .call { callee := .value x, args := as, argTypes := ts }) (hc : calleeOf (σ.ev x) = some (g, first, caps)) (hv : viewL σ (first ++ (as.toList.map σ.ev ++ caps)) = some vs) (hF : Fun P g vs (Ret v []))
    (hm : closedL (first ++ (as.toList.map σ.ev ++ caps)) = true ∨ noShAV v = true) (hl1 : liftAV 0 v = some v') : Quiet P σ o v' := by
  intro σ' xs hxs hob he; simp only [ho, readsOf, Option.some.injEq] at hxs; subst hxs; have e1 : σ'.ev x = σ.ev x := he x (by simp); have e2 : as.toList.map σ'.ev = as.toList.map σ.ev := List.map_congr_left fun y hy => he y (by simp [hy]); refine Local.call (N := 0) (new := []) ho (by rw [e1]; exact hc) (by rw [e2, viewL_congr hob]; exact hv) hF ?_ hl1 rfl; rw [e2]
  rcases hm with hm | hm
  · exact .inl hm
  · exact .inr ⟨hm, fun r ob h => by simp [find] at h⟩
section rules
variable (P : Program) (l : List Oper) (ops : Array Oper) (gs : List (Option Nat)) (nx n : Nat) (Q : St → Prop) (Fb : List Oper → Nat → St → Prop) (o : Oper) (rest : List Oper) (σ : St)
theorem drawS_cons : drawS P l gs nx Q Fb (o :: rest) (n + 1) σ = match o.dst with
    | none => False
    | some d => match guardGo gs σ o.guard with
      | some true => match stepQ P σ 0 o.op with
        | some (v, []) => drawS P l gs nx Q Fb rest n (σ.put (some d) v)
        | some (_, _ :: _) => False
        | none => Fb (o :: rest) n σ
      | some false => drawS P l gs nx Q Fb rest n (σ.put (some d) (.lit undef))
      | none => False := rfl
variable (s : List (Nat × AV)) (b : List (Nat × Obj)) (t e d n' : Nat) (v : AV) (new : List (Nat × Obj))
end rules
def opv (s : List (Nat × AV)) : Operand → Option AV
  | .tmp t => find s t
  | .const v => some (.lit v)
  | .global g => some (gAV g)
  | .func f => some (.fn (.func f) [] [])
section rules
variable {P : Program} {ops : Array Oper} {rest : List Oper} {s : List (Nat × AV)} {b : List (Nat × Obj)} {n t e id : Nat} {Q : St → Prop} {d ty : Nat} {pos : String} {aft : Array Edge} {g : Option (Nat × Bool)} {op : Op}
variable {x y z : Operand} {u v w : AV} {k k' : IntKind} {i j : Int}
theorem opv_ev (h : opv s x = some v) : St.ev ⟨s, b, n, t, e⟩ x = v := by
  cases x with
  | tmp r => simp only [opv] at h; simp [St.ev, St.get, h]
  | const z => simpa [opv, St.ev] using h
  | global z => simpa [opv, St.ev] using h
  | func z => simpa [opv, St.ev] using h
theorem S.q (hg : guardGo (dstsOf ops) ⟨s, b, n, t, e⟩ g = some true) (hd : Nat.blt d t = true) (hq : stepQ P ⟨s, b, n, t, e⟩ n op = some (v, [])) (h : SeqL P ops rest ⟨(d, v) :: s, b, n, t, e⟩ Q) :
    SeqL P ops (⟨some d, op, ty, pos, aft, g⟩ :: rest) ⟨s, b, n, t, e⟩ Q := by
  have hw : Writer P ⟨s, b, n, t, e⟩ ⟨some d, op, ty, pos, aft, g⟩ ((⟨s, b, n, t, e⟩ : St).ext (some d) v [] n) := by
    refine Writer.of_local (stepQ_sound hq) (fun d' e => ?_) (fun r o h => by simp [find] at h) (Nat.le_refl _); simp only [Option.some.injEq] at e; subst e; exact Nat.le_of_ble_eq_true hd
  exact SeqL.write hg hw h
theorem S.new {o : Obj} (hq : stepQ P ⟨s, b, n, t, e⟩ n op = some (v, [(n, o)])) (hg : guardGo (dstsOf ops) ⟨s, b, n, t, e⟩ g = some true) (hd : Nat.blt d t = true) (h : SeqL P ops rest ⟨(d, v) :: s, (n, o) :: b, n + 1, t, e⟩ Q) :
    SeqL P ops (⟨some d, op, ty, pos, aft, g⟩ :: rest) ⟨s, b, n, t, e⟩ Q := by
  have hw : Writer P ⟨s, b, n, t, e⟩ ⟨some d, op, ty, pos, aft, g⟩ ((⟨s, b, n, t, e⟩ : St).ext (some d) v [(n, o)] (n + 1)) := by
    refine Writer.of_local (stepQ_sound hq) (fun d' e => ?_) (fun r o h => ?_) (Nat.le_succ _)
    · simp only [Option.some.injEq] at e; subst e; exact Nat.le_of_ble_eq_true hd
    · rw [find_cons] at h
      split at h
      · show n ≤ r ∧ r < n + 1; omega
      · simp [find] at h
  exact SeqL.write hg hw h
theorem S.skip (hg : guardGo (dstsOf ops) ⟨s, b, n, t, e⟩ g = some false) (hd : Nat.blt d t = true) (h : SeqL P ops rest ⟨(d, (.lit undef)) :: s, b, n, t, e⟩ Q) : SeqL P ops (⟨some d, op, ty, pos, aft, g⟩ :: rest) ⟨s, b, n, t, e⟩ Q := by
  refine SeqL.skip hg (fun d' e => ?_) h; simp only [Option.some.injEq] at e; subst e; exact Nat.le_of_ble_eq_true hd
theorem S.end (h : Q ⟨s, b, n, t, e⟩) : SeqL P ops [] ⟨s, b, n, t, e⟩ Q := SeqL.nil h
theorem S.st {r ri rj c st : Nat} {slc : Bool} {el sz : Nat} {rows rows' : List (List AV)} {cl cl' : Bool} {row row' cs : List AV} {b' : List (Nat × Obj)} (hg : guardGo (dstsOf ops) ⟨s, b, n, t, e⟩ g = some true) (hin : (P.info? st).isSome = true)
    (hcl : P.cellsOf st = c) (hx : opv s x = some (.adr r ri rj)) (hy : opv s y = some u) (ho : find b r = some ⟨slc, el, sz, rows, cl⟩) (hrow : rows[ri]? = some row) (hc : cellsAV u = some cs)
    (hchk : (Nat.ble (rj + cs.length) row.length && Nat.beq cs.length c) = true) (hsp : splice row rj cs = row') (hset : rows.set ri row' = rows') (hcl' : (cl && closedL cs) = cl') (hdel : del b r = b')
    (h : SeqL P ops rest ⟨s, (r, ⟨slc, el, sz, rows', cl'⟩) :: b', n, t, e⟩ Q) : SeqL P ops (⟨none, .store st x y, ty, pos, aft, g⟩ :: rest) ⟨s, b, n, t, e⟩ Q := by
  subst hsp hset hcl' hdel; refine SeqL.write hg (stepO_sound rfl (σ' := ⟨s, (r, ⟨slc, el, sz, rows.set ri (splice row rj cs), cl && closedL cs⟩) :: del b r, n, t, e⟩) ?_) h; simp only [stepO, hin, cond_true, opv_ev hx, opv_ev hy, storeAV, ho, Option.bind_some, hrow, hc, hcl, hchk, Option.map_some]; rfl
theorem S.ap {st el c : Nat} {zs : List AV} {hr0 : Option Nat} {rows1 rows2 rows : List (List AV)} {c1 c2 cl' : Bool} {by' : Nat} {b' : List (Nat × Obj)} {m : Nat} (hg : guardGo (dstsOf ops) ⟨s, b, n, t, e⟩ g = some true) (hd : Nat.blt d t = true)
    (hel : elemOfSlice P st = some el) (hze : zeroCellsAV P el = some zs) (hcl : P.cellsOf el = c) (hby : P.bytesOf el = by') (hz : (Nat.beq zs.length c && !Nat.beq c 0) = true)
    (hx : opv s x = some u) (hy : opv s y = some v) (hh : headAV ⟨s, b, n, t, e⟩ el c u = some (hr0, rows1, c1)) (hr : rowsAV ⟨s, b, n, t, e⟩ v = some (c, rows2, c2)) (hw : withinB ⟨s, b, n, t, e⟩ v = true)
    (hlen : rows1.length + rows2.length = m) (hm1 : m * by' ≤ 140737488355328) (hm2 : m ≤ 140737488355328) (hrs : rows1 ++ rows2 = rows) (hcl' : (c1 && c2) = cl') (hb' : St.drop1 ⟨s, b, n, t, e⟩ hr0 = b')
    (h : SeqL P ops rest ⟨(d, .als n 0 m) :: s, (n, ⟨true, el, c, rows, cl'⟩) :: b', n + 1, t, e⟩ Q) :
    SeqL P ops (⟨some d, .call { callee := .builtin .append, args := #[x, y], argTypes := #[st, st] }, ty, pos, aft, g⟩ :: rest) ⟨s, b, n, t, e⟩ Q := by
  subst hrs hcl' hb' hlen; have hd' : dstOk ⟨s, b, n, t, e⟩ (some d) = true := hd; refine SeqL.write hg (stepO_sound hd' (σ' := ⟨(d, .als n 0 (rows1.length + rows2.length)) :: s, (n, ⟨true, el, c, rows1 ++ rows2, c1 && c2⟩) :: St.drop1 ⟨s, b, n, t, e⟩ hr0, n + 1, t, e⟩) ?_) h
  have e1 : Nat.ble ((rows1.length + rows2.length) * by') 140737488355328 = true := by rw [Nat.ble_eq]; exact hm1
  have e2 : Nat.ble (rows1.length + rows2.length) 140737488355328 = true := by rw [Nat.ble_eq]; exact hm2
  simp only [Bool.and_eq_true] at hz; simp only [stepO, stepAppend, Nat.beq_refl, Bool.true_and, opv_ev hx, opv_ev hy, hw, cond_true, appendAV, hel, Option.bind_some, hze, hcl, hby, hh, hr, hz.1, hz.2, e1, e2, Bool.and_self, Bool.and_true]; rfl
section draws
variable {l : List Oper} {gs : List (Option Nat)} {nx K c : Nat} {Fb : List Oper → Nat → St → Prop}
def DN (P : Program) (l : List Oper) (gs : List (Option Nat)) (nx : Nat) (Q : St → Prop) (c : Nat) (rest : List Oper) (K : Nat) (σ : St) : Prop := drawN P l gs nx Q c rest K σ
theorem D.skip (hg : guardGo gs ⟨s, b, n, t, e⟩ g = some false) (h : DN P l gs nx Q c rest K ⟨(d, (.lit undef)) :: s, b, n, t, e⟩) :
    DN P l gs nx Q c (⟨some d, op, ty, pos, aft, g⟩ :: rest) (K + 1) ⟨s, b, n, t, e⟩ := by
  unfold DN at h ⊢
  cases c <;> (simp only [drawN, drawS_cons, hg] at h ⊢; exact h)
theorem D.call {as : Array Operand} {ts : Array TypeId} (hg : guardGo gs ⟨s, b, n, t, e⟩ g = some true) (hq : Quiet P ⟨s, b, n, t, e⟩ ⟨some d, .call { callee := .value x, args := as, argTypes := ts }, ty, pos, aft, g⟩ v) (h : DN P l gs nx Q c rest K ⟨(d, v) :: s, b, n, t, e⟩) :
    DN P l gs nx Q (c + 1) (⟨some d, .call { callee := .value x, args := as, argTypes := ts }, ty, pos, aft, g⟩ :: rest) (K + 1) ⟨s, b, n, t, e⟩ := by
  unfold DN at h ⊢
  simp only [drawN, drawS_cons, hg, stepQ]; exact ⟨v, hq, h⟩
end draws
theorem q_move (hx : opv s x = some v) : stepQ P ⟨s, b, n, t, e⟩ id (.move x) = some (v, []) := by simp only [stepQ, opv_ev hx]
theorem q_assign (hx : opv s x = some v) : stepQ P ⟨s, b, n, t, e⟩ id (.assign x) = some (v, []) := by simp only [stepQ, opv_ev hx]
theorem q_pick_t (hz : opv s z = some (.lit (.bool true))) (hx : opv s x = some v) : stepQ P ⟨s, b, n, t, e⟩ id (.pick z x y) = some (v, []) := by simp only [stepQ, opv_ev hz, opv_ev hx, if_true]
theorem q_pick_f (hz : opv s z = some (.lit (.bool false))) (hy : opv s y = some v) : stepQ P ⟨s, b, n, t, e⟩ id (.pick z x y) = some (v, []) := by simp only [stepQ, opv_ev hz, opv_ev hy, Bool.false_eq_true, if_false]
variable {r ri rj rj' : Nat}
theorem q_lss (hx : opv s x = some (.lit (.int k i))) (hy : opv s y = some (.lit (.int k j))) : stepQ P ⟨s, b, n, t, e⟩ id (.binOp .lss ty x y d) = some (.lit (.bool (decide (i < j))), []) := by simp only [stepQ, opv_ev hx, opv_ev hy, toVal, bin_lss, lits, Option.map_some]
theorem q_leq (hx : opv s x = some (.lit (.int k i))) (hy : opv s y = some (.lit (.int k j))) : stepQ P ⟨s, b, n, t, e⟩ id (.binOp .leq ty x y d) = some (.lit (.bool (decide (i ≤ j))), []) := by simp only [stepQ, opv_ev hx, opv_ev hy, toVal, bin_leq, lits, Option.map_some]
theorem q_gtr (hx : opv s x = some (.lit (.int k i))) (hy : opv s y = some (.lit (.int k j))) : stepQ P ⟨s, b, n, t, e⟩ id (.binOp .gtr ty x y d) = some (.lit (.bool (decide (j < i))), []) := by simp only [stepQ, opv_ev hx, opv_ev hy, toVal, bin_gtr, lits, Option.map_some]
theorem q_geq (hx : opv s x = some (.lit (.int k i))) (hy : opv s y = some (.lit (.int k j))) : stepQ P ⟨s, b, n, t, e⟩ id (.binOp .geq ty x y d) = some (.lit (.bool (decide (j ≤ i))), []) := by simp only [stepQ, opv_ev hx, opv_ev hy, toVal, bin_geq, lits, Option.map_some]
theorem q_eql (hx : opv s x = some (.lit (.int k i))) (hy : opv s y = some (.lit (.int k j))) : stepQ P ⟨s, b, n, t, e⟩ id (.binOp .eql ty x y d) = some (.lit (.bool (decide (i = j))), []) := by simp only [stepQ, opv_ev hx, opv_ev hy, toVal, bin_eql, lits, Option.map_some]
theorem q_neq (hx : opv s x = some (.lit (.int k i))) (hy : opv s y = some (.lit (.int k j))) : stepQ P ⟨s, b, n, t, e⟩ id (.binOp .neq ty x y d) = some (.lit (.bool (!decide (i = j))), []) := by simp only [stepQ, opv_ev hx, opv_ev hy, toVal, bin_neq, lits, Option.map_some]
theorem q_add (hx : opv s x = some (.lit (.int .i64 i))) (hy : opv s y = some (.lit (.int .i64 j))) (h1 : -9223372036854775808 ≤ i + j) (h2 : i + j ≤ 9223372036854775807) : stepQ P ⟨s, b, n, t, e⟩ id (.binOp .add ty x y d) = some (.lit (.int .i64 (i + j)), []) := by simp only [stepQ, opv_ev hx, opv_ev hy, toVal, bin_add, lits, Option.map_some, wrap_i64 h1 h2]
theorem q_sub (hx : opv s x = some (.lit (.int .i64 i))) (hy : opv s y = some (.lit (.int .i64 j))) (h1 : -9223372036854775808 ≤ i - j) (h2 : i - j ≤ 9223372036854775807) : stepQ P ⟨s, b, n, t, e⟩ id (.binOp .sub ty x y d) = some (.lit (.int .i64 (i - j)), []) := by simp only [stepQ, opv_ev hx, opv_ev hy, toVal, bin_sub, lits, Option.map_some, wrap_i64 h1 h2]
theorem q_mul (hx : opv s x = some (.lit (.int .i64 i))) (hy : opv s y = some (.lit (.int .i64 j))) (h1 : -9223372036854775808 ≤ i * j) (h2 : i * j ≤ 9223372036854775807) : stepQ P ⟨s, b, n, t, e⟩ id (.binOp .mul ty x y d) = some (.lit (.int .i64 (i * j)), []) := by simp only [stepQ, opv_ev hx, opv_ev hy, toVal, bin_mul, lits, Option.map_some, wrap_i64 h1 h2]
theorem q_quo (hx : opv s x = some (.lit (.int .i64 i))) (hy : opv s y = some (.lit (.int .i64 j))) (h1 : 0 ≤ i) (h2 : i ≤ 9223372036854775807) (h3 : 0 < j) : stepQ P ⟨s, b, n, t, e⟩ id (.binOp .quo ty x y d) = some (.lit (.int .i64 (i / j)), []) := by
  have h4 : 0 ≤ i / j := Int.ediv_nonneg h1 (by omega); have h5 : i / j ≤ i := Int.ediv_le_self j h1; simp only [stepQ, opv_ev hx, opv_ev hy, toVal, bin_quo _ _ _ _ _ _ _ (show j ≠ 0 by omega), lits, Option.map_some, tdiv_nn h1, wrap_i64 (show -9223372036854775808 ≤ i / j by omega) (show i / j ≤ 9223372036854775807 by omega)]
theorem q_neg (hx : opv s x = some (.lit (.int .i64 i))) (h1 : -9223372036854775808 ≤ 0 - i) (h2 : 0 - i ≤ 9223372036854775807) : stepQ P ⟨s, b, n, t, e⟩ id (.unOp .neg ty x) = some (.lit (.int .i64 (0 - i)), []) := by simp only [stepQ, opv_ev hx, toVal, Option.bind_some, una_neg, lits, Option.map_some, wrap_i64 h1 h2]
theorem q_not {c : Bool} (hx : opv s x = some (.lit (.bool c))) : stepQ P ⟨s, b, n, t, e⟩ id (.unOp .not ty x) = some (.lit (.bool (!c)), []) := by simp only [stepQ, opv_ev hx, toVal, Option.bind_some, una_not, lits, Option.map_some]
theorem q_max {ts : Array TypeId} (hx : opv s x = some (.lit (.int k i))) (hy : opv s y = some (.lit (.int k j))) : stepQ P ⟨s, b, n, t, e⟩ id (.call { callee := .builtin .max, args := #[x, y], argTypes := ts }) = some (.lit (.int k (max i j)), []) := by
  simp only [stepQ, stepBuiltin, List.map_cons, List.map_nil, opv_ev hx, opv_ev hy, toVals, toVal, Option.bind_some, maxV_int, lits, Option.map_some]
theorem q_min {ts : Array TypeId} (hx : opv s x = some (.lit (.int k i))) (hy : opv s y = some (.lit (.int k j))) : stepQ P ⟨s, b, n, t, e⟩ id (.call { callee := .builtin .min, args := #[x, y], argTypes := ts }) = some (.lit (.int k (min i j)), []) := by
  simp only [stepQ, stepBuiltin, List.map_cons, List.map_nil, opv_ev hx, opv_ev hy, toVals, toVal, Option.bind_some, minV_int, lits, Option.map_some]
theorem q_len {st el m : Nat} (he : elemOfSlice P st = some el) (hx : opv s x = some u) (hl : lenAV u = some m) : stepQ P ⟨s, b, n, t, e⟩ id (.call { callee := .builtin .len, args := #[x], argTypes := #[st] }) = some (.lit (.int .i64 (m : Int)), []) := by
  simp only [stepQ, stepBuiltin, he, opv_ev hx, hl, Option.map_some]
theorem q_conv {sd dd : TypeId} (hd : P.underlying dd = some (.int k')) (hs : (P.underlying sd).isSome = true) (hx : opv s x = some (.lit (.int k i))) (hw : k'.wrap i = j) : stepQ P ⟨s, b, n, t, e⟩ id (.convert sd dd x) = some (.lit (.int k' j), []) := by
  simp only [stepQ, opv_ev hx, toVal, Option.bind_some, conv_int P k i sd dd k' hd hs, lits, Option.map_some, hw]
theorem q_load1 {lt : Nat} {cs : List AV} (ha : isAggT P lt = some false) (hx : opv s x = some u) (hc : cellsFrom ⟨s, b, n, t, e⟩ u = some (v :: cs)) : stepQ P ⟨s, b, n, t, e⟩ id (.load lt x) = some (v, []) := by simp only [stepQ, opv_ev hx, loadAV, ha, hc, vals, Option.map_some]
theorem q_loadA {lt c : Nat} {cs cs' : List AV} (ha : isAggT P lt = some true) (hcl : P.cellsOf lt = c) (hx : opv s x = some u) (hc : cellsFrom ⟨s, b, n, t, e⟩ u = some cs) (hl : Nat.ble c cs.length = true) (ht : cs.take c = cs') : stepQ P ⟨s, b, n, t, e⟩ id (.load lt x) = some (.agg cs', []) := by
  subst ht; simp only [stepQ, opv_ev hx, loadAV, ha, hc, hcl, hl, cond_true, vals, Option.map_some]
theorem q_fa {st f off ft c : Nat} (hf : fieldOf P st f = some (off, ft)) (hcl : P.cellsOf ft = c) (hc : Nat.beq c 0 = false) (hx : opv s x = some (.adr r ri rj)) (hj : rj + off = rj') : stepQ P ⟨s, b, n, t, e⟩ id (.fieldAddr st x f) = some (.adr r ri rj', []) := by
  subst hj; simp only [stepQ, hf, Option.bind_some, hcl, hc, cond_false, opv_ev hx, shift, vals, Option.map_some]
theorem q_fas {st f off ft c : Nat} {row : List AV} (hf : fieldOf P st f = some (off, ft)) (hcl : P.cellsOf ft = c) (hc : Nat.beq c 0 = false) (hx : opv s x = some (.sadr row rj)) (hj : rj + off = rj') : stepQ P ⟨s, b, n, t, e⟩ id (.fieldAddr st x f) = some (.sadr row rj', []) := by
  subst hj; simp only [stepQ, hf, Option.bind_some, hcl, hc, cond_false, opv_ev hx, shift, vals, Option.map_some]
theorem q_ia {st el c m lo m' : Nat} {o : Obj} (hel : elemOfSlice P st = some el) (hcl : P.cellsOf el = c) (hc : Nat.beq c 0 = false) (hx : opv s x = some (.als r lo m)) (hy : opv s y = some (.lit (.int k i))) (ho : find b r = some o) (hsz : o.sz = c) (h0 : 0 ≤ i) (h1 : i < m) (hm : lo + i.toNat = m') : stepQ P ⟨s, b, n, t, e⟩ id (.indexAddr st x y) = some (.adr r m' 0, []) := by
  subst hm hsz; simp only [stepQ, opv_ev hy, hel, hcl, hc, cond_false, opv_ev hx, indexAV, ho, Option.bind_some, Nat.beq_refl, cond_true, h0, h1, and_self, if_true, vals, Option.map_some]
theorem q_ias {st el c : Nat} {rows : List (List AV)} {row : List AV} (hel : elemOfSlice P st = some el) (hcl : P.cellsOf el = c) (hc : Nat.beq c 0 = false) (hx : opv s x = some (.sh c rows)) (hy : opv s y = some (.lit (.int k i))) (h0 : 0 ≤ i) (hr : rows[i.toNat]? = some row) : stepQ P ⟨s, b, n, t, e⟩ id (.indexAddr st x y) = some (.sadr row 0, []) := by
  simp only [stepQ, opv_ev hy, hel, Option.bind_some, hcl, hc, cond_false, opv_ev hx, indexAV, Nat.beq_refl, cond_true, h0, if_true, hr, vals, Option.map_some]
theorem q_alloc {at' : Nat} {cs : List AV} {c : Nat} (hz : zeroCellsAV P at' = some cs) (hc : cs.length = c) : stepQ P ⟨s, b, n, t, e⟩ id (.alloc at') = some (.adr id 0 0, [(id, ⟨false, at', c, [cs], true⟩)]) := by
  subst hc; simp only [stepQ, hz, Option.map_some]
theorem q_box {bt : Nat} {cs : List AV} {c : Nat} {cl : Bool} (hx : opv s x = some u) (hc : cellsAV u = some cs) (hl : cs.length = c) (hcl : closedL cs = cl) : stepQ P ⟨s, b, n, t, e⟩ id (.box bt x) = some (.adr id 0 0, [(id, ⟨false, bt, c, [cs], cl⟩)]) := by
  subst hl hcl; simp only [stepQ, opv_ev hx, hc, Option.map_some]
theorem q_extract {c : Nat} {vs : List AV} (hx : opv s x = some (.tup vs)) (hv : vs[c]? = some v) : stepQ P ⟨s, b, n, t, e⟩ id (.extract x c) = some (v, []) := by simp only [stepQ, opv_ev hx, hv, vals, Option.map_some]
def opvs (s : List (Nat × AV)) : List (Nat × Operand) → Option (List (Nat × AV))
  | [] => some []
  | p :: l => match opv s p.2, opvs s l with
    | some v, some vs => some ((p.1, v) :: vs)
    | _, _ => none
theorem opvs_ev : ∀ {l : List (Nat × Operand)} {vs : List (Nat × AV)}, opvs s l = some vs → (l.map fun p => (p.1, St.ev ⟨s, b, n, t, e⟩ p.2)) = vs
  | [], vs, h => by simp only [opvs, Option.some.injEq] at h; simp [h]
  | p :: l, vs, h => by
    simp only [opvs] at h
    split at h
    · rename_i v vs' h1 h2
      simp only [Option.some.injEq] at h; subst h; rw [List.map_cons, opv_ev h1, opvs_ev h2]
    · cases h
def opvl (s : List (Nat × AV)) : List Operand → Option (List AV)
  | [] => some []
  | x :: l => match opv s x, opvl s l with
    | some v, some vs => some (v :: vs)
    | _, _ => none
theorem opvl_ev : ∀ {l : List Operand} {vs : List AV}, opvl s l = some vs → l.map (St.ev ⟨s, b, n, t, e⟩) = vs
  | [], vs, h => by simp only [opvl, Option.some.injEq] at h; simp [h]
  | x :: l, vs, h => by
    simp only [opvl] at h
    split at h
    · rename_i v vs' h1 h2
      simp only [Option.some.injEq] at h; subst h; rw [List.map_cons, opv_ev h1, opvl_ev h2]
    · cases h
theorem q_build {bt : Nat} {parts : List (Nat × Operand)} {zs cs : List AV} {pl : List (Nat × Nat)} {vs : List (Nat × AV)} (hz : zeroCellsAV P bt = some zs) (hpl : placesL P bt = some pl) (hp : opvs s parts = some vs) (hf : fillAV (fun i => pl[i]?) zs vs = some cs) : stepQ P ⟨s, b, n, t, e⟩ id (.build bt ⟨parts⟩) = some (.agg cs, []) := by
  simp only [stepQ, placesG, hz, hpl, Option.bind_some, opvs_ev hp, hf, Option.map_some, vals]
theorem q_builda {bt el len c : Nat} {parts : List (Nat × Operand)} {zs cs : List AV} {vs : List (Nat × AV)} (hz : zeroCellsAV P bt = some zs) (hpl : placesL P bt = none) (har : arrOf P bt = some (len, el)) (hcl : P.cellsOf el = c) (hc : Nat.beq c 0 = false) (hp : opvs s parts = some vs) (hf : fillAV (fun k => some (k * c, c)) zs vs = some cs) : stepQ P ⟨s, b, n, t, e⟩ id (.build bt ⟨parts⟩) = some (.agg cs, []) := by
  simp only [stepQ, placesG, hz, hpl, har, hcl, hc, cond_false, Option.bind_some, opvs_ev hp, hf, Option.map_some, vals]
theorem q_iaa {st el len c : Nat} (hel : elemOfSlice P st = none) (har : arrOf P st = some (len, el)) (hcl : P.cellsOf el = c) (hc : Nat.beq c 0 = false) (hx : opv s x = some (.adr r ri rj)) (hy : opv s y = some (.lit (.int k i))) (h0 : 0 ≤ i) (h1 : i < len) (hj : rj + i.toNat * c = rj') : stepQ P ⟨s, b, n, t, e⟩ id (.indexAddr st x y) = some (.adr r ri rj', []) := by
  subst hj; simp only [stepQ, opv_ev hy, hel, arrAV, har, Option.bind_some, hcl, hc, cond_false, opv_ev hx, h0, h1, and_self, if_true, shift, vals, Option.map_some]
theorem q_buildSlice {bt el len c : Nat} {parts : List (Nat × Operand)} {zs : List AV} {rows : List (List AV)} {vs : List (Nat × AV)} {cl : Bool} (hel : elemOfSlice P bt = some el) (hz : zeroCellsAV P el = some zs) (hcl : P.cellsOf el = c) (hp : opvs s parts = some vs) (hr : rowsOf c 0 vs = some rows) (hc : (Nat.beq zs.length c && !Nat.beq c 0 && Nat.beq rows.length len && Nat.ble (len * c) 16777216) = true) (hcc : closedR rows = cl) : stepQ P ⟨s, b, n, t, e⟩ id (.buildSlice bt len ⟨parts⟩) = some (.als id 0 len, [(id, ⟨true, el, c, rows, cl⟩)]) := by
  subst hcc; simp only [stepQ, hel, Option.bind_some, hz, hcl, opvs_ev hp, hr, hc, cond_true]
theorem q_makeFunc {f : Fn} {first caps : List Operand} {vs ws : List AV} (h1 : opvl s first = some vs) (h2 : opvl s caps = some ws) : stepQ P ⟨s, b, n, t, e⟩ id (.makeFunc f ⟨first⟩ ⟨caps⟩) = some (.fn f vs ws, []) := by simp only [stepQ, opvl_ev h1, opvl_ev h2]
def bndv (s : List (Nat × AV)) (d : Nat) : Option Operand → Option Int
  | none => some d
  | some x => match opv s x with
    | some (.lit (.int _ n)) => some n
    | _ => none
theorem bndv_ev {dd m : Nat} {z : Int} {xo : Option Operand} (h : bndv s dd xo = some z) (h0 : 0 ≤ z) (hm : z.toNat = m) : boundAV ⟨s, b, n, t, e⟩ dd xo = some m := by
  subst hm
  cases xo with
  | none => simp only [bndv, Option.some.injEq] at h; subst h; simp [boundAV]
  | some x =>
    simp only [bndv] at h
    split at h
    · rename_i k' n' hx
      simp only [Option.some.injEq] at h; subst h; simp only [boundAV, opv_ev hx, h0, if_true]
    · cases h
theorem q_slice {st el c lo0 m l' h' : Nat} {zl zh : Int} {lo hi : Option Operand} {o : Obj} {lo1 m1 : Nat} (hel : elemOfSlice P st = some el) (hcl : P.cellsOf el = c) (hc : Nat.beq c 0 = false) (hx : opv s x = some (.als r lo0 m)) (hlo : bndv s 0 lo = some zl) (hhi : bndv s m hi = some zh) (h0 : 0 ≤ zl) (h1 : zl ≤ zh) (h2 : zh ≤ m) (ho : find b r = some o) (hsz : o.sz = c) (e1 : lo0 + zl.toNat = lo1) (e2 : zh.toNat - zl.toNat = m1) : stepQ P ⟨s, b, n, t, e⟩ id (.slice st x lo hi none) = some (.als r lo1 m1, []) := by
  subst e1 e2 hsz
  have hh : zl.toNat ≤ zh.toNat ∧ zh.toNat ≤ m := by omega
  simp only [stepQ, hel, hcl, hc, cond_false, opv_ev hx, lenAV, Option.bind_some, bndv_ev hlo h0 rfl, bndv_ev hhi (by omega) rfl, ho, Nat.beq_refl, cond_true, sliceAV, hh, and_self, if_true, vals, Option.map_some]
theorem q_slices {st el c l' h' : Nat} {zl zh : Int} {lo hi : Option Operand} {rows rows' : List (List AV)} (hel : elemOfSlice P st = some el) (hcl : P.cellsOf el = c) (hc : Nat.beq c 0 = false) (hx : opv s x = some (.sh c rows)) (hlo : bndv s 0 lo = some zl) (hhi : bndv s rows.length hi = some zh) (h0 : 0 ≤ zl) (h1 : zl ≤ zh) (h2 : zh ≤ rows.length) (e1 : (rows.drop zl.toNat).take (zh.toNat - zl.toNat) = rows') : stepQ P ⟨s, b, n, t, e⟩ id (.slice st x lo hi none) = some (.sh c rows', []) := by
  subst e1
  have hh : zl.toNat ≤ zh.toNat ∧ zh.toNat ≤ rows.length := by omega
  simp only [stepQ, hel, hcl, hc, cond_false, opv_ev hx, lenAV, Option.bind_some, bndv_ev hlo h0 rfl, bndv_ev hhi (by omega) rfl, Nat.beq_refl, cond_true, sliceAV, hh, and_self, if_true, vals, Option.map_some]
theorem cells_adr {o : Obj} {row row' : List AV} (ho : find b r = some o) (hr : o.rows[ri]? = some row) (hd : row.drop rj = row') : cellsFrom ⟨s, b, n, t, e⟩ (.adr r ri rj) = some row' := by simp [cellsFrom, ho, hr, hd]
theorem cells_sadr {row row' : List AV} (hd : row.drop rj = row') : cellsFrom ⟨s, b, n, t, e⟩ (.sadr row rj) = some row' := by simp [cellsFrom, hd]
theorem Ev.region_S {P : Program} {σ : St} {Q : Exit → St → Prop} {id : Nat} {l : List Oper} (h : ∀ K : St → Prop, (∀ σ', Q .normal σ' → K σ') → SeqL P ⟨l⟩ l σ K) : Ev P (.region id ⟨l⟩ false) σ Q := Ev.region_k h
theorem fresh1 {m r : Nat} {o ob : Obj} (h : find [(m, o)] r = some ob) : r < m + 1 := by
  rw [find_cons] at h
  split at h
  · omega
  · simp [find] at h
theorem head_own {el c m : Nat} {rows : List (List AV)} {cl : Bool} (ho : find b r = some ⟨true, el, c, rows, cl⟩) (hm : rows.length = m) : headAV ⟨s, b, n, t, e⟩ el c (.als r 0 m) = some (some r, rows, cl) := by
  subst hm
  simp [headAV, ho, Nat.beq_refl]
theorem rows_own {slc : Bool} {el c m : Nat} {rows : List (List AV)} {cl : Bool} (ho : find b r = some ⟨slc, el, c, rows, cl⟩) (hm : rows.length = m) : rowsAV ⟨s, b, n, t, e⟩ (.als r 0 m) = some (c, rows, cl) := by
  subst hm
  simp [rowsAV, ho]
theorem within_own {slc : Bool} {el c m : Nat} {rows : List (List AV)} {cl : Bool} (ho : find b r = some ⟨slc, el, c, rows, cl⟩) (hm : rows.length = m) : withinB ⟨s, b, n, t, e⟩ (.als r 0 m) = true := by
  subst hm
  simp [withinB, ho, ble_dec]
end rules
def St.over (σ : St) (r : Nat) (o : Obj) : St := { σ with objs := (r, o) :: σ.objs }
section late
variable {P : Program} {l : List Oper} {T : List (List Bool)} {K : Nat}
theorem slots_step {σ : St} {nx : Nat} {R : List Res} {listed : Array Bool} {i : Nat} {ri : Res} (hnd : (R.map (·.dst)).Nodup) (hRi : R[i]? = some ri) (hlt : i < listed.size) :
    ∀ s v, find (stM σ (R.map (·.dst)) nx (bitsOf K (listed.setIfInBounds i true)) R).slots s = some v → find ((ri.dst, ri.v) :: (stM σ (R.map (·.dst)) nx (bitsOf K listed) R).slots) s = some v := by
  have hbn : ∀ j : Nat, (bitsOf K (listed.setIfInBounds i true))[j]? = some true → j = i ∨ (bitsOf K listed)[j]? = some true := by
    intro j hj; obtain ⟨g1, g2⟩ := bitsOf_get.1 hj; rw [getD_set hlt] at g2
    by_cases e : i = j
    · exact .inl e.symm
    · rw [if_neg e] at g2; exact .inr (bitsOf_get.2 ⟨g1, g2⟩)
  intro s v hv; simp only [stM] at hv ⊢; rw [find_cons]; rw [find_append] at hv
  cases g1 : find (slotsM (bitsOf K (listed.setIfInBounds i true)) R) s with
  | some u =>
    rw [g1] at hv; simp only [Option.some_or, Option.some.injEq] at hv; subst hv; obtain ⟨j, q, k1, k2, rfl, rfl⟩ := find_slotsM _ R s u g1
    rcases hbn j k1 with rfl | k1
    · rw [hRi] at k2; simp only [Option.some.injEq] at k2; subst k2
      simp
    · by_cases e : ri.dst = q.dst
      · rw [if_pos e]
        have hij : i = j := by
          have e1 : (R.map (·.dst))[i]? = some ri.dst := by simp [hRi]
          have e2 : (R.map (·.dst))[j]? = some ri.dst := by simp [k2, e]
          obtain ⟨q1, q2⟩ := List.getElem?_eq_some_iff.1 e1; obtain ⟨q3, q4⟩ := List.getElem?_eq_some_iff.1 e2; exact (List.getElem_inj hnd).1 (q2.trans q4.symm)
        subst hij; rw [hRi] at k2; simp only [Option.some.injEq] at k2; rw [k2]
      · rw [if_neg e, find_append, slotsM_find _ R j q hnd k1 k2]; rfl
  | none =>
    rw [g1] at hv; simp only [Option.none_or] at hv; have hh := hv; rw [find_hide] at hh
    split at hh
    · cases hh
    · rename_i hmem
      have hne : ri.dst ≠ s := fun e => hmem (List.mem_map.2 ⟨ri, List.mem_of_getElem? hRi, e⟩); rw [if_neg hne, find_append]
      cases g2 : find (slotsM (bitsOf K listed) R) s with
      | some u =>
        obtain ⟨j, q, k1, k2, rfl, rfl⟩ := find_slotsM _ R s u g2; exact absurd (List.mem_map.2 ⟨q, List.mem_of_getElem? k2, rfl⟩) hmem
      | none => simpa using hv
theorem objs_step {σ : St} {nx : Nat} {R : List Res} {listed : Array Bool} {i : Nat} {ri : Res} (hid : ∀ (m : Nat) (q : Res), R[m]? = some q → ∀ k o, find q.new k = some o → σ.next + 4 * (0 + m) ≤ k ∧ k < σ.next + 4 * (0 + m) + 4)
    (hσ : ∀ k o, find σ.objs k = some o → k < σ.next) (hRi : R[i]? = some ri) (hlt : i < listed.size) :
    ∀ k ob, find (objsM (bitsOf K (listed.setIfInBounds i true)) R ++ σ.objs) k = some ob → find (ri.new ++ (objsM (bitsOf K listed) R ++ σ.objs)) k = some ob := by
  have hbn : ∀ j : Nat, (bitsOf K (listed.setIfInBounds i true))[j]? = some true → j = i ∨ (bitsOf K listed)[j]? = some true := by
    intro j hj; obtain ⟨g1, g2⟩ := bitsOf_get.1 hj; rw [getD_set hlt] at g2
    by_cases e : i = j
    · exact .inl e.symm
    · rw [if_neg e] at g2; exact .inr (bitsOf_get.2 ⟨g1, g2⟩)
  intro k ob hv; rw [find_append] at hv; rw [find_append]
  cases g1 : find (objsM (bitsOf K (listed.setIfInBounds i true)) R) k with
  | some u =>
    rw [g1] at hv; simp only [Option.some_or, Option.some.injEq] at hv; subst hv; obtain ⟨j, q, k1, k2, k3⟩ := find_objsM _ R k u g1
    rcases hbn j k1 with rfl | k1
    · rw [hRi] at k2; simp only [Option.some.injEq] at k2; subst k2; rw [k3]; rfl
    · by_cases e : j = i
      · subst e; rw [hRi] at k2; simp only [Option.some.injEq] at k2; subst k2; rw [k3]; rfl
      · have hnone : find ri.new k = none := by
          cases g2 : find ri.new k with
          | none => rfl
          | some ob' =>
            have r1 := hid i ri hRi k ob' g2; have r2 := hid j q k2 k u k3; omega
        rw [hnone, find_append, objsM_find σ.next _ R 0 j q k u hid k1 k2 k3]; rfl
  | none =>
    rw [g1] at hv; simp only [Option.none_or] at hv; have hklt := hσ k ob hv
    have hnone : find ri.new k = none := by
      cases g2 : find ri.new k with
      | none => rfl
      | some ob' =>
        have r1 := hid i ri hRi k ob' g2; omega
    rw [hnone, find_append]
    cases g2 : find (objsM (bitsOf K listed) R) k with
    | some u =>
      obtain ⟨j, q, k1, k2, k3⟩ := find_objsM _ R k u g2; have := hid j q k2 k u k3; omega
    | none => simpa using hv
theorem count_decide {listed : Array Bool} {m n : Nat} (hsz : listed.size = n) (hm : m ≤ n) (hd : ∀ j, j < n → listed.getD j false = decide (j < m)) : (List.range n).countP (fun j => !listed.getD j true) = n - m := by
  have e1 : (List.range n).countP (fun j => !listed.getD j true) = (List.range n).countP (fun j => decide (m ≤ j)) := by
    apply List.countP_congr
    intro j hj
    have hj' : j < n := by simpa using hj
    rw [getD_tf (by omega), hd j hj']
    simp
  rw [e1]
  have : ∀ k, (List.range k).countP (fun j => decide (m ≤ j)) = k - m := by
    intro k
    induction k with
    | zero => simp
    | succ k ihn =>
      rw [List.range_succ, List.countP_append, ihn, List.countP_singleton]
      by_cases h : m ≤ k
      · simp [h]; omega
      · simp [h]; omega
  exact this _
theorem any_of_B {σ : St} {nx : Nat} {R : List Res} {Q : Exit → Act → World → Prop} {C : Ctx} {r0 : Nat} {o0 : Obj} (hc : chk l T (K + 1) = true) (hKl : K < l.length) (hRl : R.length = K) (hnd : (R.map (·.dst)).Nodup)
    (hR : ∀ i, i < K → ResOk P l σ (R.map (·.dst)) nx K T R i) (hσ : ∀ k o, find σ.objs k = some o → k < σ.next)
    (hF : ∀ i, i < K → bit T K i = false → find (objsM ((T[i]?).getD []) R) r0 = none ∧ ∀ q, R[i]? = some q → q.new = []) (hr0 : σ.next ≤ r0)
    (hfin : ∀ E X a, Rel C E X ((stM σ (R.map (·.dst)) nx (List.replicate K true) R).over r0 o0) a → wpL P ⟨l⟩ Q (l.drop (K + 1)) a E.w) :
    ∀ (fuel : Nat) (listed : Array Bool) (E : Env) (X : Nat → List Value) (a : Act), listed.size = l.length → (List.range l.length).countP (fun j => !listed.getD j true) = fuel → Shut l listed → (∀ i, K + 1 ≤ i → listed.getD i false = false) → listed.getD K false = true →
      Rel C E X ((stM σ (R.map (·.dst)) nx (bitsOf K listed) R).over r0 o0) a → wpAny P .any ⟨l⟩ Q fuel listed a E.w := by
  have hid : ∀ (m : Nat) (q : Res), R[m]? = some q → ∀ k o, find q.new k = some o → σ.next + 4 * (0 + m) ≤ k ∧ k < σ.next + 4 * (0 + m) + 4 := by
    intro m q hq k o hf
    have hm : m < K := by rw [← hRl]; exact (List.getElem?_eq_some_iff.1 hq).1
    have ho : l[m]? = some l[m] := List.getElem?_eq_getElem (by omega); have := (hR m hm _ q ho hq).2.2.1 k o hf; omega
  intro fuel
  induction fuel with
  | zero =>
    intro listed E X a hsz hcnt hs hge hlK hr
    have hall : ∀ j, j < l.length → listed.getD j true = true := by
      intro j hj; have := List.countP_eq_zero.1 hcnt j (by simpa using hj)
      simpa using this
    have hKn : K + 1 = l.length := by
      rcases Nat.lt_or_ge (K + 1) l.length with h | h
      · have h1 := hall (K + 1) h; rw [getD_tf (by omega), hge (K + 1) (Nat.le_refl _)] at h1
        cases h1
      · omega
    refine any_of_L hc 0 (K + 1) listed a E.w (by omega) (Nat.le_refl _) hsz hs (fun j hj => ?_) (hfin E X a ?_)
    · rw [← getD_tf (by omega), hall j hj]
      simp; omega
    · have hb := stM_sub (nx := nx) (bs := bitsOf K listed) (bs' := List.replicate K true) hnd hid hσ (fun j hj => bitsOf_get.2 (by
        obtain ⟨hlt, _⟩ := List.getElem?_eq_some_iff.1 hj
        simp at hlt
        exact ⟨hlt, by rw [← getD_tf (by omega)]; exact hall j (by omega)⟩))
      refine hr.sub hb.1 (fun k o hk => ?_) (Nat.le_refl _) rfl rfl; simp only [St.over, find_cons] at hk ⊢
      split at hk
      · rename_i e; rw [if_pos e]; exact hk
      · rename_i e; rw [if_neg e]; exact hb.2 k o hk
  | succ fuel ih =>
    intro listed E X a hsz hcnt hs hge hlK hr
    by_cases hallK : ∀ j, j < K → listed.getD j false = true
    · have hb := stM_sub (nx := nx) (bs := bitsOf K listed) (bs' := List.replicate K true) hnd hid hσ (fun j hj => bitsOf_get.2 (by
        obtain ⟨hlt, _⟩ := List.getElem?_eq_some_iff.1 hj
        simp at hlt
        exact ⟨hlt, hallK j hlt⟩))
      have hr' := hr.sub (σ' := St.over (stM σ (R.map (fun r : Res => r.dst)) nx (List.replicate K true) R) r0 o0) hb.1 (fun k o hk => by
        simp only [St.over, find_cons] at hk ⊢
        split at hk
        · rename_i e; rw [if_pos e]; exact hk
        · rename_i e; rw [if_neg e]; exact hb.2 k o hk) (Nat.le_refl _) rfl rfl
      have hd : ∀ j, j < l.length → listed.getD j false = decide (j < K + 1) := by
        intro j hj
        by_cases h : j < K
        · simp [hallK j h, show j < K + 1 by omega]
        · by_cases h2 : j = K
          · subst h2; simp [hlK]
          · simp [hge j (by omega), show ¬ j < K + 1 by omega]
      have hcnt2 := count_decide hsz (show K + 1 ≤ l.length by omega) hd; exact any_of_L hc (fuel + 1) (K + 1) listed a E.w (by omega) (Nat.le_refl _) hsz hs hd (hfin E X a hr')
    · obtain ⟨j0, hj0⟩ := Classical.not_forall.1 hallK; obtain ⟨hj1, hj2⟩ := Classical.not_imp.1 hj0
      have hj2 : listed.getD j0 false = false := by simpa using hj2
      refine ⟨fun hnil => ?_, fun i hi => ?_⟩
      · obtain ⟨j, _, hj⟩ := ready_exists hc hsz (show j0 < l.length by omega) hj2; rw [hnil] at hj
        cases hj
      · obtain ⟨o, ho, h1, hp⟩ := mem_ready.1 hi; have hlt := (List.getElem?_eq_some_iff.1 ho).1
        have hiK : i < K := by
          rcases Nat.lt_or_ge i K with h | h
          · exact h
          · exfalso
            by_cases e : i = K
            · subst e; rw [getD_tf (by omega), hlK] at h1
              cases h1
            · have hb := ((chk_spec hc ho).2.2 j0 (by omega)).2 (by omega); have := listed_bits hc hs i o ho hp j0 (by omega) hb; rw [hj2] at this
              cases this
        have hfree : bit T K i = false := by
          cases hb : bit T K i with
          | false => rfl
          | true =>
            exfalso
            have hoK : l[K]? = some l[K] := List.getElem?_eq_getElem hKl; have := listed_bits hc hs K _ hoK (fun e he => hs K _ hoK hlK e he) i hiK hb; rw [getD_tf (by omega), this] at h1
            cases h1
        have hRi : R[i]? = some (R[i]'(by omega)) := List.getElem?_eq_getElem (by omega)
        generalize hri : (R[i]'(by omega)) = ri at hRi
        obtain ⟨hdst, hdn, hids, hor⟩ := hR i hiK o ri ho hRi; obtain ⟨hno, hnw⟩ := hF i hiK hfree; have hnew0 := hnw ri hRi; have hsh := hs.set hc hsz hi; have hlen := (chk_spec hc ho).1
        have hbits : ∀ j : Nat, ((T[i]?).getD [])[j]? = some true → (bitsOf K listed)[j]? = some true := by
          intro j hj; have hji : j < i := Nat.lt_of_lt_of_le (List.getElem?_eq_some_iff.1 hj).1 hlen; refine bitsOf_get.2 ⟨by omega, listed_bits hc hs i o ho hp j hji ?_⟩
          unfold bit
          rw [List.getD_eq_getElem?_getD, hj]; rfl
        have hb := stM_sub (nx := nx) (bs := bitsOf K listed) (bs' := (T[i]?).getD []) hnd hid hσ hbits
        have hrr := hr.sub (σ' := stM σ (R.map (·.dst)) nx ((T[i]?).getD []) R) hb.1 (fun k o hk => by
          simp only [St.over, find_cons]
          by_cases e : r0 = k
          · exfalso
            subst e; simp only [stM] at hk; rw [find_append, hno] at hk; have := hσ _ _ (by simpa using hk); omega
          · rw [if_neg e]
            exact hb.2 k o hk) (Nat.le_refl _) rfl rfl
        have ho' : (⟨l⟩ : Array Oper)[i]? = some o := by simpa using ho
        have hstep : ∀ (E' : Env) X' a', Rel C E' X' (((stM σ (R.map (·.dst)) nx (bitsOf K listed) R).over r0 o0).ext o.dst ri.v ri.new nx) a' → wpAny P .any ⟨l⟩ Q fuel (listed.setIfInBounds i true) a' E'.w := by
          intro E' X' a' hr'; refine ih _ E' X' a' (by simpa using hsz) ?_ hsh ?_ ?_ ?_
          · have := countP_set hsz hlt h1; omega
          · intro k hk; rw [getD_set (by omega), if_neg (by omega)]; exact hge k hk
          · rw [getD_set (by omega), if_neg (by omega)]; exact hlK
          · refine hr'.sub ?_ ?_ (Nat.le_refl _) rfl rfl
            · intro s v hv; simp only [St.ext, hdst, St.over] at hv ⊢; exact slots_step hnd hRi (by omega) s v hv
            · intro k ob hv; simp only [St.ext, St.over, hnew0, List.nil_append, find_cons] at hv ⊢
              split at hv
              · rename_i e; rw [if_pos e]; exact hv
              · rename_i e
                rw [if_neg e]; have := objs_step (nx := nx) (K := K) hid hσ hRi (show i < listed.size by omega) k ob hv; rw [hnew0] at this; exact this
        have hst : ∀ d, o.dst = some d → d < ((stM σ (R.map (·.dst)) nx (bitsOf K listed) R).over r0 o0).nt := by
          intro d hd; rw [hdst] at hd; simp only [Option.some.injEq] at hd; subst hd; exact hdn
        unfold wpOp
        simp only [ho']
        rcases hor with ⟨hg, hloc⟩ | ⟨hg, hv, hnew⟩
        · rw [hrr.guard hg, if_pos rfl]; refine .inl (hloc C E X a hrr (fun r ob hf hDr => by rw [hnew0] at hf; simp [find] at hf) _ _ (fun y E' X' hLP => ?_)); obtain ⟨X'', hr'⟩ := hr.ext hLP o.dst nx hst (fun r ob hf => by rw [hnew0] at hf; simp [find] at hf) (Nat.le_refl _); exact hstep E' X'' _ hr'
        · rw [hrr.guard hg, if_neg (by simp)]; have hput := hr.put o.dst hst (v := (.lit undef)) (y := undef) (by simp [FV]); refine hstep E X _ ?_; rw [hv, hnew]; exact hput.sub (fun s v h => h) (fun r ob h => h) (Nat.le_refl _) rfl rfl
theorem any_of_late {σ : St} {nx : Nat} {R : List Res} {Q : Exit → Act → World → Prop} {C : Ctx} {oK : Oper} {r0 : Nat} {o0 : Obj} (hc : chk l T (K + 1) = true) (hoK : l[K]? = some oK) (hgK : oK.guard = none) (hRl : R.length = K) (hnd : (R.map (·.dst)).Nodup)
    (hR : ∀ i, i < K → ResOk P l σ (R.map (·.dst)) nx K T R i) (hnx : σ.next + 4 * K ≤ nx) (hσ : ∀ k o, find σ.objs k = some o → k < σ.next)
    (hF : ∀ i, i < K → bit T K i = false → find (objsM ((T[i]?).getD []) R) r0 = none ∧ ∀ q, R[i]? = some q → q.new = []) (hr0 : σ.next ≤ r0)
    (hW : ∀ bs : List Bool, (∀ j, bit T K j = true → bs[j]? = some true) → Writer P (stM σ (R.map (·.dst)) nx bs R) oK ((stM σ (R.map (·.dst)) nx bs R).over r0 o0))
    (hfin : ∀ E X a, Rel C E X ((stM σ (R.map (·.dst)) nx (List.replicate K true) R).over r0 o0) a → wpL P ⟨l⟩ Q (l.drop (K + 1)) a E.w) :
    ∀ (fuel : Nat) (listed : Array Bool) (E : Env) (X : Nat → List Value) (a : Act), listed.size = l.length → (List.range l.length).countP (fun j => !listed.getD j true) = fuel → Shut l listed → (∀ i, K ≤ i → listed.getD i false = false) →
      Rel C E X (stM σ (R.map (·.dst)) nx (bitsOf K listed) R) a → (∀ r, E.D r → r < σ.next ∨ ∃ j q ob, listed.getD j false = true ∧ R[j]? = some q ∧ find q.new r = some ob) →
      wpAny P .any ⟨l⟩ Q fuel listed a E.w := by
  have hKl : K < l.length := (List.getElem?_eq_some_iff.1 hoK).1
  have hid : ∀ (m : Nat) (q : Res), R[m]? = some q → ∀ k o, find q.new k = some o → σ.next + 4 * (0 + m) ≤ k ∧ k < σ.next + 4 * (0 + m) + 4 := by
    intro m q hq k o hf
    have hm : m < K := by rw [← hRl]; exact (List.getElem?_eq_some_iff.1 hq).1
    have ho : l[m]? = some l[m] := List.getElem?_eq_getElem (by omega); have := (hR m hm _ q ho hq).2.2.1 k o hf; omega
  intro fuel
  induction fuel with
  | zero =>
    intro listed E X a hsz hcnt hs hge hr hD; have := List.countP_eq_zero.1 hcnt K (by simpa using hKl); rw [getD_tf (by omega), hge K (Nat.le_refl _)] at this
    simp at this
  | succ fuel ih =>
    intro listed E X a hsz hcnt hs hge hr hD; have hKn : listed.getD K false = false := hge K (Nat.le_refl _); refine ⟨fun hnil => ?_, fun i hi => ?_⟩
    · obtain ⟨j, _, hj⟩ := ready_exists hc hsz hKl hKn; rw [hnil] at hj
      cases hj
    · obtain ⟨o, ho, h1, hp⟩ := mem_ready.1 hi; have hlt := (List.getElem?_eq_some_iff.1 ho).1
      have hiK : i ≤ K := by
        rcases Nat.lt_or_ge K i with h | h
        · exfalso
          have hb := ((chk_spec hc ho).2.2 K (by omega)).2 (by omega); have := listed_bits hc hs i o ho hp K (by omega) hb; rw [hKn] at this
          cases this
        · exact h
      have hsh := hs.set hc hsz hi; have hlen := (chk_spec hc ho).1
      have ho' : (⟨l⟩ : Array Oper)[i]? = some o := by simpa using ho
      by_cases hiK2 : i = K
      · -- the store
        subst hiK2; rw [hoK] at ho; simp only [Option.some.injEq] at ho; subst ho
        have hbits : ∀ j, bit T i j = true → (bitsOf i listed)[j]? = some true := by
          intro j hj
          have hji : j < i := by
            unfold bit at hj
            rw [List.getD_eq_getElem?_getD] at hj
            rcases Nat.lt_or_ge j ((T[i]?).getD []).length with h | h
            · omega
            · rw [List.getElem?_eq_none h] at hj
              cases hj
          exact bitsOf_get.2 ⟨hji, listed_bits hc hs i _ hoK hp j hji hj⟩
        unfold wpOp
        simp only [ho']; rw [hr.guard (by rw [hgK]; rfl : guardGo (dstsOf ⟨l⟩) _ oK.guard = some true), if_pos rfl]; refine .inl (hW _ hbits C E X a hr _ _ (fun E' X' a' hr' => ?_)); refine any_of_B (K := i) hc hKl hRl hnd hR hσ hF hr0 hfin fuel _ E' X' a' (by simpa using hsz) ?_ hsh ?_ ?_ ?_
        · have := countP_set hsz hlt h1; omega
        · intro k hk; rw [getD_set (by omega), if_neg (by omega)]; exact hge k (by omega)
        · rw [getD_set (by omega), if_pos rfl]
        · have hb := stM_sub (nx := nx) (bs := bitsOf i listed) (bs' := bitsOf i (listed.setIfInBounds i true)) hnd hid hσ (fun j hj => by
            obtain ⟨g1, g2⟩ := bitsOf_get.1 hj; rw [getD_set (by omega), if_neg (by omega)] at g2
            exact bitsOf_get.2 ⟨g1, g2⟩)
          refine hr'.sub hb.1 (fun k ob hk => ?_) (Nat.le_refl _) rfl rfl; simp only [St.over, find_cons] at hk ⊢
          split at hk
          · rename_i e; rw [if_pos e]; exact hk
          · rename_i e; rw [if_neg e]; exact hb.2 k ob hk
      · have hiK : i < K := by omega
        have hRi : R[i]? = some (R[i]'(by omega)) := List.getElem?_eq_getElem (by omega)
        generalize hri : (R[i]'(by omega)) = ri at hRi
        obtain ⟨hdst, hdn, hids, hor⟩ := hR i hiK o ri ho hRi
        have hbits : ∀ j : Nat, ((T[i]?).getD [])[j]? = some true → (bitsOf K listed)[j]? = some true := by
          intro j hj; have hji : j < i := Nat.lt_of_lt_of_le (List.getElem?_eq_some_iff.1 hj).1 hlen; refine bitsOf_get.2 ⟨by omega, listed_bits hc hs i o ho hp j hji ?_⟩
          unfold bit
          rw [List.getD_eq_getElem?_getD, hj]; rfl
        have hb := stM_sub (nx := nx) (bs := bitsOf K listed) (bs' := (T[i]?).getD []) hnd hid hσ hbits; have hrr := hr.sub (σ' := stM σ (R.map (fun r : Res => r.dst)) nx ((T[i]?).getD []) R) hb.1 hb.2 (Nat.le_refl _) rfl rfl
        have hstep : ∀ (E' : Env) X' a', Rel C E' X' ((stM σ (R.map (fun r : Res => r.dst)) nx (bitsOf K listed) R).ext o.dst ri.v ri.new nx) a' → (∀ r, E'.D r → E.D r ∨ ∃ ob, find ri.new r = some ob) →
            wpAny P .any ⟨l⟩ Q fuel (listed.setIfInBounds i true) a' E'.w := by
          intro E' X' a' hr' hD'; refine ih _ E' X' a' (by simpa using hsz) ?_ hsh ?_ ?_ ?_
          · have := countP_set hsz hlt h1; omega
          · intro k hk; rw [getD_set (by omega), if_neg (by omega)]; exact hge k hk
          · refine hr'.sub ?_ ?_ (Nat.le_refl _) rfl rfl
            · intro s v hv; simp only [St.ext, hdst] at hv ⊢; exact slots_step hnd hRi (by omega) s v hv
            · intro k ob hv; simp only [St.ext] at hv ⊢; exact objs_step (nx := nx) (K := K) hid hσ hRi (show i < listed.size by omega) k ob hv
          · intro r hr2
            rcases hD' r hr2 with h | ⟨ob, h⟩
            · rcases hD r h with h | ⟨j, q, ob, k1, k2, k3⟩
              · exact .inl h
              · refine .inr ⟨j, q, ob, ?_, k2, k3⟩; rw [getD_set (by omega)]
                split
                · rfl
                · exact k1
            · exact .inr ⟨i, ri, ob, by rw [getD_set (by omega), if_pos rfl], hRi, h⟩
        have hst : ∀ d, o.dst = some d → d < (stM σ (R.map (fun r : Res => r.dst)) nx (bitsOf K listed) R).nt := by
          intro d hd; rw [hdst] at hd; simp only [Option.some.injEq] at hd; subst hd; exact hdn
        unfold wpOp
        simp only [ho']
        rcases hor with ⟨hg, hloc⟩ | ⟨hg, hv, hnew⟩
        · rw [hrr.guard hg, if_pos rfl]; refine .inl (hloc C E X a hrr (fun r ob hf hDr => ?_) _ _ (fun y E' X' hLP => ?_))
          · have r1 := hid i ri hRi r ob hf
            rcases hD r hDr with h | ⟨j, q, ob', k1, k2, k3⟩
            · omega
            · have r2 := hid j q k2 r ob' k3
              have hji : j = i := by omega
              subst hji
              have : listed.getD j true = true := by rw [getD_tf (by omega)]; exact k1
              rw [h1] at this
              cases this
          · obtain ⟨X'', hr'⟩ := hr.ext hLP o.dst nx hst (fun r ob hf => by have := hid i ri hRi r ob hf; omega) (Nat.le_refl _); exact hstep E' X'' _ hr' hLP.dom
        · rw [hrr.guard hg, if_neg (by simp)]; have hput := hr.put o.dst hst (v := (.lit undef)) (y := undef) (by simp [FV]); refine hstep E X _ ?_ (fun r hr => .inl hr); rw [hv, hnew]; exact hput.sub (fun s v h => h) (fun r ob h => h) (Nat.le_refl _) rfl rfl
end late
def drawOkL (l : List Oper) (T : List (List Bool)) (σ : St) (K : Nat) : Bool :=
  chk l T (K + 1) && Nat.ble (K + 1) l.length && (let ds := dstsL (l.take K); disj ds σ.slots && decide ds.Nodup && ds.all (fun d => Nat.blt d σ.nt))
def LateOk (P : Program) (l : List Oper) (T : List (List Bool)) (σ : St) (nx K : Nat) (Q : St → Prop) (rest : List Oper) (R : List Res) : Prop :=
  ∃ oK rest' r0 o0, rest = oK :: rest' ∧ oK.guard = none ∧ σ.next ≤ r0 ∧ (∀ i, i < K → bit T K i = false → find (objsM ((T[i]?).getD []) R) r0 = none ∧ ∀ q, R[i]? = some q → q.new = []) ∧
    (∀ bs : List Bool, (∀ j, bit T K j = true → bs[j]? = some true) → Writer P (stD σ nx bs R) oK ((stD σ nx bs R).over r0 o0)) ∧ SeqL P ⟨l⟩ rest' ((stAll σ nx R).over r0 o0) Q
theorem Ev.drawL {P : Program} {σ : St} {Q : Exit → St → Prop} {id : Nat} {l : List Oper} (T : List (List Bool)) (K : Nat) (hm : P.follows .mixedOrders = true) (hok : drawOkL l T σ K = true) (hTl : K ≤ T.length)
    (h : ∀ Kt : St → Prop, (∀ σ', Q .normal σ' → Kt σ') → drawF P l (dstsOf ⟨l⟩) σ (σ.next + 4 * K) (LateOk P l T σ (σ.next + 4 * K) K Kt) l (T.take K) []) : Ev P (.region id ⟨l⟩ true) σ Q := by
  simp only [drawOkL, Bool.and_eq_true, decide_eq_true_eq, List.all_eq_true] at hok; obtain ⟨⟨hc, hKl⟩, ⟨hdj, hnd⟩, hdn⟩ := hok; have hKl : K < l.length := Nat.le_of_ble_eq_true hKl
  have hTK : (T.take K).length = K := by simp; omega
  obtain ⟨S, h1, h2, h3⟩ := drawF_spec l (T.take K) [] (h (Q .normal) (fun _ h => h)) (fun i hi => by
    have hiK : i < K := by omega
    have ho : l[i]? = some l[i] := List.getElem?_eq_getElem (by omega); have := (chk_spec hc ho).1; have e : T[i]? = some T[i] := List.getElem?_eq_getElem (by omega); rw [e] at this
    simpa using this)
  simp only [List.nil_append, List.length_nil, Nat.zero_add] at h2 h3; rw [hTK] at h1 h2 h3
  have hds : S.map (·.dst) = dstsL (l.take K) := by
    have key : ∀ (n : Nat) (l' : List Oper) (S' : List Res), S'.length = n → l'.length = n → (∀ i, i < n → ∃ o r, l'[i]? = some o ∧ S'[i]? = some r ∧ o.dst = some r.dst) → S'.map (·.dst) = dstsL l' := by
      intro n
      induction n with
      | zero =>
        intro l' S' e1 e2 _; rw [List.eq_nil_of_length_eq_zero e1, List.eq_nil_of_length_eq_zero e2]; rfl
      | succ n ih =>
        intro l' S' e1 e2 hh
        match l', S', e1, e2 with
        | o :: l', r :: S', e1, e2 =>
          obtain ⟨o0, r0, k1, k2, k3⟩ := hh 0 (by omega); simp only [List.getElem?_cons_zero, Option.some.injEq] at k1 k2; subst k1 k2; simp only [List.map_cons, dstsL, k3]
          rw [ih l' S' (by simpa using e1) (by simpa using e2) (fun i hi => by
            obtain ⟨o1, r1, j1, j2, j3⟩ := hh (i + 1) (by omega)
            exact ⟨o1, r1, by simpa using j1, by simpa using j2, j3⟩)]
    refine key K (l.take K) S h1 (by simp; omega) (fun i hi => ?_); obtain ⟨o, r, k1, k2, k3, _⟩ := h3 i hi; exact ⟨o, r, by rw [List.getElem?_take, if_pos hi]; exact k1, k2, k3⟩
  have hst : ∀ bs, stM σ (S.map (·.dst)) (σ.next + 4 * K) bs S = stD σ (σ.next + 4 * K) bs S := by
    intro bs; simp only [stM, stD, hds, hide_disj hdj]
  intro C E X a hr; refine wp_region_any hm ?_; have hr' := hr.drew; have hσ : ∀ k o, find σ.objs k = some o → k < σ.next := fun k o hk => hr.fresh k (hr.objs k o hk).1
  have hR : ∀ i, i < K → ResOk P l σ (S.map (·.dst)) (σ.next + 4 * K) K T S i := by
    intro i hi o r ho hSr; obtain ⟨o', r', k1, k2, k3, k4, k5⟩ := h3 i hi; rw [ho] at k1; rw [hSr] at k2; simp only [Option.some.injEq] at k1 k2; subst k1 k2; refine ⟨k3, ?_, fun k ob hf => idsIn_find k4 k ob hf, ?_⟩
    · have : r.dst ∈ dstsL (l.take K) := by rw [← hds]; exact List.mem_map.2 ⟨r, List.mem_of_getElem? hSr, rfl⟩
      exact Nat.le_of_ble_eq_true (hdn _ this)
    · rw [hst]
      have e : ((T.take K)[i]?).getD [] = (T[i]?).getD [] := by rw [List.getElem?_take, if_pos hi]
      rw [e] at k5; exact k5
  have hall : stM σ (S.map (·.dst)) (σ.next + 4 * K) (List.replicate K true) S = stAll σ (σ.next + 4 * K) S := by
    rw [hst]; simp only [stD, stAll]; rw [← h1, slotsM_all, objsM_all]
  obtain ⟨oK, rest', r0, o0, g1, g2, g3, g4, g5, g6⟩ := h2
  have hoK : l[K]? = some oK := by
    have := congrArg List.head? g1
    simpa [List.head?_drop] using this
  have hrest : l.drop (K + 1) = rest' := by
    rw [← List.drop_drop, g1]; rfl
  have hgoal := any_of_late (P := P) (nx := σ.next + 4 * K) (C := C) (Q := fun e a' w' => ∃ E' X' σ', E'.w = w' ∧ Rel C E' X' σ' a' ∧ Q e σ') hc hoK g2 h1 (by rw [hds]; exact hnd) hR (Nat.le_refl _) hσ g4 g3 (fun bs hbs => by
      rw [hst]
      exact g5 bs hbs) (fun E X a hr2 => by
      rw [hall] at hr2; rw [hrest]
      exact g6 C E X a hr2 _ (fun E' X' σ' a' hr3 hq => ⟨E', X', σ', rfl, hr3, hq⟩))
    l.length (Array.replicate l.length false) { E with w := E.w.drew } X a (by simp) ?_ ?_ ?_ ?_ ?_
  · simpa using hgoal
  · have : ∀ n, n ≤ l.length → (List.range n).countP (fun j => !(Array.replicate l.length false).getD j true) = n := by
      intro n
      induction n with
      | zero => intro _; simp
      | succ n ih =>
        intro hn; rw [List.range_succ, List.countP_append, ih (by omega), List.countP_singleton]
        simp [Array.getD, show n < l.length by omega]
    exact this _ (Nat.le_refl _)
  · intro i o _ hl
    simp [Array.getD] at hl
  · intro i _
    simp [Array.getD]
  · have hb : ∀ j : Nat, (bitsOf K (Array.replicate l.length false))[j]? ≠ some true := by
      intro j hj; have := (bitsOf_get.1 hj).2
      simp [Array.getD] at this
    refine hr'.sub ?_ ?_ (by simp [stM]) rfl rfl
    · intro s v hv; simp only [stM, hds, hide_disj hdj] at hv; rw [find_append] at hv
      cases g : find (slotsM (bitsOf K (Array.replicate l.length false)) S) s with
      | some u =>
        obtain ⟨j, r, g1, _⟩ := find_slotsM _ S s u g; exact absurd g1 (hb j)
      | none => rw [g] at hv; simpa using hv
    · intro k o hv; simp only [stM] at hv; rw [find_append] at hv
      cases g : find (objsM (bitsOf K (Array.replicate l.length false)) S) k with
      | some u =>
        obtain ⟨j, r, g1, _⟩ := find_objsM _ S k u g; exact absurd g1 (hb j)
      | none => rw [g] at hv; simpa using hv
  · intro r hD; exact .inl (hr.fresh r hD)
end Go.AM
