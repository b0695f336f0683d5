/-
  The abstract machine, continued: a region that draws, reckoned as one line, if each operation reads only what stands before it by the edges.
  Conditions: none; generic over the program.
-/
import Derived.Test.YtkbpignlggahaaaGreatDoorAmDraw
namespace Go.AM
set_option linter.unusedVariables false
set_option linter.unusedSimpArgs false
set_option linter.unusedSectionVars false
def readsOf : Op → Option (List Operand)
  | .move x => some [x]
  | .assign x => some [x]
  | .pick c x y => some [c, x, y]
  | .binOp _ _ x y _ => some [x, y]
  | .unOp _ _ x => some [x]
  | .convert _ _ x => some [x]
  | .makeInterface _ x => some [x]
  | .index _ x i => some [x, i]
  | .load _ x => some [x]
  | .fieldAddr _ x _ => some [x]
  | .field _ x _ => some [x]
  | .indexAddr _ x i => some [x, i]
  | .slice _ x lo hi none => some (x :: lo.toList ++ hi.toList)
  | .build _ parts => some (parts.toList.map (·.2))
  | .makeFunc _ first caps => some (first.toList ++ caps.toList)
  | .extract x _ => some [x]
  | .nilCheck x => some [x]
  | .call { callee := .builtin _, args := as, argTypes := _ } => some as.toList
  | .call { callee := .value x, args := as, argTypes := _ } => some (x :: as.toList)
  | _ => none
theorem cellsFrom_congr {σ σ' : St} (h : σ'.objs = σ.objs) (v : AV) : cellsFrom σ' v = cellsFrom σ v := by
  cases v <;> simp [cellsFrom, h]
theorem loadAV_congr {P : Program} {σ σ' : St} (h : σ'.objs = σ.objs) (t : TypeId) (v : AV) : loadAV P σ' t v = loadAV P σ t v := by
  simp [loadAV, cellsFrom_congr h]
theorem indexAV_congr {σ σ' : St} (h : σ'.objs = σ.objs) (sz : Nat) (v : AV) (n : Int) : indexAV σ' sz v n = indexAV σ sz v n := by
  cases v <;> simp [indexAV, h]
theorem mapRows_congr {σ σ' : St} (h : σ'.objs = σ.objs) (v : AV) : mapRows σ' v = mapRows σ v := by
  cases v <;> simp [mapRows, h]
theorem stepQ_congr {P : Program} {σ σ' : St} {op : Op} {xs : List Operand} (hx : readsOf op = some xs) (ho : σ'.objs = σ.objs) (he : ∀ x ∈ xs, σ'.ev x = σ.ev x) (id id' : Nat) : stepQ P σ' id' op = stepQ P σ id op := by
  cases op <;> try (simp [readsOf] at hx; done)
  case slice t x lo hi mx =>
    cases mx with
    | some m => simp [readsOf] at hx
    | none =>
      simp only [readsOf, Option.some.injEq] at hx; subst hx; have e1 := he x (by simp)
      have e2 : ∀ d, boundAV σ' d lo = boundAV σ d lo := by
        intro d
        cases lo with
        | none => rfl
        | some l => simp [boundAV, he l (by simp)]
      have e3 : ∀ d, boundAV σ' d hi = boundAV σ d hi := by
        intro d
        cases hi with
        | none => rfl
        | some l => simp [boundAV, he l (by simp)]
      have e4 : optVal σ' lo = optVal σ lo := by
        cases lo with
        | none => rfl
        | some l => simp [optVal, he l (by simp)]
      have e5 : optVal σ' hi = optVal σ hi := by
        cases hi with
        | none => rfl
        | some l => simp [optVal, he l (by simp)]
      simp only [stepQ, e1, e2, e3, e4, e5, ho]
  case build t parts =>
    simp only [readsOf, Option.some.injEq] at hx; subst hx
    have : (parts.toList.map fun p => (p.1, σ'.ev p.2)) = parts.toList.map fun p => (p.1, σ.ev p.2) := by
      apply List.map_congr_left
      intro p hp; rw [he p.2 (List.mem_map.2 ⟨p, hp, rfl⟩)]
    simp only [stepQ, this]
  case makeFunc f first caps =>
    simp only [readsOf, Option.some.injEq] at hx; subst hx; have e1 : first.toList.map σ'.ev = first.toList.map σ.ev := List.map_congr_left fun x h => he x (by simp [h]); have e2 : caps.toList.map σ'.ev = caps.toList.map σ.ev := List.map_congr_left fun x h => he x (by simp [h]); simp only [stepQ, e1, e2]
  case call c =>
    obtain ⟨callee, as, ts⟩ := c
    cases callee <;> try (simp [readsOf] at hx; done)
    case builtin b =>
      simp only [readsOf, Option.some.injEq] at hx; subst hx; have e1 : as.toList.map σ'.ev = as.toList.map σ.ev := List.map_congr_left fun x h => he x h; simp only [stepQ]
      cases b <;> simp only [stepBuiltin, e1]
      case len =>
        split
        · rename_i x t h1 h2
          rw [he x (by rw [h1]; simp), mapRows_congr ho]
        · rfl
      case cap =>
        split
        · rename_i x t h1 h2
          rw [he x (by rw [h1]; simp)]
        · rfl
      case unsafeSliceData =>
        split
        · rename_i x h1
          rw [he x (by rw [h1]; simp)]
        · rfl
    case value x => simp [stepQ]
  all_goals
    simp only [readsOf, Option.some.injEq] at hx; subst hx; simp only [List.mem_cons, List.not_mem_nil, or_false, forall_eq_or_imp, forall_eq] at he; simp only [stepQ, he, ho, loadAV_congr ho, indexAV_congr ho]
def okT : List Nat → List Bool → Nat → Bool
  | [], _, _ => true
  | d :: ds, bs, t => bif Nat.beq d t then (match bs with | b :: _ => b | [] => false) else okT ds bs.tail t
def okX (ds : List Nat) (bs : List Bool) : Operand → Bool
  | .tmp t => okT ds bs t
  | _ => true
theorem okT_spec : ∀ (ds : List Nat) (bs : List Bool) (t : Nat), okT ds bs t = true → ds.Nodup → ∀ (j : Nat), ds[j]? = some t → bs[j]? = some true
  | [], _, t, _, _, j, h => by simp at h
  | d :: ds, bs, t, h, hnd, j, hj => by
    simp only [okT] at h; simp only [List.nodup_cons] at hnd
    cases j with
    | zero =>
      simp at hj
      subst hj; rw [Nat.beq_refl] at h; simp only [cond_true] at h
      cases bs with
      | nil => simp at h
      | cons b bs => simp at h; simp [h]
    | succ j =>
      simp at hj
      have hne : Nat.beq d t = false := by
        cases hb : Nat.beq d t with
        | false => rfl
        | true =>
          rw [Nat.beq_eq] at hb; subst hb; exact absurd (List.mem_of_getElem? hj) hnd.1
      rw [hne] at h; simp only [cond_false] at h; have := okT_spec ds bs.tail t h hnd.2 j hj
      cases bs with
      | nil => simp at this
      | cons b bs => simpa using this
def readsChk (l : List Oper) (T : List (List Bool)) (K : Nat) : Bool :=
  (List.range K).all fun i => match l[i]? with
    | none => true
    | some o => (match readsOf o.op with
      | none => false
      | some xs => xs.all (okX (dstsL (l.take i)) ((T[i]?).getD []))) &&
      (match o.guard with
      | none => true
      | some (j, _) => match (dstsOf ⟨l⟩)[j]? with
        | some (some d) => okT (dstsL (l.take i)) ((T[i]?).getD []) d
        | _ => true)
def Quiet (P : Program) (σ : St) (o : Oper) (v : AV) : Prop := ∀ σ' xs, readsOf o.op = some xs → σ'.objs = σ.objs → (∀ x ∈ xs, σ'.ev x = σ.ev x) → Local P σ' o v []
def drawS (P : Program) (l : List Oper) (gs : List (Option Nat)) (nx : Nat) (Q : St → Prop) (Fb : List Oper → Nat → St → Prop) : List Oper → Nat → St → Prop
  | rest, 0, σ => SeqL P ⟨l⟩ rest { σ with next := nx } Q
  | [], _ + 1, _ => False
  | o :: rest, n + 1, σ => match o.dst with
    | none => False
    | some d => match guardGo gs σ o.guard with
      | some true => match stepQ P σ 0 o.op with
        | some (v, []) => drawS P l gs nx Q Fb rest n (σ.put (some d) v)
        | some (_, _ :: _) => False
        | none => Fb (o :: rest) n σ
      | some false => drawS P l gs nx Q Fb rest n (σ.put (some d) (.lit undef))
      | none => False
def drawN (P : Program) (l : List Oper) (gs : List (Option Nat)) (nx : Nat) (Q : St → Prop) : Nat → List Oper → Nat → St → Prop
  | 0 => drawS P l gs nx Q fun _ _ _ => False
  | c + 1 => drawS P l gs nx Q fun ops n σ => match ops with
    | [] => False
    | o :: rest => match o.dst with
      | none => False
      | some d => ∃ v, Quiet P σ o v ∧ drawN P l gs nx Q c rest n (σ.put (some d) v)
theorem dstsL_append : ∀ (l m : List Oper), dstsL (l ++ m) = dstsL l ++ dstsL m
  | [], m => rfl
  | o :: l, m => by
    simp only [List.cons_append, dstsL, dstsL_append l m]
    split <;> simp
theorem nodup_rev {α : Type} {l : List α} (h : l.Nodup) : l.reverse.Nodup := List.pairwise_reverse.2 (h.imp fun h e => h e.symm)
theorem find_rev : ∀ (R : List Res) (m : List (Nat × AV)) (t : Nat) (j : Nat) (r : Res), (R.map (·.dst)).Nodup → R[j]? = some r → r.dst = t → find ((R.map fun r => (r.dst, r.v)).reverse ++ m) t = some r.v := by
  intro R m t j r hnd hj hr
  have : ∀ (L : List (Nat × AV)), (L.map (·.1)).Nodup → (r.dst, r.v) ∈ L → find (L ++ m) t = some r.v := by
    intro L
    induction L with
    | nil => intro _ h; simp at h
    | cons p L ih =>
      intro h1 h2; obtain ⟨k, u⟩ := p; rw [List.cons_append, find_cons]; simp only [List.map_cons, List.nodup_cons] at h1
      rcases List.mem_cons.1 h2 with h2 | h2
      · simp only [Prod.mk.injEq] at h2; rw [if_pos (by rw [← h2.1, hr]), h2.2]
      · rw [if_neg]
        · exact ih h1.2 h2
        · intro e; subst e; exact h1.1 (List.mem_map.2 ⟨_, h2, hr⟩)
  apply this
  · rw [List.map_reverse, List.map_map]; exact nodup_rev hnd
  · rw [List.mem_reverse]; exact List.mem_map.2 ⟨r, List.mem_of_getElem? hj, rfl⟩
theorem find_rev_none : ∀ (R : List Res) (m : List (Nat × AV)) (t : Nat), t ∉ R.map (·.dst) → find ((R.map fun r => (r.dst, r.v)).reverse ++ m) t = find m t := by
  intro R m t h; rw [find_append]
  have : ∀ (L : List (Nat × AV)), t ∉ L.map (·.1) → find L t = none := by
    intro L
    induction L with
    | nil => intro _; rfl
    | cons p L ih =>
      intro h; obtain ⟨k, u⟩ := p; simp only [List.map_cons, List.mem_cons, not_or] at h; rw [find_cons, if_neg (fun e => h.1 e.symm)]; exact ih h.2
  rw [this _ (by rw [List.map_reverse, List.mem_reverse, List.map_map]; exact h)]
  simp
theorem find_slotsM_none : ∀ (bs : List Bool) (R : List Res) (m : List (Nat × AV)) (t : Nat), t ∉ R.map (·.dst) → find (slotsM bs R ++ m) t = find m t := by
  intro bs R m t h; rw [find_append]
  cases hf : find (slotsM bs R) t with
  | none => simp
  | some v =>
    obtain ⟨j, r, _, h2, h3, _⟩ := find_slotsM bs R t v hf; exact absurd (List.mem_map.2 ⟨r, List.mem_of_getElem? h2, h3⟩) h
theorem drawS_F {P : Program} {Fb : List Oper → Nat → St → Prop} {l : List Oper} {σ : St} {nx : Nat} {Q : St → Prop} {T : List (List Bool)} {K : Nat} (hch : readsChk l T K = true) (hnd : (dstsL (l.take K)).Nodup) (hKT : K ≤ T.length) (hKl : K ≤ l.length)
    (hFb : ∀ (o : Oper) (rest : List Oper) (n : Nat) (σc : St) (R : List Res) (d : Nat), Fb (o :: rest) n σc → o.dst = some d → n + 1 + R.length = K → l.drop R.length = o :: rest → σc.slots = (R.map fun r => (r.dst, r.v)).reverse ++ σ.slots → σc.objs = σ.objs → σc.nt = σ.nt → σc.env = σ.env →
      (∀ r ∈ R, r.new = []) → R.map (·.dst) = dstsL (l.take R.length) → ∃ v, Quiet P σc o v ∧ drawF P l (dstsOf ⟨l⟩) σ nx (finS P l σ nx Q) rest ((T.take K).drop (R.length + 1)) (R ++ [⟨d, v, []⟩])) :
    ∀ (n : Nat) (rest : List Oper) (σc : St) (R : List Res), n + R.length = K → l.drop R.length = rest → σc.slots = (R.map fun r => (r.dst, r.v)).reverse ++ σ.slots → σc.objs = σ.objs → σc.nt = σ.nt → σc.env = σ.env →
      (∀ r ∈ R, r.new = []) → R.map (·.dst) = dstsL (l.take R.length) → drawS P l (dstsOf ⟨l⟩) nx Q Fb rest n σc → drawF P l (dstsOf ⟨l⟩) σ nx (finS P l σ nx Q) rest ((T.take K).drop R.length) R
  | 0, rest, σc, R, hn, hl, hs, ho, ht, he, hnew, hds, h => by
    have hRK : R.length = K := by omega
    rw [List.drop_of_length_le (by simp; omega)]; simp only [drawF, finS]
    have h' : SeqL P ⟨l⟩ rest { σc with next := nx } Q := by
      cases rest <;> simpa [drawS] using h
    have hRnd : (R.map (·.dst)).Nodup := by rw [hds, hRK]; exact hnd
    refine SeqL.weaken (σ' := { σc with next := nx }) (Wk.sub ?_ ?_ (Nat.le_refl _) ht he) h'
    · intro s v hv; simp only [stAll]; simp only [hs] at hv
      by_cases hm : s ∈ R.map (·.dst)
      · obtain ⟨r, hr, rfl⟩ := List.mem_map.1 hm; obtain ⟨j, hj⟩ := List.mem_iff_getElem?.1 hr; rw [find_rev R σ.slots r.dst j r hRnd hj rfl] at hv
        have hnd' : (R.reverse.map (·.dst)).Nodup := by rw [List.map_reverse]; exact nodup_rev hRnd
        have hr' : r ∈ R.reverse := List.mem_reverse.2 hr; obtain ⟨j', hj'⟩ := List.mem_iff_getElem?.1 hr'; have := find_rev R.reverse σ.slots r.dst j' r hnd' hj' rfl; rw [← List.map_reverse, List.reverse_reverse] at this; rw [this]; exact hv
      · rw [find_rev_none R _ s hm] at hv
        have hm' : s ∉ R.reverse.map (·.dst) := by rw [List.map_reverse, List.mem_reverse]; exact hm
        have := find_rev_none R.reverse σ.slots s hm'; rw [← List.map_reverse, List.reverse_reverse] at this; rw [this]; exact hv
    · intro r o hr; simp only [stAll]
      have : R.flatMap (·.new) = [] := by
        rw [List.flatMap_eq_nil_iff]; exact hnew
      rw [this, List.nil_append, ← ho]; exact hr
  | n + 1, [], σc, R, hn, hl, hs, ho, ht, he, hnew, hds, h => by simp [drawS] at h
  | n + 1, o :: rest, σc, R, hn, hl, hs, ho, ht, he, hnew, hds, h => by
    have hlt : R.length < K := by omega
    have hlo : l[R.length]? = some o := by
      have := congrArg List.head? hl
      simpa [List.head?_drop] using this
    have hlr : l.drop (R.length + 1) = rest := by
      rw [← List.drop_drop, hl]; rfl
    have hTd : (T.take K).drop R.length = (T[R.length]?).getD [] :: (T.take K).drop (R.length + 1) := by
      have hlt' : R.length < (T.take K).length := by simp; omega
      rw [List.drop_eq_getElem_cons hlt']
      congr 1
      rw [List.getElem_take, List.getElem?_eq_getElem (by omega), Option.getD_some]
    rw [hTd]
    generalize hbs : (T[R.length]?).getD [] = bs
    have hck : (match readsOf o.op with
        | none => false
        | some xs => xs.all (okX (dstsL (l.take R.length)) bs)) = true ∧ (match o.guard with
        | none => true
        | some (j, _) => match (dstsOf ⟨l⟩)[j]? with
          | some (some d) => okT (dstsL (l.take R.length)) bs d
          | _ => true) = true := by
      unfold readsChk at hch
      rw [List.all_eq_true] at hch; have := hch R.length (by simpa using hlt); rw [hlo] at this; simp only [Bool.and_eq_true, hbs] at this; exact this
    have hRnd : (R.map (·.dst)).Nodup := by
      rw [hds]; have : (dstsL (l.take K)).Nodup := hnd; rw [show K = R.length + (K - R.length) by omega, List.take_add, dstsL_append] at this; exact (List.nodup_append.1 this).1
    have hev : ∀ t, okT (R.map (·.dst)) bs t = true → (stD σ nx bs R).get t = σc.get t := by
      intro t hok
      unfold St.get
      simp only [stD, hs]
      by_cases hm : t ∈ R.map (·.dst)
      · obtain ⟨r, hr, rfl⟩ := List.mem_map.1 hm; obtain ⟨j, hj⟩ := List.mem_iff_getElem?.1 hr; rw [find_rev R σ.slots r.dst j r hRnd hj rfl]; have hb := okT_spec _ bs r.dst hok hRnd j (by rw [List.getElem?_map, hj]; rfl); rw [find_append, slotsM_find bs R j r hRnd hb hj]; rfl
      · rw [find_slotsM_none bs R _ t hm, find_rev_none R _ t hm]
    have hevx : ∀ xs, readsOf o.op = some xs → ∀ x ∈ xs, (stD σ nx bs R).ev x = σc.ev x := by
      intro xs hxs x hx; have h1 := hck.1; rw [hxs] at h1; simp only [List.all_eq_true] at h1; have h2 := h1 x hx
      cases x with
      | tmp t => exact hev t (by rw [hds]; exact h2)
      | const v => rfl
      | global g => rfl
      | func f => rfl
    have hobjs : (stD σ nx bs R).objs = σc.objs := by
      simp only [stD, ho]
      have : ∀ (bs : List Bool) (R : List Res), (∀ r ∈ R, r.new = []) → objsM bs R = [] := by
        intro bs
        induction bs with
        | nil => intro R _; exact objsM_nil R
        | cons b bs ih =>
          intro R hR
          cases R with
          | nil => exact objsM_nil' _
          | cons r R =>
            simp only [objsM]; rw [ih R (fun r hr => hR r (by simp [hr])), hR r (by simp)]
            cases b <;> rfl
      rw [this bs R hnew, List.nil_append]
    have hgd : guardGo (dstsOf ⟨l⟩) (stD σ nx bs R) o.guard = guardGo (dstsOf ⟨l⟩) σc o.guard := by
      have h2 := hck.2
      cases hgo : o.guard with
      | none => rfl
      | some p =>
        obtain ⟨j, want⟩ := p; rw [hgo] at h2
        simp only at h2
        unfold guardGo
        simp only
        split
        · rename_i d hd
          rw [hd] at h2; rw [hev d (by rw [hds]; exact h2)]
        · rfl
    simp only [drawS] at h; simp only [drawF, finS]
    cases hd : o.dst with
    | none => rw [hd] at h; exact h
    | some d =>
      rw [hd] at h
      simp only at h ⊢
      rw [hgd]
      have hdsn : (R ++ [(⟨d, (.lit undef), []⟩ : Res)]).map (·.dst) = dstsL (l.take (R.length + 1)) := by
        rw [List.map_append, hds, List.take_add_one, hlo, dstsL_append]
        simp [dstsL, hd]
      have hrec : ∀ v, drawS P l (dstsOf ⟨l⟩) nx Q Fb rest n (σc.put (some d) v) → drawF P l (dstsOf ⟨l⟩) σ nx (finS P l σ nx Q) rest ((T.take K).drop (R.length + 1)) (R ++ [⟨d, v, []⟩]) := by
        intro v hv
        have hlen : (R ++ [(⟨d, v, []⟩ : Res)]).length = R.length + 1 := by simp
        have := drawS_F (σ := σ) hch hnd hKT hKl hFb n rest (σc.put (some d) v) (R ++ [⟨d, v, []⟩]) (by simp; omega) (by rw [hlen]; exact hlr) (by simp only [St.put, hs, List.map_append, List.map_cons, List.map_nil, List.reverse_append, List.reverse_cons, List.reverse_nil, List.nil_append, List.cons_append]) (by simpa [St.put] using ho) (by simpa [St.put] using ht) (by simpa [St.put] using he)
          (by
            intro r hr
            rcases List.mem_append.1 hr with hr | hr
            · exact hnew r hr
            · simp at hr; rw [hr])
          (by
            rw [hlen, ← hdsn]
            simp) hv
        rw [hlen] at this; exact this
      cases hg : guardGo (dstsOf ⟨l⟩) σc o.guard with
      | none => rw [hg] at h; exact h
      | some b =>
        rw [hg] at h
        cases b with
        | false => exact hrec (.lit undef) h
        | true =>
          simp only at h ⊢
          cases hr : readsOf o.op with
          | none =>
            have := hck.1; rw [hr] at this
            simp at this
          | some xs =>
            rw [stepQ_congr (σ := σc) (σ' := stD σ nx bs R) hr hobjs (hevx xs hr) 0]
            cases hq : stepQ P σc 0 o.op with
            | none =>
              rw [hq] at h; obtain ⟨v, hv, h⟩ := hFb o rest n σc R d h hd (by omega) hl hs ho ht he hnew hds; exact ⟨v, [], fun p hp => (by simp at hp), hv _ xs hr hobjs (hevx xs hr), h⟩
            | some p =>
              rw [hq] at h; obtain ⟨v, new⟩ := p
              cases new with
              | nil => exact hrec v h
              | cons _ _ => exact h.elim
theorem drawN_F {P : Program} {l : List Oper} {σ : St} {nx : Nat} {Q : St → Prop} {T : List (List Bool)} {K : Nat} (hch : readsChk l T K = true) (hnd : (dstsL (l.take K)).Nodup) (hKT : K ≤ T.length) (hKl : K ≤ l.length) :
    ∀ (c n : Nat) (rest : List Oper) (σc : St) (R : List Res), n + R.length = K → l.drop R.length = rest → σc.slots = (R.map fun r => (r.dst, r.v)).reverse ++ σ.slots → σc.objs = σ.objs → σc.nt = σ.nt → σc.env = σ.env →
      (∀ r ∈ R, r.new = []) → R.map (·.dst) = dstsL (l.take R.length) → drawN P l (dstsOf ⟨l⟩) nx Q c rest n σc → drawF P l (dstsOf ⟨l⟩) σ nx (finS P l σ nx Q) rest ((T.take K).drop R.length) R
  | 0, n, rest, σc, R, hn, hl, hs, ho, ht, he, hnew, hds, h => drawS_F (σ := σ) hch hnd hKT hKl (fun _ _ _ _ _ _ h => h.elim) n rest σc R hn hl hs ho ht he hnew hds h
  | c + 1, n, rest, σc, R, hn, hl, hs, ho, ht, he, hnew, hds, h => by
    refine drawS_F (σ := σ) hch hnd hKT hKl (fun o rest n σc R d h hd hn hl hs ho ht he hnew hds => ?_) n rest σc R hn hl hs ho ht he hnew hds h; simp only [hd] at h; obtain ⟨v, hv, h⟩ := h; refine ⟨v, hv, ?_⟩
    have hlen : (R ++ [(⟨d, v, []⟩ : Res)]).length = R.length + 1 := by simp
    have hlo : l[R.length]? = some o := by
      have := congrArg List.head? hl
      simpa [List.head?_drop] using this
    have := drawN_F (σ := σ) hch hnd hKT hKl c n rest (σc.put (some d) v) (R ++ [⟨d, v, []⟩]) (by simp; omega) (by rw [hlen, ← List.drop_drop, hl]; rfl)
      (by simp only [St.put, hs, List.map_append, List.map_cons, List.map_nil, List.reverse_append, List.reverse_cons, List.reverse_nil, List.nil_append, List.cons_append]) (by simpa [St.put] using ho) (by simpa [St.put] using ht) (by simpa [St.put] using he)
      (by
        intro r hr
        rcases List.mem_append.1 hr with hr | hr
        · exact hnew r hr
        · simp at hr; rw [hr])
      (by
        rw [hlen, List.map_append, hds, List.take_add_one, hlo, dstsL_append]
        simp [dstsL, hd]) h
    rw [hlen] at this; exact this
theorem Ev.line {P : Program} {σ : St} {Q : Exit → St → Prop} {id : Nat} {l : List Oper} (T : List (List Bool)) (K c : Nat) (hm : P.follows .mixedOrders = true) (hok : drawOk l T σ K = true) (hch : readsChk l T K = true) (hTl : Nat.ble K T.length = true)
    (h : ∀ Kt : St → Prop, (∀ σ', Q .normal σ' → Kt σ') → drawN P l (dstsOf ⟨l⟩) (σ.next + 4 * K) Kt c l K σ) : Ev P (.region id ⟨l⟩ true) σ Q := by
  have hok' := hok; simp only [drawOk, Bool.and_eq_true, decide_eq_true_eq, List.all_eq_true] at hok'; obtain ⟨⟨_, hKl⟩, ⟨_, hnd⟩, _⟩ := hok'; refine Ev.draw T K hm hok (ble_le hTl) fun Kt hKt => ?_; have := drawN_F (σ := σ) (nx := σ.next + 4 * K) (Q := Kt) hch hnd (ble_le hTl) (ble_le hKl) c K l σ [] (by simp) rfl (by simp) rfl rfl rfl (by simp) rfl (h Kt hKt)
  simpa using this
mutual
theorem viewAV_congr {σ σ' : St} (h : σ'.objs = σ.objs) : ∀ v : AV, viewAV σ' v = viewAV σ v
  | .als r lo n => by simp only [viewAV, h]
  | .adr r i j => by simp only [viewAV, h]
  | .agg cs => by simp only [viewAV, viewL_congr h cs]
  | .tup cs => by simp only [viewAV, viewL_congr h cs]
  | .fn f first caps => by simp only [viewAV, viewL_congr h first, viewL_congr h caps]
  | .top => rfl
  | .lit v => rfl
  | .sh s rows => rfl
  | .sadr row j => rfl
  | .hd r => by simp only [viewAV, h]
  | .shm s rows => rfl
  | .rem s la rows => rfl
theorem viewL_congr {σ σ' : St} (h : σ'.objs = σ.objs) : ∀ l : List AV, viewL σ' l = viewL σ l
  | [] => rfl
  | c :: cs => by simp only [viewL, viewAV_congr h c, viewL_congr h cs]
end
theorem Quiet.call {P : Program} {σ : St} {o : Oper} {x : Operand} {as : Array Operand} {ts : Array TypeId} {g : FuncId} {first caps : List AV} {vs : List AV} {v v' : AV}
    (ho : o.op = .call { callee := .value x, args := as, argTypes := ts }) (hc : calleeOf (σ.ev x) = some (g, first, caps)) (hv : viewL σ (first ++ (as.toList.map σ.ev ++ caps)) = some vs) (hF : Fun P g vs (Ret v []))
    (hm : closedL (first ++ (as.toList.map σ.ev ++ caps)) = true ∨ noShAV v = true) (hl1 : liftAV 0 v = some v') : Quiet P σ o v' := by
  intro σ' xs hxs hob he; simp only [ho, readsOf, Option.some.injEq] at hxs; subst hxs; have e1 : σ'.ev x = σ.ev x := he x (by simp); have e2 : as.toList.map σ'.ev = as.toList.map σ.ev := List.map_congr_left fun y hy => he y (by simp [hy]); refine Local.call (N := 0) (new := []) ho (by rw [e1]; exact hc) (by rw [e2, viewL_congr hob]; exact hv) hF ?_ hl1 rfl; rw [e2]
  rcases hm with hm | hm
  · exact .inl hm
  · exact .inr ⟨hm, fun r ob h => by simp [find] at h⟩
section rules
variable (P : Program) (l : List Oper) (ops : Array Oper) (gs : List (Option Nat)) (nx n : Nat) (Q : St → Prop) (Fb : List Oper → Nat → St → Prop) (o : Oper) (rest : List Oper) (σ : St)
theorem drawS_zero : drawS P l gs nx Q Fb rest 0 σ = SeqL P ⟨l⟩ rest { σ with next := nx } Q := by cases rest <;> rfl
theorem drawS_cons : drawS P l gs nx Q Fb (o :: rest) (n + 1) σ = match o.dst with
    | none => False
    | some d => match guardGo gs σ o.guard with
      | some true => match stepQ P σ 0 o.op with
        | some (v, []) => drawS P l gs nx Q Fb rest n (σ.put (some d) v)
        | some (_, _ :: _) => False
        | none => Fb (o :: rest) n σ
      | some false => drawS P l gs nx Q Fb rest n (σ.put (some d) (.lit undef))
      | none => False := rfl
variable (s : List (Nat × AV)) (b : List (Nat × Obj)) (t e d n' : Nat) (v : AV) (new : List (Nat × Obj))
end rules
end Go.AM
