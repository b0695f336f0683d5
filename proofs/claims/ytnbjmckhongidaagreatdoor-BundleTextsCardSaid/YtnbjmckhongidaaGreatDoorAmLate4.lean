/-
  The abstract machine, continued: a drawn region with one late store at a row that stands, unordered against operations that do not see the row.
  Conditions: none; generic over the program.
-/
import Derived.Test.YtnbjmckhongidaaGreatDoorAmLate3
namespace Go.AM
set_option linter.unusedVariables false
set_option linter.unusedSimpArgs false
set_option linter.unusedSectionVars false

/-- A guard speaks of what the operation waits for. -/
def guardChk (l : List Oper) (T : List (List Bool)) (K i : Nat) : Option (Nat × Bool) → Bool
  | none => true
  | some (j, _) => match (dstsOf ⟨l⟩)[j]? with
    | some (some d) => okT (dstsL (l.take K)) ((T[i]?).getD []) d
    | _ => false
/-- What the store does not wait for reads no drawn slot but those that it waits for itself. -/
def freeChk (l : List Oper) (T : List (List Bool)) (K : Nat) : Bool :=
  (List.range K).all fun i => bit T K i || (match l[i]? with
    | none => true
    | some o => guardChk l T K i o.guard && (match readsM o.op with
      | none => false
      | some xs => xs.all (okX (dstsL (l.take K)) ((T[i]?).getD []))))

/-- The operations that the store does not wait for, told in a state without the row. -/
inductive FreeL (P : Program) (gs : List (Option Nat)) (s : List (Nat × AV)) (σ : St) : List Bool → List Oper → Prop
  | nil {l : List Oper} : FreeL P gs s σ [] l
  | skip {o : Oper} {bs : List Bool} {l : List Oper} (h : FreeL P gs s σ bs l) : FreeL P gs s σ (true :: bs) (o :: l)
  | op {o : Oper} {bs : List Bool} {l : List Oper} {d : Nat} {v : AV} (hq : stepQ P σ 0 o.op = some (v, [])) (hd : o.dst = some d) (hv : find s d = some v) (hg : guardGo gs σ o.guard = some true) (h : FreeL P gs s σ bs l) : FreeL P gs s σ (false :: bs) (o :: l)
  | sk {o : Oper} {bs : List Bool} {l : List Oper} {d : Nat} (hd : o.dst = some d) (hv : find s d = some (.lit undef)) (hg : guardGo gs σ o.guard = some false) (h : FreeL P gs s σ bs l) : FreeL P gs s σ (false :: bs) (o :: l)
theorem FreeL.get {P : Program} {gs : List (Option Nat)} {s : List (Nat × AV)} {σ : St} : ∀ {bs : List Bool} {l : List Oper}, FreeL P gs s σ bs l → ∀ (i : Nat), bs[i]? = some false → ∀ o, l[i]? = some o → ∃ d v, o.dst = some d ∧ find s d = some v ∧ ((guardGo gs σ o.guard = some true ∧ stepQ P σ 0 o.op = some (v, [])) ∨ (guardGo gs σ o.guard = some false ∧ v = .lit undef)) := by
  intro bs l h
  induction h with
  | nil => intro i hi; simp at hi
  | skip h ih =>
    intro i hi o ho
    cases i with
    | zero => simp at hi
    | succ i => exact ih i (by simpa using hi) o (by simpa using ho)
  | op hq hd hv hg h ih =>
    intro i hi o ho
    cases i with
    | zero =>
      simp only [List.getElem?_cons_zero, Option.some.injEq] at ho
      subst ho
      exact ⟨_, _, hd, hv, .inl ⟨hg, hq⟩⟩
    | succ i => exact ih i (by simpa using hi) o (by simpa using ho)
  | sk hd hv hg h ih =>
    intro i hi o ho
    cases i with
    | zero =>
      simp only [List.getElem?_cons_zero, Option.some.injEq] at ho
      subst ho
      exact ⟨_, _, hd, hv, .inr ⟨hg, rfl⟩⟩
    | succ i => exact ih i (by simpa using hi) o (by simpa using ho)
theorem FreeL.o {P : Program} {gs : List (Option Nat)} {s : List (Nat × AV)} {σ : St} {op : Op} {bs : List Bool} {l : List Oper} {d : Nat} {v : AV} {ty : Nat} {pos : String} {aft : Array Edge} {g : Option (Nat × Bool)} (hq : stepQ P σ 0 op = some (v, [])) (h : FreeL P gs s σ bs l) (hv : find s d = some v := by exact rfl) (hg : guardGo gs σ g = some true := by exact rfl) : FreeL P gs s σ (false :: bs) (⟨some d, op, ty, pos, aft, g⟩ :: l) := .op hq rfl hv hg h
theorem FreeL.s {P : Program} {gs : List (Option Nat)} {s : List (Nat × AV)} {σ : St} {op : Op} {bs : List Bool} {l : List Oper} {d : Nat} {ty : Nat} {pos : String} {aft : Array Edge} {g : Option (Nat × Bool)} (h : FreeL P gs s σ bs l) (hv : find s d = some (.lit undef) := by exact rfl) (hg : guardGo gs σ g = some false := by exact rfl) : FreeL P gs s σ (false :: bs) (⟨some d, op, ty, pos, aft, g⟩ :: l) := .sk rfl hv hg h

/-- The end of the drawn part: the store, and then the rest. -/
def lateS (P : Program) (l : List Oper) (T : List (List Bool)) (nx : Nat) (Q : St → Prop) (rest : List Oper) (i : Nat) (σ : St) (N : List (Nat × Obj)) : Prop :=
  ∃ (oK : Oper) (rest' : List Oper) (ty : TypeId) (x y : Operand) (r ri rj : Nat) (ob : Obj) (u : AV) (row cs : List AV), rest = oK :: rest' ∧ oK.op = .store ty x y ∧ oK.dst = none ∧ oK.guard = none ∧ N = [] ∧ (∃ q, P.info? ty = some q) ∧
    ([x, y].all (okX (dstsL (l.take i)) ((T[i]?).getD []))) = true ∧ σ.ev x = .adr r ri rj ∧ σ.ev y = u ∧ find σ.objs r = some ob ∧ ob.rows[ri]? = some row ∧ cellsAV u = some cs ∧ (Nat.ble (rj + cs.length) row.length && Nat.beq cs.length (P.cellsOf ty)) = true ∧
    freeChk l T i = true ∧ FreeL P (dstsOf ⟨l⟩) σ.slots (σ.less r) ((List.range i).map (bit T i)) l ∧
    SeqL P ⟨l⟩ rest' ⟨σ.slots, (r, { ob with rows := ob.rows.set ri (splice row rj cs), cl := ob.cl && closedL cs }) :: σ.objs, nx, σ.nt, σ.env⟩ Q

theorem late_end4 {P : Program} {l : List Oper} {σ : St} {nx : Nat} {Q : St → Prop} {T : List (List Bool)} {K : Nat} (hnd : (dstsL (l.take K)).Nodup) :
    ∀ (rest : List Oper) (σc : St) (N : List (Nat × Obj)) (R : List Res), R.length = K → l.drop K = rest → σc.slots = (R.map fun r => (r.dst, r.v)).reverse ++ σ.slots → σc.objs = σ.objs → σc.nt = σ.nt → σc.env = σ.env → σc.next = σ.next → N = R.flatMap (·.new) → R.map (·.dst) = dstsL (l.take R.length) → (∀ j r, R[j]? = some r → idsIn (σ.next + 4 * j) r.new) →
      lateS P l T nx Q rest K σc N → LateOk2 P l T σ nx K Q rest R := by
  intro rest σc N R hRK hl hs ho ht he hnx hN hds hids h
  have hRnd : (R.map (·.dst)).Nodup := by rw [hds, hRK]; exact hnd
  obtain ⟨oK, rest', ty, x, y, r, ri, rj, ob, u, row, cs, h1, h2, h3, h4, h5, h6, h7, h8, h9, h10, h11, h12, h13, h14, h15, h16⟩ := h
  have hnew : ∀ q ∈ R, q.new = [] := by
    intro q hq
    cases hnw : q.new with
    | nil => rfl
    | cons p ps =>
      exfalso
      have : p ∈ N := by rw [hN]; exact List.mem_flatMap.2 ⟨q, hq, by rw [hnw]; simp⟩
      rw [h5] at this
      cases this
  have hob : ∀ bs : List Bool, ∀ k, find (objsM bs R) k = none := by
    intro bs k
    cases hf : find (objsM bs R) k with
    | none => rfl
    | some ob =>
      exfalso
      obtain ⟨m, q, k1, k2, k3⟩ := find_objsM _ R k ob hf
      rw [hnew q (List.mem_of_getElem? k2)] at k3
      simp [find] at k3
  have hobj : ∀ (bs : List Bool) (k : Nat), find (objsM bs R ++ σ.objs) k = find σ.objs k := by
    intro bs k
    rw [find_append, hob bs k]; rfl
  have hslot : ∀ (bs bs0 : List Bool), (∀ j : Nat, bs0[j]? = some true → bs[j]? = some true) → ∀ z, okX (dstsL (l.take K)) bs0 z = true → (stD σ nx bs R).ev z = σc.ev z := by
    intro bs bs0 hbs z hz
    cases z with
    | const c => rfl
    | global g => rfl
    | func f => rfl
    | tmp d =>
      show (stD σ nx bs R).get d = σc.get d
      unfold St.get
      simp only [stD, hs]
      by_cases hm : d ∈ R.map (·.dst)
      · obtain ⟨q, hq, rfl⟩ := List.mem_map.1 hm
        obtain ⟨j, hj⟩ := List.mem_iff_getElem?.1 hq
        rw [find_rev R σ.slots q.dst j q hRnd hj rfl]
        have hz' : okT (R.map (·.dst)) bs0 q.dst = true := by rw [hds, hRK]; exact hz
        have hb := okT_spec _ _ q.dst hz' hRnd j (by rw [List.getElem?_map, hj]; rfl)
        have hb2 := hbs j hb
        rw [find_append, slotsM_find bs R j q hRnd hb2 hj]
        rfl
      · rw [find_slotsM_none bs R _ d hm, find_rev_none R _ d hm]
  refine ⟨oK, rest', [], r, { ob with rows := ob.rows.set ri (splice row rj cs), cl := ob.cl && closedL cs }, h1, h4, (fun p hp => absurd hp (by simp)), ?_, ?_, ?_⟩
  · intro i hi hb o q ho2 hq hdst
    have hfc : freeChk l T K = true := h14
    unfold freeChk at hfc
    rw [List.all_eq_true] at hfc
    have hf := hfc i (by simpa using hi)
    rw [hb, Bool.false_or, ho2] at hf
    simp only [Bool.and_eq_true] at hf
    obtain ⟨hg, hx⟩ := hf
    obtain ⟨d, v, e1, e2, e3⟩ := h15.get i (by rw [List.getElem?_map, List.getElem?_range hi]; simp [hb]) o ho2
    rw [hdst] at e1
    obtain rfl : q.dst = d := by simpa using e1
    have hv : q.v = v := by
      rw [hs, find_rev R σ.slots q.dst i q hRnd hq rfl] at e2
      simpa using e2
    have hgt : ∀ b, guardGo (dstsOf ⟨l⟩) (σc.less r) o.guard = some b → guardGo (dstsOf ⟨l⟩) ((stD σ nx ((T[i]?).getD []) R).less r) o.guard = some b := by
      intro b hb
      cases hgo : o.guard with
      | none => rw [hgo] at hb; exact hb
      | some g =>
        obtain ⟨j, want⟩ := g
        rw [hgo] at hb hg
        unfold guardChk at hg
        unfold guardGo at hb ⊢
        simp only at hb hg ⊢
        split at hg
        · rename_i d hd
          rw [hd] at hb ⊢
          simp only at hb ⊢
          have h17 : ((stD σ nx ((T[i]?).getD []) R).less r).get d = (σc.less r).get d := hslot ((T[i]?).getD []) _ (fun j hj => hj) (.tmp d) hg
          rw [h17]
          exact hb
        · cases hg
    refine ⟨hnew q (List.mem_of_getElem? hq), ?_⟩
    rcases e3 with ⟨e4, e3⟩ | ⟨e4, e5⟩
    rotate_left
    · exact .inr ⟨hgt _ e4, hv.trans e5⟩
    refine .inl ⟨hgt _ e4, ?_⟩
    rw [hv]
    cases hr : readsM o.op with
    | none => rw [hr] at hx; cases hx
    | some xs =>
      rw [hr] at hx
      refine stepQ_sound (id := 0) (stepQ_mono hr (σ := σc.less r) ?_ ?_ e3)
      · intro k o' hk
        simp only [St.less, stD] at hk ⊢
        rw [find_del] at hk ⊢
        split at hk
        · cases hk
        · rename_i e
          rw [if_neg e, hobj, ← ho]
          exact hk
      · intro z hz
        have h17 := hslot ((T[i]?).getD []) _ (fun j hj => hj) z (List.all_eq_true.1 hx z hz)
        cases z <;> exact h17
  · intro bs hbs
    simp only [List.all_cons, List.all_nil, Bool.and_true, Bool.and_eq_true] at h7
    have hb0 : ∀ j : Nat, ((T[K]?).getD [])[j]? = some true → bs[j]? = some true := fun j hj => hbs j (by unfold bit; rw [List.getD_eq_getElem?_getD, hj]; rfl)
    have hx := (hslot bs _ hb0 x h7.1).trans h8
    have hy := (hslot bs _ hb0 y h7.2).trans h9
    have hob2 : find (stD σ nx bs R).objs r = some ob := by
      show find (objsM bs R ++ σ.objs) r = _
      rw [hobj, ← ho]
      exact h10
    have hw : Writer P (stD σ nx bs R) oK _ := Writer.store h2 h6 (fun d hd => by rw [h3] at hd; cases hd) (σ' := { (stD σ nx bs R) with objs := (r, { ob with rows := ob.rows.set ri (splice row rj cs), cl := ob.cl && closedL cs }) :: del (stD σ nx bs R).objs r }) (by
      rw [hx, hy]
      simp only [storeAV, hob2, Option.bind_some, h11, h12, h13, cond_true])
    intro C E X a hr K' Q' hk
    refine hw C E X a hr K' Q' (fun E' X' a' hr' => hk E' X' a' (hr'.sub ?_ ?_ (Nat.le_refl _) rfl rfl))
    · intro s v hv
      simp only [h3, St.put]
      exact hv
    · intro k o hk'
      simp only [h3, St.put, St.wr, find_cons] at hk' ⊢
      split at hk'
      · rename_i e; rw [if_pos e]; exact hk'
      · rename_i e
        rw [if_neg e, find_del, if_neg e]
        exact hk'
  · refine SeqL.weaken (σ' := ⟨σc.slots, (r, { ob with rows := ob.rows.set ri (splice row rj cs), cl := ob.cl && closedL cs }) :: σc.objs, nx, σc.nt, σc.env⟩) (Wk.sub ?_ ?_ (Nat.le_refl _) ht he) h16
    · intro s v hv
      simp only [St.wr, stAll, List.nil_append]
      rw [hs] at hv
      by_cases hm : s ∈ R.map (·.dst)
      · obtain ⟨q, hq, rfl⟩ := List.mem_map.1 hm
        obtain ⟨j, hj⟩ := List.mem_iff_getElem?.1 hq
        rw [find_rev R σ.slots q.dst j q hRnd hj rfl] at hv
        have hnd' : (R.reverse.map (·.dst)).Nodup := by rw [List.map_reverse]; exact nodup_rev hRnd
        have hr' : q ∈ R.reverse := List.mem_reverse.2 hq
        obtain ⟨j', hj'⟩ := List.mem_iff_getElem?.1 hr'
        have := find_rev R.reverse σ.slots q.dst j' q hnd' hj' rfl
        rw [← List.map_reverse, List.reverse_reverse] at this
        rw [this]
        exact hv
      · rw [find_rev_none R _ s hm] at hv
        have hm' : s ∉ R.reverse.map (·.dst) := by rw [List.map_reverse, List.mem_reverse]; exact hm
        have := find_rev_none R.reverse σ.slots s hm'
        rw [← List.map_reverse, List.reverse_reverse] at this
        rw [this]
        exact hv
    · intro k o hk
      simp only [St.wr, stAll, find_cons] at hk ⊢
      split at hk
      · rename_i e; rw [if_pos e]; exact hk
      · rename_i e
        rw [if_neg e]
        rw [ho] at hk
        rw [find_append]
        cases hf : find (R.flatMap (·.new)) k with
        | none => simpa using hk
        | some u =>
          exfalso
          obtain ⟨j, q, k1, k2⟩ := find_flat R k u hf
          rw [hnew q (List.mem_of_getElem? k1)] at k2
          simp [find] at k2
theorem Ev.region_Z {P : Program} {s : List (Nat × AV)} {b : List (Nat × Obj)} {n t e : Nat} {Q : Exit → St → Prop} {id : Nat} {l : List Oper} (T : List (List Bool)) (K : Nat)
    (h : ∀ Kt : St → Prop, (∀ σ', Q .normal σ' → Kt σ') → DM P l T (n + 4 * K) (lateS P l T (n + 4 * K) Kt) l K 0 ⟨s, b, n, t, e⟩ []) (hm : P.follows .mixedOrders = true := by exact rfl) (hok : drawOkL l T ⟨s, b, n, t, e⟩ K = true := by exact rfl) (hch : readsChkM l T K = true := by exact rfl) (hTl : Nat.ble K T.length = true := by exact rfl) (hkb : keysLt n b = true := by exact rfl) : Ev P (.region id ⟨l⟩ true) ⟨s, b, n, t, e⟩ Q := by
  have hok' := hok
  simp only [drawOkL, Bool.and_eq_true, decide_eq_true_eq, List.all_eq_true] at hok'
  obtain ⟨⟨_, hKl⟩, ⟨_, hnd⟩, _⟩ := hok'
  refine Ev.drawL2 T K hm hok (ble_le hTl) fun Kt hKt => ?_
  have := DM_F (σ := ⟨s, b, n, t, e⟩) hch hnd (ble_le hTl) (Nat.le_of_lt (Nat.le_of_ble_eq_true hKl)) hkb (late_end4 hnd) (h Kt hKt) [] (by simp) rfl rfl (by simp) rfl rfl rfl rfl (by simp) rfl (by simp)
  simpa using this
section rules
variable {P : Program} {s : List (Nat × AV)} {b : List (Nat × Obj)} {n t e nx i : Nat} {l rest : List Oper} {T : List (List Bool)} {Q : St → Prop} {ty : Nat} {pos : String} {aft : Array Edge} {x y : Operand}
/-- The late store at a variable that stands. -/
theorem M.ste {st r ri rj c : Nat} {ob : Obj} {u : AV} {row cs : List AV} (row' : List AV) (cl' : Bool) (bs : List Bool) (b' b2 : List (Nat × Obj)) (hin : (P.info? st).isSome = true) (hcl : P.cellsOf st = c) (hx : opv s x = some (.adr r ri rj) := by exact rfl) (hy : opv s y = some u := by exact rfl) (ho : find b r = some ob := by exact rfl) (hb : del b r = b' := by exact rfl) (hfr : FreeL P (dstsOf ⟨l⟩) s ⟨s, b', n, t, e⟩ bs l) (hrow : ob.rows[ri]? = some row := by exact rfl) (hc : cellsAV u = some cs := by exact rfl)
    (hchk : (Nat.ble (rj + cs.length) row.length && Nat.beq cs.length c) = true := by exact rfl) (hsp : splice row rj cs = row' := by exact rfl) (hcl' : (ob.cl && closedL cs) = cl' := by exact rfl) (hok : ([x, y].all (okX (dstsL (l.take i)) ((T[i]?).getD []))) = true := by exact rfl) (hfc : freeChk l T i = true := by exact rfl)
    (hbs : (List.range i).map (bit T i) = bs := by exact rfl) (hb2 : (r, { ob with rows := ob.rows.set ri row', cl := cl' }) :: b' = b2 := by exact rfl)
    (h : SeqL P ⟨l⟩ rest ⟨s, b2, nx, t, e⟩ Q) : DM P l T nx (lateS P l T nx Q) (⟨none, .store st x y, ty, pos, aft, none⟩ :: rest) 0 i ⟨s, b, n, t, e⟩ [] := by
  subst hcl hsp hcl' hb hbs hb2
  refine .stop ⟨_, rest, st, x, y, r, ri, rj, ob, u, row, cs, rfl, rfl, rfl, rfl, rfl, Option.isSome_iff_exists.1 hin, hok, opv_ev hx, opv_ev hy, ho, hrow, hc, hchk, hfc, hfr, ?_⟩
  refine SeqL.weaken (σ' := ⟨s, (r, { ob with rows := ob.rows.set ri (splice row rj cs), cl := ob.cl && closedL cs }) :: del b r, nx, t, e⟩) (Wk.sub (fun _ _ h => h) (fun k o hk => ?_) (Nat.le_refl _) rfl rfl) h
  simp only [find_cons] at hk ⊢
  split at hk
  · rename_i e; rw [if_pos e]; exact hk
  · rename_i e
    rw [if_neg e]
    rw [find_del, if_neg e] at hk
    exact hk
end rules
section rules2
variable {P : Program} {s : List (Nat × AV)} {b : List (Nat × Obj)} {n t e : Nat} {Q : Exit → St → Prop}
theorem Ev.sz {id : Nat} {l : List Oper} {y : Code} (T : List (List Bool)) (K : Nat) (h : ∀ Kt : St → Prop, (∀ σ', Ev P y σ' Q → Kt σ') → DM P l T (n + 4 * K) (lateS P l T (n + 4 * K) Kt) l K 0 ⟨s, b, n, t, e⟩ []) (hm : P.follows .mixedOrders = true := by exact rfl) (hok : drawOkL l T ⟨s, b, n, t, e⟩ K = true := by exact rfl)
    (hch : readsChkM l T K = true := by exact rfl) (hTl : Nat.ble K T.length = true := by exact rfl) (hkb : keysLt n b = true := by exact rfl) : Ev P (.seq (.region id ⟨l⟩ true) y) ⟨s, b, n, t, e⟩ Q := Ev.seq (Ev.region_Z T K (fun Kt hK => h Kt fun σ' h' => hK σ' h') hm hok hch hTl hkb)
end rules2
end Go.AM
