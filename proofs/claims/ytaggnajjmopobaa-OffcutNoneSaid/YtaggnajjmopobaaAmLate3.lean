/-
  The abstract machine, continued: a drawn region with one late writer that is unordered against one move alone.
  Conditions: none; generic over the program.
-/
import Derived.Test.YtaggnajjmopobaaAmLate2
import Derived.Test.YtaggnajjmopobaaAmCopy
namespace Go.AM
set_option linter.unusedVariables false
set_option linter.unusedSimpArgs false
set_option linter.unusedSectionVars false

/-- The end of the drawn part: a writer, and then the rest. -/
def lateW (P : Program) (l : List Oper) (T : List (List Bool)) (nx : Nat) (Q : St → Prop) (rest : List Oper) (i : Nat) (σ : St) (N : List (Nat × Obj)) : Prop :=
  ∃ (oK : Oper) (rest' : List Oper) (dK : Nat) (vK : AV) (r : Nat) (o0 : Obj) (x y : Operand) (j0 d0 t0 ty0 : Nat) (pos0 : String) (aft0 : Array Edge) (v0 : AV), rest = oK :: rest' ∧ oK.guard = none ∧ N = [] ∧
    ([x, y].all (okX (dstsL (l.take i)) ((T[i]?).getD []))) = true ∧ (∀ σ' : St, σ'.ev x = σ.ev x → σ'.ev y = σ.ev y → find σ'.objs r = find σ.objs r → σ'.nt = σ.nt → Writer P σ' oK (σ'.wr [(dK, vK)] r o0)) ∧
    find σ.slots dK = none ∧ l[j0]? = some ⟨some d0, .move (.tmp t0), ty0, pos0, aft0, none⟩ ∧ (dstsL (l.take i)).elem t0 = false ∧ find σ.slots t0 = some v0 ∧ find σ.slots d0 = some v0 ∧
    ((List.range i).all fun j => bit T i j || Nat.beq j j0) = true ∧ SeqL P ⟨l⟩ rest' ⟨(dK, vK) :: σ.slots, (r, o0) :: σ.objs, nx, σ.nt, σ.env⟩ Q

theorem late_end3 {P : Program} {l : List Oper} {σ : St} {nx : Nat} {Q : St → Prop} {T : List (List Bool)} {K : Nat} (hnd : (dstsL (l.take K)).Nodup) :
    ∀ (rest : List Oper) (σc : St) (N : List (Nat × Obj)) (R : List Res), R.length = K → l.drop K = rest → σc.slots = (R.map fun r => (r.dst, r.v)).reverse ++ σ.slots → σc.objs = σ.objs → σc.nt = σ.nt → σc.env = σ.env → σc.next = σ.next → N = R.flatMap (·.new) → R.map (·.dst) = dstsL (l.take R.length) → (∀ j r, R[j]? = some r → idsIn (σ.next + 4 * j) r.new) →
      lateW P l T nx Q rest K σc N → LateOk2 P l T σ nx K Q rest R := by
  intro rest σc N R hRK hl hs ho ht he hnx hN hds hids h
  have hRnd : (R.map (·.dst)).Nodup := by rw [hds, hRK]; exact hnd
  obtain ⟨oK, rest', dK, vK, r, o0, x, y, j0, d0, t0, ty0, pos0, aft0, v0, h1, h2, h3, h4, h5, h6, h7, h8, h9, h10, h11, h12⟩ := h
  have hnew : ∀ q ∈ R, q.new = [] := by
    intro q hq
    cases hnw : q.new with
    | nil => rfl
    | cons p ps =>
      exfalso
      have : p ∈ N := by rw [hN]; exact List.mem_flatMap.2 ⟨q, hq, by rw [hnw]; simp⟩
      rw [h3] at this
      cases this
  have hdR : ∀ q ∈ R, q.dst ≠ dK := by
    intro q hq e
    obtain ⟨j, hj⟩ := List.mem_iff_getElem?.1 hq
    rw [hs, find_rev R σ.slots dK j q hRnd hj e] at h6
    cases h6
  have hdS : find σ.slots dK = none := by
    rw [hs, find_rev_none R σ.slots dK (by
      intro hm
      obtain ⟨q, hq, e⟩ := List.mem_map.1 hm
      exact hdR q hq e)] at h6
    exact h6
  have hob : ∀ bs : List Bool, objsM bs R = [] ∨ ∀ k, find (objsM bs R) k = none := by
    intro bs
    refine .inr fun k => ?_
    cases hf : find (objsM bs R) k with
    | none => rfl
    | some ob =>
      exfalso
      obtain ⟨m, q, k1, k2, k3⟩ := find_objsM _ R k ob hf
      rw [hnew q (List.mem_of_getElem? k2)] at k3
      simp [find] at k3
  have hobj : ∀ (bs : List Bool) (k : Nat), find (objsM bs R ++ σ.objs) k = find σ.objs k := by
    intro bs k
    rw [find_append]
    rcases hob bs with h | h
    · rw [h]; simp [find]
    · rw [h k]; rfl
  refine ⟨oK, rest', [(dK, vK)], r, o0, h1, h2, fun p hp => ?_, ?_, ?_, ?_⟩
  · rw [List.mem_singleton] at hp
    subst hp
    exact ⟨hdS, hdR⟩
  · intro i hi hb o q ho2 hq hdst
    have hij : i = j0 := by
      rw [List.all_eq_true] at h11
      have := h11 i (by simpa using hi)
      rw [hb, Bool.false_or] at this
      exact Nat.eq_of_beq_eq_true this
    subst hij
    rw [h7] at ho2
    simp only [Option.some.injEq] at ho2
    subst ho2
    simp only [Option.some.injEq] at hdst
    refine ⟨hnew q (List.mem_of_getElem? hq), .inl ⟨rfl, ?_⟩⟩
    have hv : q.v = v0 := by
      rw [hs, find_rev R σ.slots d0 i q hRnd hq hdst.symm] at h10
      simpa using h10
    have htR : t0 ∉ R.map (·.dst) := by
      rw [hds, hRK]
      intro hm
      have : (dstsL (l.take K)).elem t0 = true := by simpa using hm
      rw [this] at h8
      cases h8
    have ht0 : find σ.slots t0 = some v0 := by
      rw [hs, find_rev_none R σ.slots t0 htR] at h9
      exact h9
    rw [hv]
    refine stepQ_sound (id := 0) ?_
    show stepQ P _ 0 (.move (.tmp t0)) = some (v0, [])
    simp only [stepQ]
    have hev : ((stD σ nx ((T[i]?).getD []) R).less r).ev (.tmp t0) = v0 := by
      show ((stD σ nx ((T[i]?).getD []) R).less r).get t0 = v0
      unfold St.get
      simp only [St.less, stD]
      rw [find_slotsM_none _ R _ t0 htR, ht0]
    rw [hev]
  · intro bs hbs
    have hslot : ∀ z, okX (dstsL (l.take K)) ((T[K]?).getD []) z = true → (stD σ nx bs R).ev z = σc.ev z := by
      intro z hz
      cases z with
      | const c => rfl
      | global g => rfl
      | func f => rfl
      | tmp d =>
        show (stD σ nx bs R).get d = σc.get d
        unfold St.get
        simp only [stD, hs]
        by_cases hm : d ∈ R.map (·.dst)
        · obtain ⟨q, hq, rfl⟩ := List.mem_map.1 hm
          obtain ⟨j, hj⟩ := List.mem_iff_getElem?.1 hq
          rw [find_rev R σ.slots q.dst j q hRnd hj rfl]
          have hz' : okT (R.map (·.dst)) ((T[K]?).getD []) q.dst = true := by rw [hds, hRK]; exact hz
          have hb := okT_spec _ _ q.dst hz' hRnd j (by rw [List.getElem?_map, hj]; rfl)
          have hb2 := hbs j (by unfold bit; rw [List.getD_eq_getElem?_getD, hb]; rfl)
          rw [find_append, slotsM_find bs R j q hRnd hb2 hj]
          rfl
        · rw [find_slotsM_none bs R _ d hm, find_rev_none R _ d hm]
    simp only [List.all_cons, List.all_nil, Bool.and_true, Bool.and_eq_true] at h4
    refine h5 (stD σ nx bs R) (hslot x h4.1) (hslot y h4.2) ?_ (by rw [ht]; rfl)
    rw [ho]
    exact hobj bs r
  · refine SeqL.weaken (σ' := ⟨(dK, vK) :: σc.slots, (r, o0) :: σc.objs, nx, σc.nt, σc.env⟩) (Wk.sub ?_ ?_ (Nat.le_refl _) ht he) h12
    · intro s v hv
      simp only [St.wr, stAll, List.cons_append, List.nil_append]
      rw [find_cons] at hv ⊢
      split at hv
      · rename_i e; rw [if_pos e]; exact hv
      · rename_i e
        rw [if_neg e]
        rw [hs] at hv
        by_cases hm : s ∈ R.map (·.dst)
        · obtain ⟨q, hq, rfl⟩ := List.mem_map.1 hm
          obtain ⟨j, hj⟩ := List.mem_iff_getElem?.1 hq
          rw [find_rev R σ.slots q.dst j q hRnd hj rfl] at hv
          have hnd' : (R.reverse.map (·.dst)).Nodup := by rw [List.map_reverse]; exact nodup_rev hRnd
          have hr' : q ∈ R.reverse := List.mem_reverse.2 hq
          obtain ⟨j', hj'⟩ := List.mem_iff_getElem?.1 hr'
          have := find_rev R.reverse σ.slots q.dst j' q hnd' hj' rfl
          rw [← List.map_reverse, List.reverse_reverse] at this
          rw [this]
          exact hv
        · rw [find_rev_none R _ s hm] at hv
          have hm' : s ∉ R.reverse.map (·.dst) := by rw [List.map_reverse, List.mem_reverse]; exact hm
          have := find_rev_none R.reverse σ.slots s hm'
          rw [← List.map_reverse, List.reverse_reverse] at this
          rw [this]
          exact hv
    · intro k o hk
      simp only [St.wr, stAll, find_cons] at hk ⊢
      split at hk
      · rename_i e; rw [if_pos e]; exact hk
      · rename_i e
        rw [if_neg e]
        rw [ho] at hk
        rw [find_append]
        cases hf : find (R.flatMap (·.new)) k with
        | none => simpa using hk
        | some u =>
          exfalso
          obtain ⟨j, q, k1, k2⟩ := find_flat R k u hf
          rw [hnew q (List.mem_of_getElem? k1)] at k2
          simp [find] at k2
theorem Ev.region_W {P : Program} {s : List (Nat × AV)} {b : List (Nat × Obj)} {n t e : Nat} {Q : Exit → St → Prop} {id : Nat} {l : List Oper} (T : List (List Bool)) (K : Nat)
    (h : ∀ Kt : St → Prop, (∀ σ', Q .normal σ' → Kt σ') → DM P l T (n + 4 * K) (lateW P l T (n + 4 * K) Kt) l K 0 ⟨s, b, n, t, e⟩ []) (hm : P.follows .mixedOrders = true := by exact rfl) (hok : drawOkL l T ⟨s, b, n, t, e⟩ K = true := by exact rfl) (hch : readsChkM l T K = true := by exact rfl) (hTl : Nat.ble K T.length = true := by exact rfl) (hkb : keysLt n b = true := by exact rfl) : Ev P (.region id ⟨l⟩ true) ⟨s, b, n, t, e⟩ Q := by
  have hok' := hok
  simp only [drawOkL, Bool.and_eq_true, decide_eq_true_eq, List.all_eq_true] at hok'
  obtain ⟨⟨_, hKl⟩, ⟨_, hnd⟩, _⟩ := hok'
  refine Ev.drawL2 T K hm hok (ble_le hTl) fun Kt hKt => ?_
  have := DM_F (σ := ⟨s, b, n, t, e⟩) hch hnd (ble_le hTl) (Nat.le_of_lt (Nat.le_of_ble_eq_true hKl)) hkb (late_end3 hnd) (h Kt hKt) [] (by simp) rfl rfl (by simp) rfl rfl rfl rfl (by simp) rfl (by simp)
  simpa using this

section rules
variable {P : Program} {s : List (Nat × AV)} {b : List (Nat × Obj)} {n t e nx i : Nat} {l rest : List Oper} {T : List (List Bool)} {Q : St → Prop} {d ty r : Nat} {pos : String} {aft : Array Edge} {x y : Operand}
/-- The late copy. -/
theorem M.cpd {U : Type} {f : U → List AV} {l0 : List U} {st el i1 j1 m1 m2 d0 t0 ty0 : Nat} {zs : List AV} {pos0 : String} {aft0 : Array Edge} {v0 : AV} (j0 : Nat) (b' : List (Nat × Obj)) (hel : elemOfSlice P st = some el) (hze : zeroCellsAV P el = some zs) (hcl : P.cellsOf el = 1)
    (hx : opv s x = some (.als r i1 m1) := by exact rfl) (hy : opv s y = some (.als r j1 m2) := by exact rfl) (ho : find b r = some ⟨true, el, 1, l0.map f, true⟩ := by exact rfl) (him : i1 + m1 ≤ l0.length := by omega) (hjm : j1 + m2 ≤ l0.length := by omega) (h1 : 0 < m1 := by omega) (h2 : 0 < m2 := by omega)
    (hd : Nat.blt d t = true := by exact rfl) (hok : ([x, y].all (okX (dstsL (l.take i)) ((T[i]?).getD []))) = true := by exact rfl) (hdK : find s d = none := by exact rfl) (hj0 : l[j0]? = some ⟨some d0, .move (.tmp t0), ty0, pos0, aft0, none⟩ := by exact rfl) (ht0 : (dstsL (l.take i)).elem t0 = false := by exact rfl)
    (hv1 : find s t0 = some v0 := by exact rfl) (hv2 : find s d0 = some v0 := by exact rfl) (hanc : ((List.range i).all fun j => bit T i j || Nat.beq j j0) = true := by exact rfl) (hb : del b r = b' := by exact rfl)
    (h : SeqL P ⟨l⟩ rest ⟨(d, .lit (.int .i64 ((min m2 m1 : Nat) : Int))) :: s, (r, ⟨true, el, 1, (l0.take i1 ++ (l0.drop j1).take (min m2 m1) ++ l0.drop (i1 + min m2 m1)).map f, true⟩) :: b', nx, t, e⟩ Q) :
    DM P l T nx (lateW P l T nx Q) (⟨some d, .call { callee := .builtin .copy, args := #[x, y], argTypes := #[st, st] }, ty, pos, aft, none⟩ :: rest) 0 i ⟨s, b, n, t, e⟩ [] := by
  subst hb
  refine .stop ⟨_, rest, d, .lit (.int .i64 ((min m2 m1 : Nat) : Int)), r, ⟨true, el, 1, (l0.take i1 ++ (l0.drop j1).take (min m2 m1) ++ l0.drop (i1 + min m2 m1)).map f, true⟩, x, y, j0, d0, t0, ty0, pos0, aft0, v0, rfl, rfl, rfl, hok, fun σ' e1 e2 e3 e4 => ?_, hdK, hj0, ht0, hv1, hv2, hanc, ?_⟩
  · refine W.cpd hel hze hcl (e1.trans (opv_ev hx)) (e2.trans (opv_ev hy)) (e3.trans ho) him hjm h1 h2 ?_
    rw [e4]
    exact Nat.le_of_ble_eq_true hd
  · refine SeqL.weaken (σ' := ⟨(d, .lit (.int .i64 ((min m2 m1 : Nat) : Int))) :: s, (r, ⟨true, el, 1, (l0.take i1 ++ (l0.drop j1).take (min m2 m1) ++ l0.drop (i1 + min m2 m1)).map f, true⟩) :: del b r, nx, t, e⟩) (Wk.sub (fun _ _ h => h) (fun k o hk => ?_) (Nat.le_refl _) rfl rfl) h
    simp only [find_cons] at hk ⊢
    split at hk
    · rename_i e; rw [if_pos e]; exact hk
    · rename_i e
      rw [if_neg e]
      rw [find_del, if_neg e] at hk
      exact hk
end rules
section rules2
variable {P : Program} {s : List (Nat × AV)} {b : List (Nat × Obj)} {n t e : Nat} {Q : Exit → St → Prop}
theorem Ev.sw {id : Nat} {l : List Oper} {y : Code} (T : List (List Bool)) (K : Nat) (h : ∀ Kt : St → Prop, (∀ σ', Ev P y σ' Q → Kt σ') → DM P l T (n + 4 * K) (lateW P l T (n + 4 * K) Kt) l K 0 ⟨s, b, n, t, e⟩ []) (hm : P.follows .mixedOrders = true := by exact rfl) (hok : drawOkL l T ⟨s, b, n, t, e⟩ K = true := by exact rfl)
    (hch : readsChkM l T K = true := by exact rfl) (hTl : Nat.ble K T.length = true := by exact rfl) (hkb : keysLt n b = true := by exact rfl) : Ev P (.seq (.region id ⟨l⟩ true) y) ⟨s, b, n, t, e⟩ Q := Ev.seq (Ev.region_W T K (fun Kt hK => h Kt fun σ' h' => hK σ' h') hm hok hch hTl hkb)
end rules2
end Go.AM
