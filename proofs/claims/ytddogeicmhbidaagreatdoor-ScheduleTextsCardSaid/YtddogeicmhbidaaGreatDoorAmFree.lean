/-
  The abstract machine, continued: a drawn region whose last operation is a constant that nobody of the region waits for.
  Conditions: none; generic over the program.
-/
import Derived.Test.YtddogeicmhbidaaGreatDoorAmAuto
namespace Go.AM
set_option linter.unusedVariables false
set_option linter.unusedSimpArgs false
set_option linter.unusedSectionVars false
theorem draw_any {P : Program} {σ : St} {Qn : St → Prop} {l : List Oper} (T : List (List Bool)) (K : Nat) (hok : drawOk l T σ K = true) (hTl : K ≤ T.length)
    (h : drawF P l (dstsOf ⟨l⟩) σ (σ.next + 4 * K) (finS P l σ (σ.next + 4 * K) Qn) l (T.take K) []) {C : Ctx} {E : Env} {X : Nat → List Value} {a : Act} (hr : Rel C E X σ a) (Q : Exit → Act → World → Prop)
    (hQ : ∀ E' X' σ' a', Rel C E' X' σ' a' → Qn σ' → Q .normal a' E'.w) : wpAny P .any ⟨l⟩ Q l.length (Array.replicate l.length false) a E.w.drew := by
  simp only [drawOk, Bool.and_eq_true, decide_eq_true_eq, List.all_eq_true] at hok
  obtain ⟨⟨hc, hKl⟩, ⟨hdj, hnd⟩, hdn⟩ := hok
  have hKl := ble_le hKl
  have hTK : (T.take K).length = K := by simp; omega
  obtain ⟨S, h1, h2, h3⟩ := drawF_spec l (T.take K) [] h (fun i hi => by
    have hiK : i < K := by omega
    have ho : l[i]? = some l[i] := List.getElem?_eq_getElem (by omega)
    have := (chk_spec hc ho).1
    have e : T[i]? = some T[i] := List.getElem?_eq_getElem (by omega)
    rw [e] at this
    simpa using this)
  simp only [List.nil_append, List.length_nil, Nat.zero_add] at h2 h3
  rw [hTK] at h1 h2 h3
  -- the slots written
  have hds : S.map (·.dst) = dstsL (l.take K) := by
    have key : ∀ (n : Nat) (l' : List Oper) (S' : List Res), S'.length = n → l'.length = n → (∀ i, i < n → ∃ o r, l'[i]? = some o ∧ S'[i]? = some r ∧ o.dst = some r.dst) → S'.map (·.dst) = dstsL l' := by
      intro n
      induction n with
      | zero =>
        intro l' S' e1 e2 _
        rw [List.eq_nil_of_length_eq_zero e1, List.eq_nil_of_length_eq_zero e2]
        rfl
      | succ n ih =>
        intro l' S' e1 e2 hh
        match l', S', e1, e2 with
        | o :: l', r :: S', e1, e2 =>
          obtain ⟨o0, r0, k1, k2, k3⟩ := hh 0 (by omega)
          simp only [List.getElem?_cons_zero, Option.some.injEq] at k1 k2
          subst k1 k2
          simp only [List.map_cons, dstsL, k3]
          rw [ih l' S' (by simpa using e1) (by simpa using e2) (fun i hi => by
            obtain ⟨o1, r1, j1, j2, j3⟩ := hh (i + 1) (by omega)
            exact ⟨o1, r1, by simpa using j1, by simpa using j2, j3⟩)]
    refine key K (l.take K) S h1 (by simp; omega) (fun i hi => ?_)
    obtain ⟨o, r, k1, k2, k3, _⟩ := h3 i hi
    exact ⟨o, r, by rw [List.getElem?_take, if_pos hi]; exact k1, k2, k3⟩
  have hst : ∀ bs, stM σ (S.map (·.dst)) (σ.next + 4 * K) bs S = stD σ (σ.next + 4 * K) bs S := by
    intro bs
    simp only [stM, stD, hds, hide_disj hdj]
  have hr' := hr.drew
  have hσ : ∀ k o, find σ.objs k = some o → k < σ.next := fun k o hk => hr.fresh k (hr.objs k o hk).1
  have hR : ∀ i, i < K → ResOk P l σ (S.map (·.dst)) (σ.next + 4 * K) K T S i := by
    intro i hi o r ho hSr
    obtain ⟨o', r', k1, k2, k3, k4, k5⟩ := h3 i hi
    rw [ho] at k1
    rw [hSr] at k2
    simp only [Option.some.injEq] at k1 k2
    subst k1 k2
    refine ⟨k3, ?_, fun k ob hf => idsIn_find k4 k ob hf, ?_⟩
    · have : r.dst ∈ dstsL (l.take K) := by rw [← hds]; exact List.mem_map.2 ⟨r, List.mem_of_getElem? hSr, rfl⟩
      exact Nat.le_of_ble_eq_true (hdn _ this)
    · rw [hst]
      have e : ((T.take K)[i]?).getD [] = (T[i]?).getD [] := by rw [List.getElem?_take, if_pos hi]
      rw [e] at k5
      exact k5
  have hall : stM σ (S.map (·.dst)) (σ.next + 4 * K) (List.replicate K true) S = stAll σ (σ.next + 4 * K) S := by
    rw [hst]
    simp only [stD, stAll]
    rw [← h1, slotsM_all, objsM_all]
  have hgoal := any_of_draw (P := P) (nx := σ.next + 4 * K) (C := C) (Q := Q) hc hKl h1 (by rw [hds]; exact hnd) hR (Nat.le_refl _) hσ (fun E X a hr2 => by
      rw [hall] at hr2
      exact h2 C E X a hr2 _ (fun E' X' σ' a' hr3 hq => hQ E' X' σ' a' hr3 hq))
    l.length (Array.replicate l.length false) { E with w := E.w.drew } X a (by simp) ?_ ?_ ?_ ?_ ?_
  · simpa using hgoal
  · have : ∀ n, n ≤ l.length → (List.range n).countP (fun j => !(Array.replicate l.length false).getD j true) = n := by
      intro n
      induction n with
      | zero => intro _; simp
      | succ n ih =>
        intro hn
        rw [List.range_succ, List.countP_append, ih (by omega), List.countP_singleton]
        simp [Array.getD, show n < l.length by omega]
    exact this _ (Nat.le_refl _)
  · intro i o _ hl
    simp [Array.getD] at hl
  · intro i _
    simp [Array.getD]
  · have hb : ∀ j : Nat, (bitsOf K (Array.replicate l.length false))[j]? ≠ some true := by
      intro j hj
      have := (bitsOf_get.1 hj).2
      simp [Array.getD] at this
    refine hr'.sub ?_ ?_ (by simp [stM]) rfl rfl
    · intro s v hv
      simp only [stM, hds, hide_disj hdj] at hv
      rw [find_append] at hv
      cases g : find (slotsM (bitsOf K (Array.replicate l.length false)) S) s with
      | some u =>
        obtain ⟨j, r, g1, _⟩ := find_slotsM _ S s u g
        exact absurd g1 (hb j)
      | none => rw [g] at hv; simpa using hv
    · intro k o hv
      simp only [stM] at hv
      rw [find_append] at hv
      cases g : find (objsM (bitsOf K (Array.replicate l.length false)) S) k with
      | some u =>
        obtain ⟨j, r, g1, _⟩ := find_objsM _ S k u g
        exact absurd g1 (hb j)
      | none => rw [g] at hv; simpa using hv
  · intro r hD
    exact .inl (hr.fresh r hD)

/-- The edges and the guards stay inside. -/
def insideB (l : List Oper) : Bool := l.all fun o => (o.after.toList.all fun e => Nat.blt e.on l.length) && (match o.guard with
  | none => true
  | some (j, _) => Nat.blt j l.length)
theorem inside_spec {l : List Oper} (h : insideB l = true) {o : Oper} (ho : o ∈ l) : (∀ e ∈ o.after, e.on < l.length) ∧ ∀ j b, o.guard = some (j, b) → j < l.length := by
  unfold insideB at h
  have := List.all_eq_true.1 h o ho
  simp only [Bool.and_eq_true, List.all_eq_true] at this
  refine ⟨fun e he => Nat.le_of_ble_eq_true (this.1 e (by simpa using he)), fun j b hg => ?_⟩
  have h2 := this.2
  rw [hg] at h2
  exact Nat.le_of_ble_eq_true h2
theorem ready_push {l : List Oper} {oF : Oper} (h : insideB l = true) {listed : Array Bool} (hsz : listed.size = l.length) (i : Nat) :
    i ∈ Region.ready .any ⟨l ++ [oF]⟩ (listed.push true) ↔ i ∈ Region.ready .any ⟨l⟩ listed := by
  rw [Go.mem_ready, Go.mem_ready]
  have hg : ∀ (j : Nat) (d : Bool), j < l.length → (listed.push true).getD j d = listed.getD j d := by
    intro j d hj
    simp [Array.getD, hsz, hj, Nat.lt_succ_of_lt hj, Array.getElem_push, show j < listed.size by omega]
  constructor
  · rintro ⟨h1, o, ho, h2⟩
    have hi : i < l.length := by
      rcases Nat.lt_or_ge i l.length with hi | hi
      · exact hi
      · exfalso
        have hi2 : i = l.length := by
          have := (Array.getElem?_eq_some_iff.1 ho).1
          simp at this
          omega
        have h3 : (listed.push true).getD i true = true := by rw [Array.getD_eq_getD_getElem?, Array.getElem?_push, if_pos (by omega)]; rfl
        rw [h3] at h1
        cases h1
    have ho' : l[i]? = some o := by
      have : (l ++ [oF])[i]? = some o := by simpa using ho
      rwa [List.getElem?_append_left hi] at this
    obtain ⟨k1, _⟩ := inside_spec h (List.mem_of_getElem? ho')
    exact ⟨by rw [← hg i true hi]; exact h1, o, by simpa using ho', fun e he hb => by rw [← hg e.on false (k1 e he)]; exact h2 e he hb⟩
  · rintro ⟨h1, o, ho, h2⟩
    have ho' : l[i]? = some o := by simpa using ho
    have hi := (List.getElem?_eq_some_iff.1 ho').1
    obtain ⟨k1, _⟩ := inside_spec h (List.mem_of_getElem? ho')
    refine ⟨by rw [hg i true hi]; exact h1, o, ?_, fun e he hb => by rw [hg e.on false (k1 e he)]; exact h2 e he hb⟩
    rw [List.getElem?_toArray, List.getElem?_append_left hi]
    exact ho'
theorem any_last {P : Program} {l : List Oper} {oF : Oper} {Q : Exit → Act → World → Prop} (h : insideB l = true) : ∀ (fuel : Nat) (listed : Array Bool) (a : Act) (w : World), listed.size = l.length →
    wpAny P .any ⟨l⟩ Q fuel listed a w → wpAny P .any ⟨l ++ [oF]⟩ Q fuel (listed.push true) a w
  | 0, listed, a, w, hsz, hw => ⟨List.eq_nil_iff_forall_not_mem.2 (fun i hi => by
      have := (ready_push h hsz i).1 hi
      rw [hw.1] at this
      cases this), hw.2⟩
  | fuel + 1, listed, a, w, hsz, hw => by
    refine ⟨fun hnil => hw.1 (List.eq_nil_iff_forall_not_mem.2 fun i hi => by
      have := (ready_push (oF := oF) h hsz i).2 hi
      rw [hnil] at this
      cases this), fun i hi => ?_⟩
    have hi' := (ready_push h hsz i).1 hi
    have h1 := hw.2 i hi'
    obtain ⟨_, o, ho, _⟩ := Go.mem_ready.1 hi'
    have ho' : l[i]? = some o := by simpa using ho
    have hil := (List.getElem?_eq_some_iff.1 ho').1
    have ho2 : (⟨l ++ [oF]⟩ : Array Oper)[i]? = some o := by
      rw [List.getElem?_toArray, List.getElem?_append_left hil]
      exact ho'
    have hwant : Region.wanted o (yielded ⟨l ++ [oF]⟩ a.tmps) = Region.wanted o (yielded ⟨l⟩ a.tmps) := by
      unfold Region.wanted
      cases hg : o.guard with
      | none => rfl
      | some jb =>
        obtain ⟨j, b⟩ := jb
        have hj := (inside_spec h (List.mem_of_getElem? ho')).2 j b hg
        have e : (⟨l ++ [oF]⟩ : Array Oper)[j]? = (⟨l⟩ : Array Oper)[j]? := by
          rw [List.getElem?_toArray, List.getElem?_toArray, List.getElem?_append_left hj]
        simp only [yielded, e]
    unfold wpOp at h1 ⊢
    rw [ho] at h1
    rw [ho2]
    simp only [hwant] at h1 ⊢
    have hpush : (listed.push true).setIfInBounds i true = (listed.setIfInBounds i true).push true := by
      apply Array.ext_getElem?
      intro k
      have hi3 : i < listed.size := by omega
      simp only [Array.getElem?_setIfInBounds, Array.getElem?_push, Array.size_push, Array.size_setIfInBounds]
      by_cases e1 : i = k
      · subst e1
        rw [if_pos rfl, if_pos (by omega), if_neg (by omega), if_pos rfl, if_pos hi3]
      · rw [if_neg e1]
        by_cases e2 : k = listed.size
        · rw [if_pos e2, if_pos e2]
        · rw [if_neg e2, if_neg e2, if_neg e1]
    rw [hpush]
    split at h1
    · rename_i hwd
      rw [if_pos hwd]
      rcases h1 with h1 | h1
      · exact .inl (Oper.wp_mono (fun a' w' h2 => any_last h fuel _ a' w' (by simpa using hsz) h2) h1)
      · exact .inr h1
    · rename_i hwd
      rw [if_neg hwd]
      exact any_last h fuel _ _ _ (by simpa using hsz) h1

def noSelL (l : List Oper) : Bool := l.all fun o => match o.op with | .select .. => false | _ => true
theorem noSelL_spec {l : List Oper} (h : noSelL l = true) (j : Nat) (o : Oper) (cs : Array SelectCase) (b : Bool) (ho : (⟨l⟩ : Array Oper)[j]? = some o) : o.op ≠ .select cs b := by
  rw [List.getElem?_toArray] at ho
  have := List.all_eq_true.1 h o (List.mem_of_getElem? ho)
  intro e
  rw [e] at this
  cases this
/-- The last operation taken first. -/
theorem Ev.drawZ {P : Program} {s : List (Nat × AV)} {b : List (Nat × Obj)} {n t e : Nat} {Q : Exit → St → Prop} {id : Nat} {l' : List Oper} {d ty : Nat} {v : Value} {pos : String} (l : List Oper) (T : List (List Bool)) (K : Nat) (hm : P.follows .mixedOrders = true)
    (hl : l' = l ++ [⟨some d, .move (.const v), ty, pos, #[], none⟩]) (hv : v.oneCell' = true) (hd : d < t) (hin : insideB l = true) (hsel : noSelL l' = true) (hfr : (l.all fun o => Oper.apart ⟨l'⟩ ⟨some d, .move (.const v), ty, pos, #[], none⟩ o) = true)
    (hok : drawOk l T ⟨(d, .lit v) :: s, b, n, t, e⟩ K = true) (hTl : K ≤ T.length)
    (h : drawF P l (dstsOf ⟨l⟩) ⟨(d, .lit v) :: s, b, n, t, e⟩ (n + 4 * K) (finS P l ⟨(d, .lit v) :: s, b, n, t, e⟩ (n + 4 * K) (Q .normal)) l (T.take K) []) : Ev P (.region id ⟨l'⟩ true) ⟨s, b, n, t, e⟩ Q := by
  intro C E X a hr
  subst hl
  have hp : Rel C E X ⟨(d, .lit v) :: s, b, n, t, e⟩ (a.put (some d) v) := hr.put (some d) (fun d' e' => by simp only [Option.some.injEq] at e'; subst e'; exact hd) (v := .lit v) (y := v) (by simp [FV])
  have hdr := draw_any (σ := ⟨(d, .lit v) :: s, b, n, t, e⟩) T K hok hTl h hp (fun e' a' w' => e' = .normal ∧ ∃ E' X' σ', E'.w = w' ∧ Rel C E' X' σ' a' ∧ Q .normal σ') (fun E' X' σ' a' h1 h2 => ⟨rfl, E', X', σ', rfl, h1, h2⟩)
  have hlast := any_last (oF := ⟨some d, .move (.const v), ty, pos, #[], none⟩) hin _ _ _ _ (by simp) hdr
  refine wp_mono (wp_region_any (Q := fun e' a' w' => e' = .normal ∧ ∃ E' X' σ', E'.w = w' ∧ Rel C E' X' σ' a' ∧ Q .normal σ') hm ?_) (fun e' a' w' hq => by
    obtain ⟨rfl, E', X', σ', h1, h2, h3⟩ := hq
    exact ⟨E', X', σ', h1, h2, h3⟩)
  have hi : (⟨l ++ [(⟨some d, .move (.const v), ty, pos, #[], none⟩ : Oper)]⟩ : Array Oper)[l.length]? = some ⟨some d, .move (.const v), ty, pos, #[], none⟩ := by
    rw [List.getElem?_toArray]; simp
  have hset : (Array.replicate (l.length + 1) false).setIfInBounds l.length true = (Array.replicate l.length false).push true := by
    apply Array.ext_getElem?
    intro k
    simp only [Array.getElem?_setIfInBounds, Array.getElem?_push, Array.size_replicate, Array.getElem?_replicate]
    by_cases e1 : l.length = k
    · subst e1
      rw [if_pos rfl, if_pos (Nat.lt_succ_self _), if_pos rfl]
    · rw [if_neg e1, if_neg (show ¬ k = l.length from fun h => e1 h.symm)]
      by_cases e2 : k < l.length
      · rw [if_pos e2, if_pos (by omega)]
      · rw [if_neg e2, if_neg (by omega)]
  have hgoal := Go.wpAny_first (P := P) (md := .any) (ops := ⟨l ++ [⟨some d, .move (.const v), ty, pos, #[], none⟩]⟩) (Q := fun e' a' w' => e' = .normal ∧ ∃ E' X' σ', E'.w = w' ∧ Rel C E' X' σ' a' ∧ Q .normal σ') (i := l.length) (v := v) hi (fun j o cs b' ho => noSelL_spec hsel j o cs b' ho)
    (fun c a w hq => by have := hq.1; cases this) l.length (Array.replicate (l.length + 1) false) a E.w.drew (fun j oj hj hne _ _ => by
      rw [List.getElem?_toArray] at hj
      have hjl : j < l.length := by
        have := (List.getElem?_eq_some_iff.1 hj).1
        simp at this
        omega
      rw [List.getElem?_append_left hjl] at hj
      exact List.all_eq_true.1 hfr oj (List.mem_of_getElem? hj))
    (Go.mem_ready.2 ⟨by simp [Array.getD], _, hi, fun e' he => by simp at he⟩) (.inl ⟨rfl, fun w => rfl⟩) (by rw [hset]; exact hlast)
  simpa using hgoal
theorem Ev.region_lf {P : Program} {s : List (Nat × AV)} {b : List (Nat × Obj)} {n t e : Nat} {Q : Exit → St → Prop} {id : Nat} {l' : List Oper} (T : List (List Bool)) (K d : Nat) (v : Value)
    (h : ∀ Kt : St → Prop, (∀ σ', Q .normal σ' → Kt σ') → DM P l'.dropLast T (n + 4 * K) (endD P l'.dropLast (n + 4 * K) Kt) l'.dropLast K 0 ⟨(d, .lit v) :: s, b, n, t, e⟩ []) (hl : ∃ ty pos, l' = l'.dropLast ++ [⟨some d, .move (.const v), ty, pos, #[], none⟩] ∧ (l'.dropLast.all fun o => Oper.apart ⟨l'⟩ ⟨some d, .move (.const v), ty, pos, #[], none⟩ o) = true := by exact ⟨_, _, rfl, rfl⟩)
    (hv : v.oneCell' = true := by exact rfl) (hd : Nat.blt d t = true := by exact rfl) (hin : insideB l'.dropLast = true := by exact rfl) (hsel : noSelL l' = true := by exact rfl) (hm : P.follows .mixedOrders = true := by exact rfl) (hok : drawOk l'.dropLast T ⟨(d, .lit v) :: s, b, n, t, e⟩ K = true := by exact rfl)
    (hch : readsChkM l'.dropLast T K = true := by exact rfl) (hTl : Nat.ble K T.length = true := by exact rfl) (hkb : keysLt n b = true := by exact rfl) : Ev P (.region id ⟨l'⟩ true) ⟨s, b, n, t, e⟩ Q := by
  obtain ⟨ty, pos, hl, hfr⟩ := hl
  have hok' := hok
  simp only [drawOk, Bool.and_eq_true, decide_eq_true_eq, List.all_eq_true] at hok'
  obtain ⟨⟨_, hKl⟩, ⟨_, hnd⟩, _⟩ := hok'
  refine Ev.drawZ l'.dropLast T K hm hl hv (Nat.le_of_ble_eq_true hd) hin hsel hfr hok (ble_le hTl) ?_
  have := DM_F (σ := ⟨(d, .lit v) :: s, b, n, t, e⟩) hch hnd (ble_le hTl) (ble_le hKl) hkb (fin_end hnd) (h (Q .normal) (fun _ h => h)) [] (by simp) rfl rfl (by simp) rfl rfl rfl rfl (by simp) rfl (by simp)
  simpa using this
section rules
variable {P : Program} {s : List (Nat × AV)} {b : List (Nat × Obj)} {n t e : Nat} {Q : Exit → St → Prop}
theorem Ev.slf {id : Nat} {l' : List Oper} {y : Code} (T : List (List Bool)) (K d : Nat) (v : Value)
    (h : ∀ Kt : St → Prop, (∀ σ', Ev P y σ' Q → Kt σ') → DM P l'.dropLast T (n + 4 * K) (endD P l'.dropLast (n + 4 * K) Kt) l'.dropLast K 0 ⟨(d, .lit v) :: s, b, n, t, e⟩ []) (hl : ∃ ty pos, l' = l'.dropLast ++ [⟨some d, .move (.const v), ty, pos, #[], none⟩] ∧ (l'.dropLast.all fun o => Oper.apart ⟨l'⟩ ⟨some d, .move (.const v), ty, pos, #[], none⟩ o) = true := by exact ⟨_, _, rfl, rfl⟩)
    (hv : v.oneCell' = true := by exact rfl) (hd : Nat.blt d t = true := by exact rfl) (hin : insideB l'.dropLast = true := by exact rfl) (hsel : noSelL l' = true := by exact rfl) (hm : P.follows .mixedOrders = true := by exact rfl) (hok : drawOk l'.dropLast T ⟨(d, .lit v) :: s, b, n, t, e⟩ K = true := by exact rfl)
    (hch : readsChkM l'.dropLast T K = true := by exact rfl) (hTl : Nat.ble K T.length = true := by exact rfl) (hkb : keysLt n b = true := by exact rfl) : Ev P (.seq (.region id ⟨l'⟩ true) y) ⟨s, b, n, t, e⟩ Q :=
  Ev.seq (Ev.region_lf T K d v (fun Kt hK => h Kt fun σ' h' => hK σ' h') hl hv hd hin hsel hm hok hch hTl hkb)
end rules
end Go.AM
