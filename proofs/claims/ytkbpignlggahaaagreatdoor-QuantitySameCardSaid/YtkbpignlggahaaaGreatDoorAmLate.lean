/-
  The abstract machine, continued: a region whose order is drawn, with one late store: behind all but operations that make nothing and do not see what is stored into.
  Conditions: none; generic over the program.
-/
import Derived.Test.YtkbpignlggahaaaGreatDoorAmDraw
namespace Go.AM
set_option linter.unusedVariables false
set_option linter.unusedSimpArgs false
set_option linter.unusedSectionVars false
set_option linter.unnecessarySimpa false
def St.over (σ : St) (r : Nat) (o : Obj) : St := { σ with objs := (r, o) :: σ.objs }
section late
variable {P : Program} {l : List Oper} {T : List (List Bool)} {K : Nat}
theorem slots_step {σ : St} {nx : Nat} {R : List Res} {listed : Array Bool} {i : Nat} {ri : Res} (hnd : (R.map (·.dst)).Nodup) (hRi : R[i]? = some ri) (hlt : i < listed.size) :
    ∀ s v, find (stM σ (R.map (·.dst)) nx (bitsOf K (listed.setIfInBounds i true)) R).slots s = some v → find ((ri.dst, ri.v) :: (stM σ (R.map (·.dst)) nx (bitsOf K listed) R).slots) s = some v := by
  have hbn : ∀ j : Nat, (bitsOf K (listed.setIfInBounds i true))[j]? = some true → j = i ∨ (bitsOf K listed)[j]? = some true := by
    intro j hj; obtain ⟨g1, g2⟩ := bitsOf_get.1 hj; rw [getD_set hlt] at g2
    by_cases e : i = j
    · exact .inl e.symm
    · rw [if_neg e] at g2; exact .inr (bitsOf_get.2 ⟨g1, g2⟩)
  intro s v hv; simp only [stM] at hv ⊢; rw [find_cons]; rw [find_append] at hv
  cases g1 : find (slotsM (bitsOf K (listed.setIfInBounds i true)) R) s with
  | some u =>
    rw [g1] at hv; simp only [Option.some_or, Option.some.injEq] at hv; subst hv; obtain ⟨j, q, k1, k2, rfl, rfl⟩ := find_slotsM _ R s u g1
    rcases hbn j k1 with rfl | k1
    · rw [hRi] at k2; simp only [Option.some.injEq] at k2; subst k2
      simp
    · by_cases e : ri.dst = q.dst
      · rw [if_pos e]
        have hij : i = j := by
          have e1 : (R.map (·.dst))[i]? = some ri.dst := by simp [hRi]
          have e2 : (R.map (·.dst))[j]? = some ri.dst := by simp [k2, e]
          obtain ⟨q1, q2⟩ := List.getElem?_eq_some_iff.1 e1; obtain ⟨q3, q4⟩ := List.getElem?_eq_some_iff.1 e2; exact (List.getElem_inj hnd).1 (q2.trans q4.symm)
        subst hij; rw [hRi] at k2; simp only [Option.some.injEq] at k2; rw [k2]
      · rw [if_neg e, find_append, slotsM_find _ R j q hnd k1 k2]; rfl
  | none =>
    rw [g1] at hv; simp only [Option.none_or] at hv; have hh := hv; rw [find_hide] at hh
    split at hh
    · cases hh
    · rename_i hmem
      have hne : ri.dst ≠ s := fun e => hmem (List.mem_map.2 ⟨ri, List.mem_of_getElem? hRi, e⟩); rw [if_neg hne, find_append]
      cases g2 : find (slotsM (bitsOf K listed) R) s with
      | some u =>
        obtain ⟨j, q, k1, k2, rfl, rfl⟩ := find_slotsM _ R s u g2; exact absurd (List.mem_map.2 ⟨q, List.mem_of_getElem? k2, rfl⟩) hmem
      | none => simpa using hv
theorem objs_step {σ : St} {nx : Nat} {R : List Res} {listed : Array Bool} {i : Nat} {ri : Res} (hid : ∀ (m : Nat) (q : Res), R[m]? = some q → ∀ k o, find q.new k = some o → σ.next + 4 * (0 + m) ≤ k ∧ k < σ.next + 4 * (0 + m) + 4)
    (hσ : ∀ k o, find σ.objs k = some o → k < σ.next) (hRi : R[i]? = some ri) (hlt : i < listed.size) :
    ∀ k ob, find (objsM (bitsOf K (listed.setIfInBounds i true)) R ++ σ.objs) k = some ob → find (ri.new ++ (objsM (bitsOf K listed) R ++ σ.objs)) k = some ob := by
  have hbn : ∀ j : Nat, (bitsOf K (listed.setIfInBounds i true))[j]? = some true → j = i ∨ (bitsOf K listed)[j]? = some true := by
    intro j hj; obtain ⟨g1, g2⟩ := bitsOf_get.1 hj; rw [getD_set hlt] at g2
    by_cases e : i = j
    · exact .inl e.symm
    · rw [if_neg e] at g2; exact .inr (bitsOf_get.2 ⟨g1, g2⟩)
  intro k ob hv; rw [find_append] at hv; rw [find_append]
  cases g1 : find (objsM (bitsOf K (listed.setIfInBounds i true)) R) k with
  | some u =>
    rw [g1] at hv; simp only [Option.some_or, Option.some.injEq] at hv; subst hv; obtain ⟨j, q, k1, k2, k3⟩ := find_objsM _ R k u g1
    rcases hbn j k1 with rfl | k1
    · rw [hRi] at k2; simp only [Option.some.injEq] at k2; subst k2; rw [k3]; rfl
    · by_cases e : j = i
      · subst e; rw [hRi] at k2; simp only [Option.some.injEq] at k2; subst k2; rw [k3]; rfl
      · have hnone : find ri.new k = none := by
          cases g2 : find ri.new k with
          | none => rfl
          | some ob' =>
            have r1 := hid i ri hRi k ob' g2; have r2 := hid j q k2 k u k3; omega
        rw [hnone, find_append, objsM_find σ.next _ R 0 j q k u hid k1 k2 k3]; rfl
  | none =>
    rw [g1] at hv; simp only [Option.none_or] at hv; have hklt := hσ k ob hv
    have hnone : find ri.new k = none := by
      cases g2 : find ri.new k with
      | none => rfl
      | some ob' =>
        have r1 := hid i ri hRi k ob' g2; omega
    rw [hnone, find_append]
    cases g2 : find (objsM (bitsOf K listed) R) k with
    | some u =>
      obtain ⟨j, q, k1, k2, k3⟩ := find_objsM _ R k u g2; have := hid j q k2 k u k3; omega
    | none => simpa using hv
theorem count_decide {listed : Array Bool} {m n : Nat} (hsz : listed.size = n) (hm : m ≤ n) (hd : ∀ j, j < n → listed.getD j false = decide (j < m)) : (List.range n).countP (fun j => !listed.getD j true) = n - m := by
  have e1 : (List.range n).countP (fun j => !listed.getD j true) = (List.range n).countP (fun j => decide (m ≤ j)) := by
    apply List.countP_congr
    intro j hj
    have hj' : j < n := by simpa using hj
    rw [getD_tf (by omega), hd j hj']
    simp
  rw [e1]
  have : ∀ k, (List.range k).countP (fun j => decide (m ≤ j)) = k - m := by
    intro k
    induction k with
    | zero => simp
    | succ k ihn =>
      rw [List.range_succ, List.countP_append, ihn, List.countP_singleton]
      by_cases h : m ≤ k
      · simp [h]; omega
      · simp [h]; omega
  exact this _
theorem any_of_B {σ : St} {nx : Nat} {R : List Res} {Q : Exit → Act → World → Prop} {C : Ctx} {r0 : Nat} {o0 : Obj} (hc : chk l T (K + 1) = true) (hKl : K < l.length) (hRl : R.length = K) (hnd : (R.map (·.dst)).Nodup)
    (hR : ∀ i, i < K → ResOk P l σ (R.map (·.dst)) nx K T R i) (hσ : ∀ k o, find σ.objs k = some o → k < σ.next)
    (hF : ∀ i, i < K → bit T K i = false → find (objsM ((T[i]?).getD []) R) r0 = none ∧ ∀ q, R[i]? = some q → q.new = []) (hr0 : σ.next ≤ r0)
    (hfin : ∀ E X a, Rel C E X ((stM σ (R.map (·.dst)) nx (List.replicate K true) R).over r0 o0) a → wpL P ⟨l⟩ Q (l.drop (K + 1)) a E.w) :
    ∀ (fuel : Nat) (listed : Array Bool) (E : Env) (X : Nat → List Value) (a : Act), listed.size = l.length → (List.range l.length).countP (fun j => !listed.getD j true) = fuel → Shut l listed → (∀ i, K + 1 ≤ i → listed.getD i false = false) → listed.getD K false = true →
      Rel C E X ((stM σ (R.map (·.dst)) nx (bitsOf K listed) R).over r0 o0) a → wpAny P .any ⟨l⟩ Q fuel listed a E.w := by
  have hid : ∀ (m : Nat) (q : Res), R[m]? = some q → ∀ k o, find q.new k = some o → σ.next + 4 * (0 + m) ≤ k ∧ k < σ.next + 4 * (0 + m) + 4 := by
    intro m q hq k o hf
    have hm : m < K := by rw [← hRl]; exact (List.getElem?_eq_some_iff.1 hq).1
    have ho : l[m]? = some l[m] := List.getElem?_eq_getElem (by omega); have := (hR m hm _ q ho hq).2.2.1 k o hf; omega
  intro fuel
  induction fuel with
  | zero =>
    intro listed E X a hsz hcnt hs hge hlK hr
    have hall : ∀ j, j < l.length → listed.getD j true = true := by
      intro j hj; have := List.countP_eq_zero.1 hcnt j (by simpa using hj)
      simpa using this
    have hKn : K + 1 = l.length := by
      rcases Nat.lt_or_ge (K + 1) l.length with h | h
      · have h1 := hall (K + 1) h; rw [getD_tf (by omega), hge (K + 1) (Nat.le_refl _)] at h1
        cases h1
      · omega
    refine any_of_L hc 0 (K + 1) listed a E.w (by omega) (Nat.le_refl _) hsz hs (fun j hj => ?_) (hfin E X a ?_)
    · rw [← getD_tf (by omega), hall j hj]
      simp; omega
    · have hb := stM_sub (nx := nx) (bs := bitsOf K listed) (bs' := List.replicate K true) hnd hid hσ (fun j hj => bitsOf_get.2 (by
        obtain ⟨hlt, _⟩ := List.getElem?_eq_some_iff.1 hj
        simp at hlt
        exact ⟨hlt, by rw [← getD_tf (by omega)]; exact hall j (by omega)⟩))
      refine hr.sub hb.1 (fun k o hk => ?_) (Nat.le_refl _) rfl rfl; simp only [St.over, find_cons] at hk ⊢
      split at hk
      · rename_i e; rw [if_pos e]; exact hk
      · rename_i e; rw [if_neg e]; exact hb.2 k o hk
  | succ fuel ih =>
    intro listed E X a hsz hcnt hs hge hlK hr
    by_cases hallK : ∀ j, j < K → listed.getD j false = true
    · have hb := stM_sub (nx := nx) (bs := bitsOf K listed) (bs' := List.replicate K true) hnd hid hσ (fun j hj => bitsOf_get.2 (by
        obtain ⟨hlt, _⟩ := List.getElem?_eq_some_iff.1 hj
        simp at hlt
        exact ⟨hlt, hallK j hlt⟩))
      have hr' := hr.sub (σ' := St.over (stM σ (R.map (fun r : Res => r.dst)) nx (List.replicate K true) R) r0 o0) hb.1 (fun k o hk => by
        simp only [St.over, find_cons] at hk ⊢
        split at hk
        · rename_i e; rw [if_pos e]; exact hk
        · rename_i e; rw [if_neg e]; exact hb.2 k o hk) (Nat.le_refl _) rfl rfl
      have hd : ∀ j, j < l.length → listed.getD j false = decide (j < K + 1) := by
        intro j hj
        by_cases h : j < K
        · simp [hallK j h, show j < K + 1 by omega]
        · by_cases h2 : j = K
          · subst h2; simp [hlK]
          · simp [hge j (by omega), show ¬ j < K + 1 by omega]
      have hcnt2 := count_decide hsz (show K + 1 ≤ l.length by omega) hd; exact any_of_L hc (fuel + 1) (K + 1) listed a E.w (by omega) (Nat.le_refl _) hsz hs hd (hfin E X a hr')
    · obtain ⟨j0, hj0⟩ := Classical.not_forall.1 hallK; obtain ⟨hj1, hj2⟩ := Classical.not_imp.1 hj0
      have hj2 : listed.getD j0 false = false := by simpa using hj2
      refine ⟨fun hnil => ?_, fun i hi => ?_⟩
      · obtain ⟨j, _, hj⟩ := ready_exists hc hsz (show j0 < l.length by omega) hj2; rw [hnil] at hj
        cases hj
      · obtain ⟨o, ho, h1, hp⟩ := mem_ready.1 hi; have hlt := (List.getElem?_eq_some_iff.1 ho).1
        have hiK : i < K := by
          rcases Nat.lt_or_ge i K with h | h
          · exact h
          · exfalso
            by_cases e : i = K
            · subst e; rw [getD_tf (by omega), hlK] at h1
              cases h1
            · have hb := ((chk_spec hc ho).2.2 j0 (by omega)).2 (by omega); have := listed_bits hc hs i o ho hp j0 (by omega) hb; rw [hj2] at this
              cases this
        have hfree : bit T K i = false := by
          cases hb : bit T K i with
          | false => rfl
          | true =>
            exfalso
            have hoK : l[K]? = some l[K] := List.getElem?_eq_getElem hKl; have := listed_bits hc hs K _ hoK (fun e he => hs K _ hoK hlK e he) i hiK hb; rw [getD_tf (by omega), this] at h1
            cases h1
        have hRi : R[i]? = some (R[i]'(by omega)) := List.getElem?_eq_getElem (by omega)
        generalize hri : (R[i]'(by omega)) = ri at hRi
        obtain ⟨hdst, hdn, hids, hor⟩ := hR i hiK o ri ho hRi; obtain ⟨hno, hnw⟩ := hF i hiK hfree; have hnew0 := hnw ri hRi; have hsh := hs.set hc hsz hi; have hlen := (chk_spec hc ho).1
        have hbits : ∀ j : Nat, ((T[i]?).getD [])[j]? = some true → (bitsOf K listed)[j]? = some true := by
          intro j hj; have hji : j < i := Nat.lt_of_lt_of_le (List.getElem?_eq_some_iff.1 hj).1 hlen; refine bitsOf_get.2 ⟨by omega, listed_bits hc hs i o ho hp j hji ?_⟩
          unfold bit
          rw [List.getD_eq_getElem?_getD, hj]; rfl
        have hb := stM_sub (nx := nx) (bs := bitsOf K listed) (bs' := (T[i]?).getD []) hnd hid hσ hbits
        have hrr := hr.sub (σ' := stM σ (R.map (·.dst)) nx ((T[i]?).getD []) R) hb.1 (fun k o hk => by
          simp only [St.over, find_cons]
          by_cases e : r0 = k
          · exfalso
            subst e; simp only [stM] at hk; rw [find_append, hno] at hk; have := hσ _ _ (by simpa using hk); omega
          · rw [if_neg e]
            exact hb.2 k o hk) (Nat.le_refl _) rfl rfl
        have ho' : (⟨l⟩ : Array Oper)[i]? = some o := by simpa using ho
        have hstep : ∀ (E' : Env) X' a', Rel C E' X' (((stM σ (R.map (·.dst)) nx (bitsOf K listed) R).over r0 o0).ext o.dst ri.v ri.new nx) a' → wpAny P .any ⟨l⟩ Q fuel (listed.setIfInBounds i true) a' E'.w := by
          intro E' X' a' hr'; refine ih _ E' X' a' (by simpa using hsz) ?_ hsh ?_ ?_ ?_
          · have := countP_set hsz hlt h1; omega
          · intro k hk; rw [getD_set (by omega), if_neg (by omega)]; exact hge k hk
          · rw [getD_set (by omega), if_neg (by omega)]; exact hlK
          · refine hr'.sub ?_ ?_ (Nat.le_refl _) rfl rfl
            · intro s v hv; simp only [St.ext, hdst, St.over] at hv ⊢; exact slots_step hnd hRi (by omega) s v hv
            · intro k ob hv; simp only [St.ext, St.over, hnew0, List.nil_append, find_cons] at hv ⊢
              split at hv
              · rename_i e; rw [if_pos e]; exact hv
              · rename_i e
                rw [if_neg e]; have := objs_step (nx := nx) (K := K) hid hσ hRi (show i < listed.size by omega) k ob hv; rw [hnew0] at this; exact this
        have hst : ∀ d, o.dst = some d → d < ((stM σ (R.map (·.dst)) nx (bitsOf K listed) R).over r0 o0).nt := by
          intro d hd; rw [hdst] at hd; simp only [Option.some.injEq] at hd; subst hd; exact hdn
        unfold wpOp
        simp only [ho']
        rcases hor with ⟨hg, hloc⟩ | ⟨hg, hv, hnew⟩
        · rw [hrr.guard hg, if_pos rfl]; refine .inl (hloc C E X a hrr (fun r ob hf hDr => by rw [hnew0] at hf; simp [find] at hf) _ _ (fun y E' X' hLP => ?_)); obtain ⟨X'', hr'⟩ := hr.ext hLP o.dst nx hst (fun r ob hf => by rw [hnew0] at hf; simp [find] at hf) (Nat.le_refl _); exact hstep E' X'' _ hr'
        · rw [hrr.guard hg, if_neg (by simp)]; have hput := hr.put o.dst hst (v := (.lit undef)) (y := undef) (by simp [FV]); refine hstep E X _ ?_; rw [hv, hnew]; exact hput.sub (fun s v h => h) (fun r ob h => h) (Nat.le_refl _) rfl rfl
theorem any_of_late {σ : St} {nx : Nat} {R : List Res} {Q : Exit → Act → World → Prop} {C : Ctx} {oK : Oper} {r0 : Nat} {o0 : Obj} (hc : chk l T (K + 1) = true) (hoK : l[K]? = some oK) (hgK : oK.guard = none) (hRl : R.length = K) (hnd : (R.map (·.dst)).Nodup)
    (hR : ∀ i, i < K → ResOk P l σ (R.map (·.dst)) nx K T R i) (hnx : σ.next + 4 * K ≤ nx) (hσ : ∀ k o, find σ.objs k = some o → k < σ.next)
    (hF : ∀ i, i < K → bit T K i = false → find (objsM ((T[i]?).getD []) R) r0 = none ∧ ∀ q, R[i]? = some q → q.new = []) (hr0 : σ.next ≤ r0)
    (hW : ∀ bs : List Bool, (∀ j, bit T K j = true → bs[j]? = some true) → Writer P (stM σ (R.map (·.dst)) nx bs R) oK ((stM σ (R.map (·.dst)) nx bs R).over r0 o0))
    (hfin : ∀ E X a, Rel C E X ((stM σ (R.map (·.dst)) nx (List.replicate K true) R).over r0 o0) a → wpL P ⟨l⟩ Q (l.drop (K + 1)) a E.w) :
    ∀ (fuel : Nat) (listed : Array Bool) (E : Env) (X : Nat → List Value) (a : Act), listed.size = l.length → (List.range l.length).countP (fun j => !listed.getD j true) = fuel → Shut l listed → (∀ i, K ≤ i → listed.getD i false = false) →
      Rel C E X (stM σ (R.map (·.dst)) nx (bitsOf K listed) R) a → (∀ r, E.D r → r < σ.next ∨ ∃ j q ob, listed.getD j false = true ∧ R[j]? = some q ∧ find q.new r = some ob) →
      wpAny P .any ⟨l⟩ Q fuel listed a E.w := by
  have hKl : K < l.length := (List.getElem?_eq_some_iff.1 hoK).1
  have hid : ∀ (m : Nat) (q : Res), R[m]? = some q → ∀ k o, find q.new k = some o → σ.next + 4 * (0 + m) ≤ k ∧ k < σ.next + 4 * (0 + m) + 4 := by
    intro m q hq k o hf
    have hm : m < K := by rw [← hRl]; exact (List.getElem?_eq_some_iff.1 hq).1
    have ho : l[m]? = some l[m] := List.getElem?_eq_getElem (by omega); have := (hR m hm _ q ho hq).2.2.1 k o hf; omega
  intro fuel
  induction fuel with
  | zero =>
    intro listed E X a hsz hcnt hs hge hr hD; have := List.countP_eq_zero.1 hcnt K (by simpa using hKl); rw [getD_tf (by omega), hge K (Nat.le_refl _)] at this
    simp at this
  | succ fuel ih =>
    intro listed E X a hsz hcnt hs hge hr hD; have hKn : listed.getD K false = false := hge K (Nat.le_refl _); refine ⟨fun hnil => ?_, fun i hi => ?_⟩
    · obtain ⟨j, _, hj⟩ := ready_exists hc hsz hKl hKn; rw [hnil] at hj
      cases hj
    · obtain ⟨o, ho, h1, hp⟩ := mem_ready.1 hi; have hlt := (List.getElem?_eq_some_iff.1 ho).1
      have hiK : i ≤ K := by
        rcases Nat.lt_or_ge K i with h | h
        · exfalso
          have hb := ((chk_spec hc ho).2.2 K (by omega)).2 (by omega); have := listed_bits hc hs i o ho hp K (by omega) hb; rw [hKn] at this
          cases this
        · exact h
      have hsh := hs.set hc hsz hi; have hlen := (chk_spec hc ho).1
      have ho' : (⟨l⟩ : Array Oper)[i]? = some o := by simpa using ho
      by_cases hiK2 : i = K
      · -- the store
        subst hiK2; rw [hoK] at ho; simp only [Option.some.injEq] at ho; subst ho
        have hbits : ∀ j, bit T i j = true → (bitsOf i listed)[j]? = some true := by
          intro j hj
          have hji : j < i := by
            unfold bit at hj
            rw [List.getD_eq_getElem?_getD] at hj
            rcases Nat.lt_or_ge j ((T[i]?).getD []).length with h | h
            · omega
            · rw [List.getElem?_eq_none h] at hj
              cases hj
          exact bitsOf_get.2 ⟨hji, listed_bits hc hs i _ hoK hp j hji hj⟩
        unfold wpOp
        simp only [ho']; rw [hr.guard (by rw [hgK]; rfl : guardGo (dstsOf ⟨l⟩) _ oK.guard = some true), if_pos rfl]; refine .inl (hW _ hbits C E X a hr _ _ (fun E' X' a' hr' => ?_)); refine any_of_B (K := i) hc hKl hRl hnd hR hσ hF hr0 hfin fuel _ E' X' a' (by simpa using hsz) ?_ hsh ?_ ?_ ?_
        · have := countP_set hsz hlt h1; omega
        · intro k hk; rw [getD_set (by omega), if_neg (by omega)]; exact hge k (by omega)
        · rw [getD_set (by omega), if_pos rfl]
        · have hb := stM_sub (nx := nx) (bs := bitsOf i listed) (bs' := bitsOf i (listed.setIfInBounds i true)) hnd hid hσ (fun j hj => by
            obtain ⟨g1, g2⟩ := bitsOf_get.1 hj; rw [getD_set (by omega), if_neg (by omega)] at g2
            exact bitsOf_get.2 ⟨g1, g2⟩)
          refine hr'.sub hb.1 (fun k ob hk => ?_) (Nat.le_refl _) rfl rfl; simp only [St.over, find_cons] at hk ⊢
          split at hk
          · rename_i e; rw [if_pos e]; exact hk
          · rename_i e; rw [if_neg e]; exact hb.2 k ob hk
      · have hiK : i < K := by omega
        have hRi : R[i]? = some (R[i]'(by omega)) := List.getElem?_eq_getElem (by omega)
        generalize hri : (R[i]'(by omega)) = ri at hRi
        obtain ⟨hdst, hdn, hids, hor⟩ := hR i hiK o ri ho hRi
        have hbits : ∀ j : Nat, ((T[i]?).getD [])[j]? = some true → (bitsOf K listed)[j]? = some true := by
          intro j hj; have hji : j < i := Nat.lt_of_lt_of_le (List.getElem?_eq_some_iff.1 hj).1 hlen; refine bitsOf_get.2 ⟨by omega, listed_bits hc hs i o ho hp j hji ?_⟩
          unfold bit
          rw [List.getD_eq_getElem?_getD, hj]; rfl
        have hb := stM_sub (nx := nx) (bs := bitsOf K listed) (bs' := (T[i]?).getD []) hnd hid hσ hbits; have hrr := hr.sub (σ' := stM σ (R.map (fun r : Res => r.dst)) nx ((T[i]?).getD []) R) hb.1 hb.2 (Nat.le_refl _) rfl rfl
        have hstep : ∀ (E' : Env) X' a', Rel C E' X' ((stM σ (R.map (fun r : Res => r.dst)) nx (bitsOf K listed) R).ext o.dst ri.v ri.new nx) a' → (∀ r, E'.D r → E.D r ∨ ∃ ob, find ri.new r = some ob) →
            wpAny P .any ⟨l⟩ Q fuel (listed.setIfInBounds i true) a' E'.w := by
          intro E' X' a' hr' hD'; refine ih _ E' X' a' (by simpa using hsz) ?_ hsh ?_ ?_ ?_
          · have := countP_set hsz hlt h1; omega
          · intro k hk; rw [getD_set (by omega), if_neg (by omega)]; exact hge k hk
          · refine hr'.sub ?_ ?_ (Nat.le_refl _) rfl rfl
            · intro s v hv; simp only [St.ext, hdst] at hv ⊢; exact slots_step hnd hRi (by omega) s v hv
            · intro k ob hv; simp only [St.ext] at hv ⊢; exact objs_step (nx := nx) (K := K) hid hσ hRi (show i < listed.size by omega) k ob hv
          · intro r hr2
            rcases hD' r hr2 with h | ⟨ob, h⟩
            · rcases hD r h with h | ⟨j, q, ob, k1, k2, k3⟩
              · exact .inl h
              · refine .inr ⟨j, q, ob, ?_, k2, k3⟩; rw [getD_set (by omega)]
                split
                · rfl
                · exact k1
            · exact .inr ⟨i, ri, ob, by rw [getD_set (by omega), if_pos rfl], hRi, h⟩
        have hst : ∀ d, o.dst = some d → d < (stM σ (R.map (fun r : Res => r.dst)) nx (bitsOf K listed) R).nt := by
          intro d hd; rw [hdst] at hd; simp only [Option.some.injEq] at hd; subst hd; exact hdn
        unfold wpOp
        simp only [ho']
        rcases hor with ⟨hg, hloc⟩ | ⟨hg, hv, hnew⟩
        · rw [hrr.guard hg, if_pos rfl]; refine .inl (hloc C E X a hrr (fun r ob hf hDr => ?_) _ _ (fun y E' X' hLP => ?_))
          · have r1 := hid i ri hRi r ob hf
            rcases hD r hDr with h | ⟨j, q, ob', k1, k2, k3⟩
            · omega
            · have r2 := hid j q k2 r ob' k3
              have hji : j = i := by omega
              subst hji
              have : listed.getD j true = true := by rw [getD_tf (by omega)]; exact k1
              rw [h1] at this
              cases this
          · obtain ⟨X'', hr'⟩ := hr.ext hLP o.dst nx hst (fun r ob hf => by have := hid i ri hRi r ob hf; omega) (Nat.le_refl _); exact hstep E' X'' _ hr' hLP.dom
        · rw [hrr.guard hg, if_neg (by simp)]; have hput := hr.put o.dst hst (v := (.lit undef)) (y := undef) (by simp [FV]); refine hstep E X _ ?_ (fun r hr => .inl hr); rw [hv, hnew]; exact hput.sub (fun s v h => h) (fun r ob h => h) (Nat.le_refl _) rfl rfl
end late
def drawOkL (l : List Oper) (T : List (List Bool)) (σ : St) (K : Nat) : Bool :=
  chk l T (K + 1) && Nat.ble (K + 1) l.length && (let ds := dstsL (l.take K); disj ds σ.slots && decide ds.Nodup && ds.all (fun d => Nat.blt d σ.nt))
def LateOk (P : Program) (l : List Oper) (T : List (List Bool)) (σ : St) (nx K : Nat) (Q : St → Prop) (rest : List Oper) (R : List Res) : Prop :=
  ∃ oK rest' r0 o0, rest = oK :: rest' ∧ oK.guard = none ∧ σ.next ≤ r0 ∧ (∀ i, i < K → bit T K i = false → find (objsM ((T[i]?).getD []) R) r0 = none ∧ ∀ q, R[i]? = some q → q.new = []) ∧
    (∀ bs : List Bool, (∀ j, bit T K j = true → bs[j]? = some true) → Writer P (stD σ nx bs R) oK ((stD σ nx bs R).over r0 o0)) ∧ SeqL P ⟨l⟩ rest' ((stAll σ nx R).over r0 o0) Q
theorem Ev.drawL {P : Program} {σ : St} {Q : Exit → St → Prop} {id : Nat} {l : List Oper} (T : List (List Bool)) (K : Nat) (hm : P.follows .mixedOrders = true) (hok : drawOkL l T σ K = true) (hTl : K ≤ T.length)
    (h : ∀ Kt : St → Prop, (∀ σ', Q .normal σ' → Kt σ') → drawF P l (dstsOf ⟨l⟩) σ (σ.next + 4 * K) (LateOk P l T σ (σ.next + 4 * K) K Kt) l (T.take K) []) : Ev P (.region id ⟨l⟩ true) σ Q := by
  simp only [drawOkL, Bool.and_eq_true, decide_eq_true_eq, List.all_eq_true] at hok; obtain ⟨⟨hc, hKl⟩, ⟨hdj, hnd⟩, hdn⟩ := hok; have hKl : K < l.length := Nat.le_of_ble_eq_true hKl
  have hTK : (T.take K).length = K := by simp; omega
  obtain ⟨S, h1, h2, h3⟩ := drawF_spec l (T.take K) [] (h (Q .normal) (fun _ h => h)) (fun i hi => by
    have hiK : i < K := by omega
    have ho : l[i]? = some l[i] := List.getElem?_eq_getElem (by omega); have := (chk_spec hc ho).1; have e : T[i]? = some T[i] := List.getElem?_eq_getElem (by omega); rw [e] at this
    simpa using this)
  simp only [List.nil_append, List.length_nil, Nat.zero_add] at h2 h3; rw [hTK] at h1 h2 h3
  have hds : S.map (·.dst) = dstsL (l.take K) := by
    have key : ∀ (n : Nat) (l' : List Oper) (S' : List Res), S'.length = n → l'.length = n → (∀ i, i < n → ∃ o r, l'[i]? = some o ∧ S'[i]? = some r ∧ o.dst = some r.dst) → S'.map (·.dst) = dstsL l' := by
      intro n
      induction n with
      | zero =>
        intro l' S' e1 e2 _; rw [List.eq_nil_of_length_eq_zero e1, List.eq_nil_of_length_eq_zero e2]; rfl
      | succ n ih =>
        intro l' S' e1 e2 hh
        match l', S', e1, e2 with
        | o :: l', r :: S', e1, e2 =>
          obtain ⟨o0, r0, k1, k2, k3⟩ := hh 0 (by omega); simp only [List.getElem?_cons_zero, Option.some.injEq] at k1 k2; subst k1 k2; simp only [List.map_cons, dstsL, k3]
          rw [ih l' S' (by simpa using e1) (by simpa using e2) (fun i hi => by
            obtain ⟨o1, r1, j1, j2, j3⟩ := hh (i + 1) (by omega)
            exact ⟨o1, r1, by simpa using j1, by simpa using j2, j3⟩)]
    refine key K (l.take K) S h1 (by simp; omega) (fun i hi => ?_); obtain ⟨o, r, k1, k2, k3, _⟩ := h3 i hi; exact ⟨o, r, by rw [List.getElem?_take, if_pos hi]; exact k1, k2, k3⟩
  have hst : ∀ bs, stM σ (S.map (·.dst)) (σ.next + 4 * K) bs S = stD σ (σ.next + 4 * K) bs S := by
    intro bs; simp only [stM, stD, hds, hide_disj hdj]
  intro C E X a hr; refine wp_region_any hm ?_; have hr' := hr.drew; have hσ : ∀ k o, find σ.objs k = some o → k < σ.next := fun k o hk => hr.fresh k (hr.objs k o hk).1
  have hR : ∀ i, i < K → ResOk P l σ (S.map (·.dst)) (σ.next + 4 * K) K T S i := by
    intro i hi o r ho hSr; obtain ⟨o', r', k1, k2, k3, k4, k5⟩ := h3 i hi; rw [ho] at k1; rw [hSr] at k2; simp only [Option.some.injEq] at k1 k2; subst k1 k2; refine ⟨k3, ?_, fun k ob hf => idsIn_find k4 k ob hf, ?_⟩
    · have : r.dst ∈ dstsL (l.take K) := by rw [← hds]; exact List.mem_map.2 ⟨r, List.mem_of_getElem? hSr, rfl⟩
      exact Nat.le_of_ble_eq_true (hdn _ this)
    · rw [hst]
      have e : ((T.take K)[i]?).getD [] = (T[i]?).getD [] := by rw [List.getElem?_take, if_pos hi]
      rw [e] at k5; exact k5
  have hall : stM σ (S.map (·.dst)) (σ.next + 4 * K) (List.replicate K true) S = stAll σ (σ.next + 4 * K) S := by
    rw [hst]; simp only [stD, stAll]; rw [← h1, slotsM_all, objsM_all]
  obtain ⟨oK, rest', r0, o0, g1, g2, g3, g4, g5, g6⟩ := h2
  have hoK : l[K]? = some oK := by
    have := congrArg List.head? g1
    simpa [List.head?_drop] using this
  have hrest : l.drop (K + 1) = rest' := by
    rw [← List.drop_drop, g1]; rfl
  have hgoal := any_of_late (P := P) (nx := σ.next + 4 * K) (C := C) (Q := fun e a' w' => ∃ E' X' σ', E'.w = w' ∧ Rel C E' X' σ' a' ∧ Q e σ') hc hoK g2 h1 (by rw [hds]; exact hnd) hR (Nat.le_refl _) hσ g4 g3 (fun bs hbs => by
      rw [hst]
      exact g5 bs hbs) (fun E X a hr2 => by
      rw [hall] at hr2; rw [hrest]
      exact g6 C E X a hr2 _ (fun E' X' σ' a' hr3 hq => ⟨E', X', σ', rfl, hr3, hq⟩))
    l.length (Array.replicate l.length false) { E with w := E.w.drew } X a (by simp) ?_ ?_ ?_ ?_ ?_
  · simpa using hgoal
  · have : ∀ n, n ≤ l.length → (List.range n).countP (fun j => !(Array.replicate l.length false).getD j true) = n := by
      intro n
      induction n with
      | zero => intro _; simp
      | succ n ih =>
        intro hn; rw [List.range_succ, List.countP_append, ih (by omega), List.countP_singleton]
        simp [Array.getD, show n < l.length by omega]
    exact this _ (Nat.le_refl _)
  · intro i o _ hl
    simp [Array.getD] at hl
  · intro i _
    simp [Array.getD]
  · have hb : ∀ j : Nat, (bitsOf K (Array.replicate l.length false))[j]? ≠ some true := by
      intro j hj; have := (bitsOf_get.1 hj).2
      simp [Array.getD] at this
    refine hr'.sub ?_ ?_ (by simp [stM]) rfl rfl
    · intro s v hv; simp only [stM, hds, hide_disj hdj] at hv; rw [find_append] at hv
      cases g : find (slotsM (bitsOf K (Array.replicate l.length false)) S) s with
      | some u =>
        obtain ⟨j, r, g1, _⟩ := find_slotsM _ S s u g; exact absurd g1 (hb j)
      | none => rw [g] at hv; simpa using hv
    · intro k o hv; simp only [stM] at hv; rw [find_append] at hv
      cases g : find (objsM (bitsOf K (Array.replicate l.length false)) S) k with
      | some u =>
        obtain ⟨j, r, g1, _⟩ := find_objsM _ S k u g; exact absurd g1 (hb j)
      | none => rw [g] at hv; simpa using hv
  · intro r hD; exact .inl (hr.fresh r hD)
end Go.AM
