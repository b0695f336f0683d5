/-
  The abstract machine, continued: regions whose order is drawn.
  Conditions: none; generic over the program.
-/
import Derived.Test.YtkbpignlggahaaaGreatDoorAmStep
namespace Go.AM
set_option linter.unusedVariables false
set_option linter.unusedSimpArgs false
set_option linter.unusedSectionVars false
set_option linter.unnecessarySimpa false
structure Res where
  dst : Nat
  v : AV
  new : List (Nat × Obj)
def slotsM : List Bool → List Res → List (Nat × AV)
  | b :: bs, r :: rs => bif b then (r.dst, r.v) :: slotsM bs rs else slotsM bs rs
  | _, _ => []
def objsM : List Bool → List Res → List (Nat × Obj)
  | b :: bs, r :: rs => bif b then r.new ++ objsM bs rs else objsM bs rs
  | _, _ => []
def hide (ds : List Nat) : List (Nat × AV) → List (Nat × AV)
  | [] => []
  | p :: l => bif ds.elem p.1 then hide ds l else p :: hide ds l
def stM (σ : St) (ds : List Nat) (nx : Nat) (bs : List Bool) (R : List Res) : St :=
  { slots := slotsM bs R ++ hide ds σ.slots, objs := objsM bs R ++ σ.objs, next := nx, nt := σ.nt, env := σ.env }
theorem find_slotsM : ∀ (bs : List Bool) (R : List Res) (s : Nat) (v : AV), find (slotsM bs R) s = some v → ∃ (j : Nat) (r : Res), bs[j]? = some true ∧ R[j]? = some r ∧ r.dst = s ∧ r.v = v
  | [], R, s, v, h => by cases R <;> simp [slotsM, find] at h
  | b :: bs, [], s, v, h => by simp [slotsM, find] at h
  | b :: bs, r :: R, s, v, h => by
    simp only [slotsM] at h
    cases b with
    | false =>
      obtain ⟨j, r', h1, h2, h3, h4⟩ := find_slotsM bs R s v (by simpa using h); exact ⟨j + 1, r', by simpa using h1, by simpa using h2, h3, h4⟩
    | true =>
      simp only [cond_true] at h; rw [find_cons] at h
      split at h
      · rename_i e
        simp only [Option.some.injEq] at h; exact ⟨0, r, rfl, rfl, e, h⟩
      · obtain ⟨j, r', h1, h2, h3, h4⟩ := find_slotsM bs R s v h; exact ⟨j + 1, r', by simpa using h1, by simpa using h2, h3, h4⟩
theorem slotsM_find : ∀ (bs : List Bool) (R : List Res) (j : Nat) (r : Res), (R.map (·.dst)).Nodup → bs[j]? = some true → R[j]? = some r → find (slotsM bs R) r.dst = some r.v
  | [], R, j, r, _, h, _ => by simp at h
  | b :: bs, [], j, r, _, _, h => by simp at h
  | b :: bs, r0 :: R, j, r, hn, hb, hr => by
    simp only [List.map_cons, List.nodup_cons] at hn; simp only [slotsM]
    cases j with
    | zero =>
      simp at hb hr
      subst hb hr; simp only [cond_true]; rw [find_cons, if_pos rfl]
    | succ j =>
      have ih := slotsM_find bs R j r hn.2 (by simpa using hb) (by simpa using hr)
      have hne : r0.dst ≠ r.dst := by
        intro e
        apply hn.1
        rw [e]; exact List.mem_map.2 ⟨r, List.mem_of_getElem? (by simpa using hr), rfl⟩
      cases b with
      | false => simpa using ih
      | true =>
        simp only [cond_true]; rw [find_cons, if_neg hne]; exact ih
theorem find_objsM : ∀ (bs : List Bool) (R : List Res) (k : Nat) (o : Obj), find (objsM bs R) k = some o → ∃ (j : Nat) (r : Res), bs[j]? = some true ∧ R[j]? = some r ∧ find r.new k = some o
  | [], R, k, o, h => by cases R <;> simp [objsM, find] at h
  | b :: bs, [], k, o, h => by simp [objsM, find] at h
  | b :: bs, r :: R, k, o, h => by
    simp only [objsM] at h
    cases b with
    | false =>
      obtain ⟨j, r', h1, h2, h3⟩ := find_objsM bs R k o (by simpa using h); exact ⟨j + 1, r', by simpa using h1, by simpa using h2, h3⟩
    | true =>
      simp only [cond_true] at h; rw [find_append] at h
      cases hf : find r.new k with
      | some o' =>
        rw [hf] at h; simp only [Option.some_or, Option.some.injEq] at h; exact ⟨0, r, rfl, rfl, by rw [hf, h]⟩
      | none =>
        rw [hf] at h; obtain ⟨j, r', h1, h2, h3⟩ := find_objsM bs R k o (by simpa using h); exact ⟨j + 1, r', by simpa using h1, by simpa using h2, h3⟩
theorem objsM_find (N : Nat) : ∀ (bs : List Bool) (R : List Res) (i j : Nat) (r : Res) (k : Nat) (o : Obj), (∀ m q, R[m]? = some q → ∀ k o, find q.new k = some o → N + 4 * (i + m) ≤ k ∧ k < N + 4 * (i + m) + 4) →
    bs[j]? = some true → R[j]? = some r → find r.new k = some o → find (objsM bs R) k = some o
  | [], R, i, j, r, k, o, _, h, _, _ => by simp at h
  | b :: bs, [], i, j, r, k, o, _, _, h, _ => by simp at h
  | b :: bs, r0 :: R, i, j, r, k, o, hn, hb, hr, hf => by
    simp only [objsM]
    cases j with
    | zero =>
      simp at hb hr
      subst hb hr; simp only [cond_true]; rw [find_append, hf]; rfl
    | succ j =>
      have ih := objsM_find N bs R (i + 1) j r k o (fun m q hq k o hf => by have := hn (m + 1) q (by simpa using hq) k o hf; omega) (by simpa using hb) (by simpa using hr) hf
      cases b with
      | false => simpa using ih
      | true =>
        simp only [cond_true]; rw [find_append]
        have : find r0.new k = none := by
          cases h0 : find r0.new k with
          | none => rfl
          | some o' =>
            exfalso
            have h1 := hn 0 r0 rfl k o' h0; have h2 := hn (j + 1) r (by simpa using hr) k o hf; omega
        rw [this]
        simpa using ih
theorem find_hide (ds : List Nat) : ∀ (l : List (Nat × AV)) (s : Nat), find (hide ds l) s = if s ∈ ds then none else find l s
  | [], s => by simp [hide, find]
  | (k, v) :: l, s => by
    simp only [hide]
    cases he : ds.elem k with
    | true =>
      have hk : k ∈ ds := by simpa using he
      simp only [cond_true]; rw [find_hide ds l s, find_cons]
      by_cases e : k = s
      · subst e; simp [hk]
      · simp [e]
    | false =>
      have hk : ¬ k ∈ ds := by simpa using he
      simp only [cond_false]; rw [find_cons, find_hide ds l s, find_cons]
      by_cases e : k = s
      · subst e; simp [hk]
      · simp [e]
def preds (o : Oper) : List Nat := (o.after.toList.filter (Region.binds .any)).map (·.on)
def bit (T : List (List Bool)) (i j : Nat) : Bool := ((T[i]?).getD []).getD j false
def chk (l : List Oper) (T : List (List Bool)) (K : Nat) : Bool :=
  (List.range l.length).all fun i => match l[i]? with
    | none => true
    | some o => Nat.ble ((T[i]?).getD []).length i && (preds o).all (fun e => Nat.blt e i) && (List.range i).all fun j => (!(bit T i j) || (preds o).any fun e => Nat.beq e j || (Nat.blt j e && bit T e j)) && (Nat.blt i K || bit T i j)
theorem chk_spec {l : List Oper} {T : List (List Bool)} {K : Nat} (h : chk l T K = true) {i : Nat} {o : Oper} (hi : l[i]? = some o) :
    ((T[i]?).getD []).length ≤ i ∧ (∀ e ∈ preds o, e < i) ∧ ∀ j, j < i → (bit T i j = true → ∃ e ∈ preds o, e = j ∨ (j < e ∧ bit T e j = true)) ∧ (K ≤ i → bit T i j = true) := by
  unfold chk at h
  rw [List.all_eq_true] at h; have hlt : i < l.length := (List.getElem?_eq_some_iff.1 hi).1; have := h i (by simpa using hlt); simp only [hi, Bool.and_eq_true, List.all_eq_true] at this; refine ⟨ble_le this.1.1, fun e he => Nat.le_of_ble_eq_true (this.1.2 e he), fun j hj => ?_⟩; have hj' := this.2 j (by simpa using hj); simp only [Bool.or_eq_true, Bool.not_eq_true', List.any_eq_true] at hj'; refine ⟨fun hb => ?_, fun hK => ?_⟩
  · rcases hj'.1 with h0 | ⟨e, he, h1⟩
    · rw [hb] at h0; cases h0
    · refine ⟨e, he, h1.imp (fun h => by rwa [Nat.beq_eq] at h) (fun h => ?_)⟩; rw [Bool.and_eq_true] at h; exact ⟨Nat.le_of_ble_eq_true h.1, h.2⟩
  · rcases hj'.2 with h0 | h0
    · have := Nat.le_of_ble_eq_true h0; omega
    · exact h0
def ResOk (P : Program) (l : List Oper) (σ : St) (ds : List Nat) (nx K : Nat) (T : List (List Bool)) (R : List Res) (i : Nat) : Prop :=
  ∀ o r, l[i]? = some o → R[i]? = some r → o.dst = some r.dst ∧ r.dst < σ.nt ∧ (∀ k ob, find r.new k = some ob → σ.next + 4 * i ≤ k ∧ k < σ.next + 4 * i + 4) ∧
    ((guardGo (dstsOf ⟨l⟩) (stM σ ds nx ((T[i]?).getD []) R) o.guard = some true ∧ Local P (stM σ ds nx ((T[i]?).getD []) R) o r.v r.new) ∨
     (guardGo (dstsOf ⟨l⟩) (stM σ ds nx ((T[i]?).getD []) R) o.guard = some false ∧ r.v = (.lit undef) ∧ r.new = []))
theorem countP_set {listed : Array Bool} {n i : Nat} (hn : listed.size = n) (hi : i < n) (hf : listed.getD i true = false) :
    (List.range n).countP (fun j => !(listed.setIfInBounds i true).getD j true) + 1 = (List.range n).countP (fun j => !listed.getD j true) := by
  have key : ∀ (m : Nat), m ≤ n → (List.range m).countP (fun j => !(listed.setIfInBounds i true).getD j true) + (if i < m then 1 else 0) = (List.range m).countP (fun j => !listed.getD j true) := by
    intro m
    induction m with
    | zero => intro _; simp
    | succ m ih =>
      intro hm; have := ih (by omega); rw [List.range_succ, List.countP_append, List.countP_append]; simp only [List.countP_singleton]
      have hms : m < listed.size := by omega
      by_cases e : i = m
      · subst e
        have h1 : (listed.setIfInBounds i true).getD i true = true := by simp [Array.getD, hms]
        rw [h1, hf, if_pos (Nat.lt_succ_self i)]; rw [if_neg (Nat.lt_irrefl i)] at this; simp only [Bool.not_true, Bool.not_false, Bool.false_eq_true, if_false, if_true]; omega
      · have h1 : (listed.setIfInBounds i true).getD m true = listed.getD m true := by simp [Array.getD, hms, e]
        rw [h1]
        by_cases c : i < m
        · rw [if_pos c] at this; rw [if_pos (show i < m + 1 by omega)]; omega
        · rw [if_neg c] at this; rw [if_neg (show ¬ i < m + 1 by omega)]; omega
  have := key n (Nat.le_refl _); rw [if_pos hi] at this; exact this
section draw
variable {P : Program} {l : List Oper} {T : List (List Bool)} {K : Nat}
theorem mem_ready {listed : Array Bool} {i : Nat} : i ∈ Region.ready .any ⟨l⟩ listed ↔ ∃ o, l[i]? = some o ∧ listed.getD i true = false ∧ ∀ e ∈ preds o, listed.getD e false = true := by
  unfold Region.ready preds
  simp only [List.mem_filter, List.mem_range, Bool.and_eq_true, Bool.not_eq_true']
  constructor
  · rintro ⟨hlt, h1, h2⟩
    have hlt' : i < l.length := by simpa using hlt
    have hi : l[i]? = some l[i] := List.getElem?_eq_getElem hlt'; refine ⟨l[i], hi, h1, ?_⟩
    have hi' : (⟨l⟩ : Array Oper)[i]? = some l[i] := by simpa using hi
    rw [hi'] at h2; simp only [Option.map_some, Option.getD_some] at h2; rw [← Array.all_toList, List.all_eq_true] at h2; intro e he; simp only [List.mem_map, List.mem_filter] at he; obtain ⟨ed, ⟨hm, hb⟩, rfl⟩ := he; have := h2 ed hm
    simpa [hb] using this
  · rintro ⟨o, hi, h1, h2⟩; have hlt : i < l.length := (List.getElem?_eq_some_iff.1 hi).1; refine ⟨by simpa using hlt, h1, ?_⟩
    have hi' : (⟨l⟩ : Array Oper)[i]? = some o := by simpa using hi
    rw [hi']; simp only [Option.map_some, Option.getD_some]; rw [← Array.all_toList, List.all_eq_true]; intro ed hm
    cases hb : Region.binds .any ed with
    | false => simp
    | true =>
      have := h2 ed.on (by simp only [List.mem_map, List.mem_filter]; exact ⟨ed, ⟨hm, hb⟩, rfl⟩)
      simp [this]
def Shut (l : List Oper) (listed : Array Bool) : Prop := ∀ i o, l[i]? = some o → listed.getD i false = true → ∀ e ∈ preds o, listed.getD e false = true
theorem listed_bits (hc : chk l T K = true) {listed : Array Bool} (hs : Shut l listed) : ∀ (i : Nat) (o : Oper), l[i]? = some o → (∀ e ∈ preds o, listed.getD e false = true) → ∀ j, j < i → bit T i j = true → listed.getD j false = true := by
  intro i
  induction i using Nat.strongRecOn with
  | _ i ih =>
    intro o ho hp j hj hb; obtain ⟨_, h1, h2⟩ := chk_spec hc ho; obtain ⟨e, he, h3⟩ := (h2 j hj).1 hb; have hle := hp e he
    rcases h3 with rfl | h3
    · exact hle
    · have hei := h1 e he; have helt : e < l.length := Nat.lt_trans hei (List.getElem?_eq_some_iff.1 ho).1; have heo : l[e]? = some l[e] := List.getElem?_eq_getElem helt; exact ih e hei _ heo (hs e _ heo hle) j h3.1 h3.2
theorem ready_exists (hc : chk l T K = true) {listed : Array Bool} (hsz : listed.size = l.length) {i : Nat} (hi : i < l.length) (hn : listed.getD i false = false) : ∃ j, j ≤ i ∧ j ∈ Region.ready .any ⟨l⟩ listed := by
  induction i using Nat.strongRecOn with
  | _ i ih =>
    have ho : l[i]? = some l[i] := List.getElem?_eq_getElem hi
    by_cases hall : ∀ e ∈ preds l[i], listed.getD e false = true
    · refine ⟨i, Nat.le_refl _, mem_ready.2 ⟨l[i], ho, ?_, hall⟩⟩; simp only [Array.getD] at hn ⊢; rw [dif_pos (by omega)] at hn ⊢; exact hn
    · obtain ⟨e, he⟩ := Classical.not_forall.1 hall; obtain ⟨he1, he2⟩ := Classical.not_imp.1 he; have hlt := (chk_spec hc ho).2.1 e he1; obtain ⟨j, h1, h2⟩ := ih e hlt (by omega) (by simpa using he2); exact ⟨j, by omega, h2⟩
theorem getD_set {listed : Array Bool} {i j : Nat} {d : Bool} (hi : i < listed.size) : (listed.setIfInBounds i true).getD j d = if i = j then true else listed.getD j d := by
  by_cases e : i = j
  · subst e; simp [Array.getD, hi]
  · simp only [e, if_false, Array.getD, Array.size_setIfInBounds]
    by_cases hj : j < listed.size
    · simp [hj, e]
    · simp [hj]
theorem getD_tf {listed : Array Bool} {j : Nat} (hj : j < listed.size) : listed.getD j true = listed.getD j false := by simp [Array.getD, hj]
theorem Shut.set (hc : chk l T K = true) {listed : Array Bool} (hs : Shut l listed) (hsz : listed.size = l.length) {i : Nat} (hr : i ∈ Region.ready .any ⟨l⟩ listed) : Shut l (listed.setIfInBounds i true) := by
  obtain ⟨o, ho, _, hp⟩ := mem_ready.1 hr
  have hlt : i < listed.size := by rw [hsz]; exact (List.getElem?_eq_some_iff.1 ho).1
  intro k ok hk hl e he; rw [getD_set hlt] at hl ⊢
  by_cases e1 : i = e
  · simp [e1]
  · rw [if_neg e1]
    by_cases e2 : i = k
    · subst e2; rw [ho] at hk; simp only [Option.some.injEq] at hk; subst hk; exact hp e he
    · rw [if_neg e2] at hl; exact hs k ok hk hl e he
theorem any_of_L (hc : chk l T K = true) {Q : Exit → Act → World → Prop} : ∀ (fuel m : Nat) (listed : Array Bool) (a : Act) (w : World), m + fuel = l.length → K ≤ m → listed.size = l.length → Shut l listed →
    (∀ j, j < l.length → listed.getD j false = decide (j < m)) → wpL P ⟨l⟩ Q (l.drop m) a w → wpAny P .any ⟨l⟩ Q fuel listed a w
  | 0, m, listed, a, w, hm, _, hsz, hs, hd, h => by
    have hnone : Region.ready .any ⟨l⟩ listed = [] := by
      apply List.eq_nil_iff_forall_not_mem.2
      intro i hi; obtain ⟨o, ho, h1, _⟩ := mem_ready.1 hi; have hlt := (List.getElem?_eq_some_iff.1 ho).1; rw [getD_tf (by omega), hd i hlt] at h1
      simp at h1
      omega
    rw [List.drop_of_length_le (by omega)] at h; exact ⟨hnone, (wpL_nil _ _ _ _ _).mp h⟩
  | fuel + 1, m, listed, a, w, hm, hK, hsz, hs, hd, h => by
    have hml : m < l.length := by omega
    have hone : ∀ i ∈ Region.ready .any ⟨l⟩ listed, i = m := by
      intro i hi; obtain ⟨o, ho, h1, hp⟩ := mem_ready.1 hi; have hlt := (List.getElem?_eq_some_iff.1 ho).1; rw [getD_tf (by omega), hd i hlt] at h1
      simp at h1
      rcases Nat.lt_or_ge m i with hmi | hmi
      · exfalso
        have hb := ((chk_spec hc ho).2.2 m hmi).2 (by omega); have := listed_bits hc hs i o ho hp m hmi hb; rw [hd m hml] at this
        simp at this
      · omega
    refine ⟨fun hnil => ?_, fun i hi => ?_⟩
    · obtain ⟨j, _, hj⟩ := ready_exists hc hsz hml (by rw [hd m hml]; simp); rw [hnil] at hj
      cases hj
    · have := hone i hi; subst this; have hsh := hs.set hc hsz hi; rw [List.drop_eq_getElem_cons hml] at h
      have ho : (⟨l⟩ : Array Oper)[i]? = some l[i] := by simpa using List.getElem?_eq_getElem hml
      have hnext : ∀ a' w', wpL P ⟨l⟩ Q (l.drop (i + 1)) a' w' → wpAny P .any ⟨l⟩ Q fuel (listed.setIfInBounds i true) a' w' := by
        intro a' w' h'; refine any_of_L hc fuel (i + 1) _ a' w' (by omega) (by omega) (by simpa using hsz) hsh (fun j hj => ?_) h'; rw [getD_set (by omega), hd j hj]
        by_cases e : i = j
        · subst e; simp
        · simp only [e, if_false]
          by_cases c : j < i
          · simp [c, show j < i + 1 by omega]
          · simp [c, show ¬ j < i + 1 by omega]
      unfold wpOp
      simp only [ho]; simp only [wpL_cons] at h
      split
      · rename_i hw
        simp only [hw, if_true] at h; exact .inl (Oper.wp_mono hnext h)
      · rename_i hw
        simp only [hw, if_false, Bool.false_eq_true] at h; exact hnext _ _ h
def bitsOf (K : Nat) (listed : Array Bool) : List Bool := (List.range K).map fun j => listed.getD j false
theorem bitsOf_get {listed : Array Bool} {j : Nat} : (bitsOf K listed)[j]? = some true ↔ j < K ∧ listed.getD j false = true := by
  unfold bitsOf
  simp only [List.getElem?_map, Option.map_eq_some_iff]
  constructor
  · rintro ⟨k, h1, h2⟩; obtain ⟨hlt, he⟩ := List.getElem?_eq_some_iff.1 h1
    simp at hlt he
    subst he; exact ⟨hlt, h2⟩
  · rintro ⟨h1, h2⟩; exact ⟨j, by simp [h1], h2⟩
theorem Rel.sub {C : Ctx} {E : Env} {X : Nat → List Value} {σ σ' : St} {a : Act} (h : Rel C E X σ a) (hs : ∀ s v, find σ'.slots s = some v → find σ.slots s = some v) (ho : ∀ r o, find σ'.objs r = some o → find σ.objs r = some o)
    (hn : σ.next ≤ σ'.next) (ht : σ'.nt = σ.nt) (he : σ'.env = σ.env) : Rel C E X σ' a :=
  ⟨fun s v hv => h.slots s v (hs s v hv), h.size.trans ht.symm, h.defers, fun r o hr => h.objs r o (ho r o hr), fun r r' o o' b hr hr' => h.apart r r' o o' b (ho r o hr) (ho r' o' hr'),
    fun b hb => ⟨(h.stay b hb).1, fun r o hr => (h.stay b hb).2 r o (ho r o hr)⟩, fun r hr => Nat.lt_of_lt_of_le (h.fresh r hr) hn, h.kept, fun r o b hr => h.mine r o b (ho r o hr), h.env, h.envD, h.base, h.grow, h.envk.trans he.symm, h.glob⟩
theorem stM_sub {σ : St} {nx : Nat} {R : List Res} {bs bs' : List Bool} (hnd : (R.map (·.dst)).Nodup) (hid : ∀ (m : Nat) (q : Res), R[m]? = some q → ∀ k o, find q.new k = some o → σ.next + 4 * (0 + m) ≤ k ∧ k < σ.next + 4 * (0 + m) + 4)
    (hσ : ∀ k o, find σ.objs k = some o → k < σ.next) (hb : ∀ j : Nat, bs'[j]? = some true → bs[j]? = some true) :
    (∀ s v, find (stM σ (R.map (·.dst)) nx bs' R).slots s = some v → find (stM σ (R.map (·.dst)) nx bs R).slots s = some v) ∧
    (∀ r o, find (stM σ (R.map (·.dst)) nx bs' R).objs r = some o → find (stM σ (R.map (·.dst)) nx bs R).objs r = some o) := by
  constructor
  · intro s v h; simp only [stM] at h ⊢; rw [find_append] at h ⊢
    cases h1 : find (slotsM bs' R) s with
    | some u =>
      rw [h1] at h; simp only [Option.some_or, Option.some.injEq] at h; subst h; obtain ⟨j, r, g1, g2, rfl, rfl⟩ := find_slotsM bs' R s u h1; rw [slotsM_find bs R j r hnd (hb j g1) g2]; rfl
    | none =>
      rw [h1] at h; simp only [Option.none_or] at h; have hh := h; rw [find_hide] at hh
      split at hh
      · cases hh
      · rename_i hmem
        cases h2 : find (slotsM bs R) s with
        | some u =>
          obtain ⟨j, r, g1, g2, rfl, rfl⟩ := find_slotsM bs R s u h2; exact absurd (List.mem_map.2 ⟨r, List.mem_of_getElem? g2, rfl⟩) hmem
        | none => simpa using h
  · intro k o h; simp only [stM] at h ⊢; rw [find_append] at h ⊢
    cases h1 : find (objsM bs' R) k with
    | some u =>
      rw [h1] at h; simp only [Option.some_or, Option.some.injEq] at h; subst h; obtain ⟨j, r, g1, g2, g3⟩ := find_objsM bs' R k u h1; rw [objsM_find σ.next bs R 0 j r k u hid (hb j g1) g2 g3]; rfl
    | none =>
      rw [h1] at h; simp only [Option.none_or] at h
      cases h2 : find (objsM bs R) k with
      | some u =>
        obtain ⟨j, r, g1, g2, g3⟩ := find_objsM bs R k u h2; have := hid j r g2 k u g3; have := hσ k o h; omega
      | none => simpa using h
theorem any_of_draw {σ : St} {nx : Nat} {R : List Res} {Q : Exit → Act → World → Prop} {C : Ctx} (hc : chk l T K = true) (hKl : K ≤ l.length) (hRl : R.length = K) (hnd : (R.map (·.dst)).Nodup)
    (hR : ∀ i, i < K → ResOk P l σ (R.map (·.dst)) nx K T R i) (hnx : σ.next + 4 * K ≤ nx) (hσ : ∀ k o, find σ.objs k = some o → k < σ.next)
    (hfin : ∀ E X a, Rel C E X (stM σ (R.map (·.dst)) nx (List.replicate K true) R) a → wpL P ⟨l⟩ Q (l.drop K) a E.w) :
    ∀ (fuel : Nat) (listed : Array Bool) (E : Env) (X : Nat → List Value) (a : Act), listed.size = l.length → (List.range l.length).countP (fun j => !listed.getD j true) = fuel → Shut l listed → (∀ i, K ≤ i → listed.getD i false = false) →
      Rel C E X (stM σ (R.map (·.dst)) nx (bitsOf K listed) R) a → (∀ r, E.D r → r < σ.next ∨ ∃ j q ob, listed.getD j false = true ∧ R[j]? = some q ∧ find q.new r = some ob) →
      wpAny P .any ⟨l⟩ Q fuel listed a E.w := by
  have hid : ∀ (m : Nat) (q : Res), R[m]? = some q → ∀ k o, find q.new k = some o → σ.next + 4 * (0 + m) ≤ k ∧ k < σ.next + 4 * (0 + m) + 4 := by
    intro m q hq k o hf
    have hm : m < K := by rw [← hRl]; exact (List.getElem?_eq_some_iff.1 hq).1
    have ho : l[m]? = some l[m] := List.getElem?_eq_getElem (by omega); have := (hR m hm _ q ho hq).2.2.1 k o hf; omega
  intro fuel
  induction fuel with
  | zero =>
    intro listed E X a hsz hcnt hs hge hr hD
    have hall : ∀ j, j < l.length → listed.getD j true = true := by
      intro j hj; have := List.countP_eq_zero.1 hcnt j (by simpa using hj)
      simpa using this
    have hKn : K = l.length := by
      rcases Nat.lt_or_ge K l.length with h | h
      · have h1 := hall K h; rw [getD_tf (by omega), hge K (Nat.le_refl _)] at h1
        cases h1
      · omega
    refine any_of_L hc 0 K listed a E.w (by omega) (Nat.le_refl _) hsz hs (fun j hj => ?_) (hfin E X a ?_)
    · rw [← getD_tf (by omega), hall j hj]
      simp; omega
    · have hb := stM_sub (nx := nx) (bs := bitsOf K listed) (bs' := List.replicate K true) hnd hid hσ (fun j hj => bitsOf_get.2 (by
        obtain ⟨hlt, _⟩ := List.getElem?_eq_some_iff.1 hj
        simp at hlt
        exact ⟨hlt, by rw [← getD_tf (by omega)]; exact hall j (by omega)⟩))
      exact hr.sub hb.1 hb.2 (Nat.le_refl _) rfl rfl
  | succ fuel ih =>
    intro listed E X a hsz hcnt hs hge hr hD
    by_cases hallK : ∀ j, j < K → listed.getD j false = true
    · -- the quiet ones are done
      have hb := stM_sub (nx := nx) (bs := bitsOf K listed) (bs' := List.replicate K true) hnd hid hσ (fun j hj => bitsOf_get.2 (by
        obtain ⟨hlt, _⟩ := List.getElem?_eq_some_iff.1 hj
        simp at hlt
        exact ⟨hlt, hallK j hlt⟩))
      have hr' := hr.sub (σ' := stM σ (R.map (·.dst)) nx (List.replicate K true) R) hb.1 hb.2 (Nat.le_refl _) rfl rfl
      have hd : ∀ j, j < l.length → listed.getD j false = decide (j < K) := by
        intro j hj
        by_cases h : j < K
        · simp [hallK j h, h]
        · simp [hge j (by omega), h]
      have hcnt2 : (List.range l.length).countP (fun j => !listed.getD j true) = l.length - K := by
        have e1 : (List.range l.length).countP (fun j => !listed.getD j true) = (List.range l.length).countP (fun j => decide (K ≤ j)) := by
          apply List.countP_congr
          intro j hj
          have hj' : j < l.length := by simpa using hj
          rw [getD_tf (by omega), hd j hj']
          simp
        rw [e1]
        have : ∀ n, (List.range n).countP (fun j => decide (K ≤ j)) = n - K := by
          intro n
          induction n with
          | zero => simp
          | succ n ihn =>
            rw [List.range_succ, List.countP_append, ihn, List.countP_singleton]
            by_cases h : K ≤ n
            · simp [h]; omega
            · simp [h]; omega
        exact this _
      exact any_of_L hc (fuel + 1) K listed a E.w (by omega) (Nat.le_refl _) hsz hs hd (hfin E X a hr')
    · obtain ⟨j0, hj0⟩ := Classical.not_forall.1 hallK; obtain ⟨hj1, hj2⟩ := Classical.not_imp.1 hj0
      have hj2 : listed.getD j0 false = false := by simpa using hj2
      refine ⟨fun hnil => ?_, fun i hi => ?_⟩
      · obtain ⟨j, _, hj⟩ := ready_exists hc hsz (show j0 < l.length by omega) hj2; rw [hnil] at hj
        cases hj
      · obtain ⟨o, ho, h1, hp⟩ := mem_ready.1 hi; have hlt := (List.getElem?_eq_some_iff.1 ho).1
        have hiK : i < K := by
          rcases Nat.lt_or_ge i K with h | h
          · exact h
          · exfalso
            have hb := ((chk_spec hc ho).2.2 j0 (by omega)).2 h; have := listed_bits hc hs i o ho hp j0 (by omega) hb; rw [hj2] at this
            cases this
        have hRi : R[i]? = some (R[i]'(by omega)) := List.getElem?_eq_getElem (by omega)
        generalize hri : (R[i]'(by omega)) = ri at hRi
        obtain ⟨hdst, hdn, hids, hor⟩ := hR i hiK o ri ho hRi; have hsh := hs.set hc hsz hi; have hlen := (chk_spec hc ho).1
        have hbits : ∀ j : Nat, ((T[i]?).getD [])[j]? = some true → (bitsOf K listed)[j]? = some true := by
          intro j hj; have hji : j < i := Nat.lt_of_lt_of_le (List.getElem?_eq_some_iff.1 hj).1 hlen; refine bitsOf_get.2 ⟨by omega, listed_bits hc hs i o ho hp j hji ?_⟩
          unfold bit
          rw [List.getD_eq_getElem?_getD, hj]; rfl
        have hb := stM_sub (nx := nx) (bs := bitsOf K listed) (bs' := (T[i]?).getD []) hnd hid hσ hbits; have hrr := hr.sub (σ' := stM σ (R.map (·.dst)) nx ((T[i]?).getD []) R) hb.1 hb.2 (Nat.le_refl _) rfl rfl
        have ho' : (⟨l⟩ : Array Oper)[i]? = some o := by simpa using ho
        have hbn : ∀ j : Nat, (bitsOf K (listed.setIfInBounds i true))[j]? = some true → j = i ∨ (bitsOf K listed)[j]? = some true := by
          intro j hj; obtain ⟨g1, g2⟩ := bitsOf_get.1 hj; rw [getD_set (by omega)] at g2
          by_cases e : i = j
          · exact .inl e.symm
          · rw [if_neg e] at g2; exact .inr (bitsOf_get.2 ⟨g1, g2⟩)
        have hstep : ∀ (E' : Env) X' a', Rel C E' X' ((stM σ (R.map (·.dst)) nx (bitsOf K listed) R).ext o.dst ri.v ri.new nx) a' → (∀ r, E'.D r → E.D r ∨ ∃ ob, find ri.new r = some ob) →
            wpAny P .any ⟨l⟩ Q fuel (listed.setIfInBounds i true) a' E'.w := by
          intro E' X' a' hr' hD'; refine ih _ E' X' a' (by simpa using hsz) ?_ hsh ?_ ?_ ?_
          · have := countP_set hsz hlt h1; omega
          · intro k hk; rw [getD_set (by omega), if_neg (by omega)]; exact hge k hk
          · refine hr'.sub ?_ ?_ (Nat.le_refl _) rfl rfl
            · intro s v hv; simp only [stM, St.ext, hdst] at hv ⊢; rw [find_cons]; rw [find_append] at hv
              cases g1 : find (slotsM (bitsOf K (listed.setIfInBounds i true)) R) s with
              | some u =>
                rw [g1] at hv; simp only [Option.some_or, Option.some.injEq] at hv; subst hv; obtain ⟨j, q, k1, k2, rfl, rfl⟩ := find_slotsM _ R s u g1
                rcases hbn j k1 with rfl | k1
                · rw [hRi] at k2; simp only [Option.some.injEq] at k2; subst k2
                  simp
                · by_cases e : ri.dst = q.dst
                  · rw [if_pos e]
                    have hij : i = j := by
                      have e1 : (R.map (·.dst))[i]? = some ri.dst := by simp [hRi]
                      have e2 : (R.map (·.dst))[j]? = some ri.dst := by simp [k2, e]
                      obtain ⟨q1, q2⟩ := List.getElem?_eq_some_iff.1 e1; obtain ⟨q3, q4⟩ := List.getElem?_eq_some_iff.1 e2; exact (List.getElem_inj hnd).1 (q2.trans q4.symm)
                    subst hij; rw [hRi] at k2; simp only [Option.some.injEq] at k2; rw [k2]
                  · rw [if_neg e, find_append, slotsM_find _ R j q hnd k1 k2]; rfl
              | none =>
                rw [g1] at hv; simp only [Option.none_or] at hv; have hh := hv; rw [find_hide] at hh
                split at hh
                · cases hh
                · rename_i hmem
                  have hne : ri.dst ≠ s := fun e => hmem (List.mem_map.2 ⟨ri, List.mem_of_getElem? hRi, e⟩); rw [if_neg hne, find_append]
                  cases g2 : find (slotsM (bitsOf K listed) R) s with
                  | some u =>
                    obtain ⟨j, q, k1, k2, rfl, rfl⟩ := find_slotsM _ R s u g2; exact absurd (List.mem_map.2 ⟨q, List.mem_of_getElem? k2, rfl⟩) hmem
                  | none => simpa using hv
            · intro k ob hv; simp only [stM, St.ext] at hv ⊢; rw [find_append] at hv; rw [find_append]
              cases g1 : find (objsM (bitsOf K (listed.setIfInBounds i true)) R) k with
              | some u =>
                rw [g1] at hv; simp only [Option.some_or, Option.some.injEq] at hv; subst hv; obtain ⟨j, q, k1, k2, k3⟩ := find_objsM _ R k u g1
                rcases hbn j k1 with rfl | k1
                · rw [hRi] at k2; simp only [Option.some.injEq] at k2; subst k2; rw [k3]; rfl
                · by_cases e : j = i
                  · subst e; rw [hRi] at k2; simp only [Option.some.injEq] at k2; subst k2; rw [k3]; rfl
                  · have hnone : find ri.new k = none := by
                      cases g2 : find ri.new k with
                      | none => rfl
                      | some ob' =>
                        have r1 := hid i ri hRi k ob' g2; have r2 := hid j q k2 k u k3; omega
                    rw [hnone, find_append, objsM_find σ.next _ R 0 j q k u hid k1 k2 k3]; rfl
              | none =>
                rw [g1] at hv; simp only [Option.none_or] at hv; have hklt := hσ k ob hv
                have hnone : find ri.new k = none := by
                  cases g2 : find ri.new k with
                  | none => rfl
                  | some ob' =>
                    have r1 := hid i ri hRi k ob' g2; omega
                rw [hnone, find_append]
                cases g2 : find (objsM (bitsOf K listed) R) k with
                | some u =>
                  obtain ⟨j, q, k1, k2, k3⟩ := find_objsM _ R k u g2; have := hid j q k2 k u k3; omega
                | none => simpa using hv
          · intro r hr2
            rcases hD' r hr2 with h | ⟨ob, h⟩
            · rcases hD r h with h | ⟨j, q, ob, k1, k2, k3⟩
              · exact .inl h
              · refine .inr ⟨j, q, ob, ?_, k2, k3⟩; rw [getD_set (by omega)]
                split
                · rfl
                · exact k1
            · exact .inr ⟨i, ri, ob, by rw [getD_set (by omega), if_pos rfl], hRi, h⟩
        have hst : ∀ d, o.dst = some d → d < (stM σ (R.map (·.dst)) nx (bitsOf K listed) R).nt := by
          intro d hd; rw [hdst] at hd; simp only [Option.some.injEq] at hd; subst hd; exact hdn
        unfold wpOp
        simp only [ho']
        rcases hor with ⟨hg, hloc⟩ | ⟨hg, hv, hnew⟩
        · rw [hrr.guard hg, if_pos rfl]; refine .inl (hloc C E X a hrr (fun r ob hf hDr => ?_) _ _ (fun y E' X' hLP => ?_))
          · have r1 := hid i ri hRi r ob hf
            rcases hD r hDr with h | ⟨j, q, ob', k1, k2, k3⟩
            · omega
            · have r2 := hid j q k2 r ob' k3
              have hji : j = i := by omega
              subst hji
              have : listed.getD j true = true := by rw [getD_tf (by omega)]; exact k1
              rw [h1] at this
              cases this
          · obtain ⟨X'', hr'⟩ := hr.ext hLP o.dst nx hst (fun r ob hf => by have := hid i ri hRi r ob hf; omega) (Nat.le_refl _); exact hstep E' X'' _ hr' hLP.dom
        · rw [hrr.guard hg, if_neg (by simp)]; have hput := hr.put o.dst hst (v := (.lit undef)) (y := undef) (by simp [FV]); refine hstep E X _ ?_ (fun r hr => .inl hr); rw [hv, hnew]; exact hput.sub (fun s v h => h) (fun r ob h => h) (Nat.le_refl _) rfl rfl
end draw
def stD (σ : St) (nx : Nat) (bs : List Bool) (R : List Res) : St :=
  { slots := slotsM bs R ++ σ.slots, objs := objsM bs R ++ σ.objs, next := nx, nt := σ.nt, env := σ.env }
def stAll (σ : St) (nx : Nat) (R : List Res) : St :=
  { slots := R.map (fun r => (r.dst, r.v)) ++ σ.slots, objs := R.flatMap (·.new) ++ σ.objs, next := nx, nt := σ.nt, env := σ.env }
def disj (ds : List Nat) : List (Nat × AV) → Bool
  | [] => true
  | p :: l => !(ds.elem p.1) && disj ds l
theorem hide_disj {ds : List Nat} : ∀ {l : List (Nat × AV)}, disj ds l = true → hide ds l = l
  | [], _ => rfl
  | p :: l, h => by
    simp only [disj, Bool.and_eq_true, Bool.not_eq_true'] at h; simp only [hide, h.1, cond_false, hide_disj h.2]
theorem slotsM_all : ∀ (R : List Res), slotsM (List.replicate R.length true) R = R.map (fun r => (r.dst, r.v))
  | [] => rfl
  | r :: R => by simp [slotsM, List.replicate_succ, slotsM_all R]
theorem objsM_all : ∀ (R : List Res), objsM (List.replicate R.length true) R = R.flatMap (·.new)
  | [] => rfl
  | r :: R => by simp [objsM, List.replicate_succ, objsM_all R]
theorem slotsM_prefix : ∀ (bs : List Bool) (R S : List Res), bs.length ≤ R.length → slotsM bs (R ++ S) = slotsM bs R
  | [], R, S, _ => by cases R <;> cases S <;> simp [slotsM]
  | b :: bs, [], S, h => by simp at h
  | b :: bs, r :: R, S, h => by
    simp only [List.cons_append, slotsM]; rw [slotsM_prefix bs R S (by simpa using h)]
theorem objsM_prefix : ∀ (bs : List Bool) (R S : List Res), bs.length ≤ R.length → objsM bs (R ++ S) = objsM bs R
  | [], R, S, _ => by cases R <;> cases S <;> simp [objsM]
  | b :: bs, [], S, h => by simp at h
  | b :: bs, r :: R, S, h => by
    simp only [List.cons_append, objsM]; rw [objsM_prefix bs R S (by simpa using h)]
def idsIn (lo : Nat) (new : List (Nat × Obj)) : Prop := ∀ p ∈ new, lo ≤ p.1 ∧ p.1 < lo + 4
theorem idsIn_find {lo : Nat} : ∀ {new : List (Nat × Obj)}, idsIn lo new → ∀ k ob, find new k = some ob → lo ≤ k ∧ k < lo + 4
  | [], _, k, ob, h => by simp [find] at h
  | (j, o) :: l, h, k, ob, hf => by
    rw [find_cons] at hf
    split at hf
    · rename_i e
      subst e; exact h (j, o) (by simp)
    · exact idsIn_find (fun p hp => h p (by simp [hp])) k ob hf
def finS (P : Program) (l : List Oper) (σ : St) (nx : Nat) (Q : St → Prop) (rest : List Oper) (R : List Res) : Prop := SeqL P ⟨l⟩ rest (stAll σ nx R) Q
def drawF (P : Program) (l : List Oper) (gs : List (Option Nat)) (σ : St) (nx : Nat) (Fin : List Oper → List Res → Prop) : List Oper → List (List Bool) → List Res → Prop
  | rest, [], R => Fin rest R
  | [], _ :: _, _ => False
  | o :: rest, bs :: Ts, R => match o.dst with
    | none => False
    | some d => match guardGo gs (stD σ nx bs R) o.guard with
      | some true => match stepQ P (stD σ nx bs R) (σ.next + 4 * R.length) o.op with
        | some (v, new) => drawF P l gs σ nx Fin rest Ts (R ++ [⟨d, v, new⟩])
        | none => ∃ v new, idsIn (σ.next + 4 * R.length) new ∧ Local P (stD σ nx bs R) o v new ∧ drawF P l gs σ nx Fin rest Ts (R ++ [⟨d, v, new⟩])
      | some false => drawF P l gs σ nx Fin rest Ts (R ++ [⟨d, (.lit undef), []⟩])
      | none => False
theorem drawF_spec {P : Program} {l : List Oper} {σ : St} {nx : Nat} {Fin : List Oper → List Res → Prop} : ∀ (rest : List Oper) (Ts : List (List Bool)) (R : List Res), drawF P l (dstsOf ⟨l⟩) σ nx Fin rest Ts R → (∀ i, (h : i < Ts.length) → Ts[i].length ≤ R.length + i) →
    ∃ S : List Res, S.length = Ts.length ∧ Fin (rest.drop Ts.length) (R ++ S) ∧
      ∀ i, i < Ts.length → ∃ o r, rest[i]? = some o ∧ S[i]? = some r ∧ o.dst = some r.dst ∧ idsIn (σ.next + 4 * (R.length + i)) r.new ∧
        ((guardGo (dstsOf ⟨l⟩) (stD σ nx ((Ts[i]?).getD []) (R ++ S)) o.guard = some true ∧ Local P (stD σ nx ((Ts[i]?).getD []) (R ++ S)) o r.v r.new) ∨
         (guardGo (dstsOf ⟨l⟩) (stD σ nx ((Ts[i]?).getD []) (R ++ S)) o.guard = some false ∧ r.v = (.lit undef) ∧ r.new = []))
  | rest, [], R, h, _ => by
    simp only [drawF] at h; exact ⟨[], rfl, by simpa using h, fun i hi => by simp at hi⟩
  | [], _ :: _, _, h, _ => by simp [drawF] at h
  | o :: rest, bs :: Ts, R, h, hlen => by
    have hbs : bs.length ≤ R.length := hlen 0 (Nat.succ_pos _); simp only [drawF] at h
    split at h
    · exact h.elim
    · rename_i d hd
      have key : ∀ v new, drawF P l (dstsOf ⟨l⟩) σ nx Fin rest Ts (R ++ [⟨d, v, new⟩]) → idsIn (σ.next + 4 * R.length) new →
          ((guardGo (dstsOf ⟨l⟩) (stD σ nx bs R) o.guard = some true ∧ Local P (stD σ nx bs R) o v new) ∨ (guardGo (dstsOf ⟨l⟩) (stD σ nx bs R) o.guard = some false ∧ v = (.lit undef) ∧ new = [])) →
          ∃ S : List Res, S.length = (bs :: Ts).length ∧ Fin ((o :: rest).drop (bs :: Ts).length) (R ++ S) ∧
            ∀ i, i < (bs :: Ts).length → ∃ o' r, (o :: rest)[i]? = some o' ∧ S[i]? = some r ∧ o'.dst = some r.dst ∧ idsIn (σ.next + 4 * (R.length + i)) r.new ∧
              ((guardGo (dstsOf ⟨l⟩) (stD σ nx (((bs :: Ts)[i]?).getD []) (R ++ S)) o'.guard = some true ∧ Local P (stD σ nx (((bs :: Ts)[i]?).getD []) (R ++ S)) o' r.v r.new) ∨
               (guardGo (dstsOf ⟨l⟩) (stD σ nx (((bs :: Ts)[i]?).getD []) (R ++ S)) o'.guard = some false ∧ r.v = (.lit undef) ∧ r.new = [])) := by
        intro v new hdr hids hor
        obtain ⟨S, h1, h2, h3⟩ := drawF_spec rest Ts _ hdr (fun i hi => by
          have := hlen (i + 1) (by simpa using hi); simp only [List.getElem_cons_succ, List.length_append, List.length_singleton] at this ⊢
          omega)
        refine ⟨⟨d, v, new⟩ :: S, by simp [h1], ?_, ?_⟩
        · rw [List.append_assoc] at h2
          simpa using h2
        · intro i hi
          cases i with
          | zero =>
            refine ⟨o, ⟨d, v, new⟩, rfl, rfl, hd, by simpa using hids, ?_⟩
            have e1 : stD σ nx (((bs :: Ts)[0]?).getD []) (R ++ ⟨d, v, new⟩ :: S) = stD σ nx bs R := by
              simp only [List.getElem?_cons_zero, Option.getD_some, stD, slotsM_prefix bs R _ hbs, objsM_prefix bs R _ hbs]
            rw [e1]; exact hor
          | succ i =>
            obtain ⟨o', r, k1, k2, k3, k4, k5⟩ := h3 i (by simpa using hi); refine ⟨o', r, by simpa using k1, by simpa using k2, k3, ?_, ?_⟩
            · have : R.length + (i + 1) = (R ++ [(⟨d, v, new⟩ : Res)]).length + i := by simp; omega
              rw [this]; exact k4
            · rw [List.append_assoc] at k5
              simpa using k5
      split at h
      · rename_i hg
        split at h
        · rename_i v new hq
          refine key v new h ?_ (.inl ⟨hg, stepQ_sound hq⟩)
          rcases stepQ_new hq with rfl | ⟨ob, rfl⟩
          · intro p hp; simp at hp
          · intro p hp
            simp at hp
            subst hp
            simp
        · obtain ⟨v, new, hids, hloc, h⟩ := h; exact key v new h hids (.inl ⟨hg, hloc⟩)
      · rename_i hg
        exact key (.lit undef) [] h (fun p hp => by simp at hp) (.inr ⟨hg, rfl, rfl⟩)
      · exact h.elim
theorem Rel.drew {C : Ctx} {E : Env} {X : Nat → List Value} {σ : St} {a : Act} (h : Rel C E X σ a) : Rel C { E with w := E.w.drew } X σ a := by
  have hle : E.le { E with w := E.w.drew } := ⟨fun b hb => ⟨hb, rfl⟩, fun r hr => ⟨hr, rfl, rfl⟩⟩
  exact ⟨fun s v hv => FV.le _ hle _ (h.slots s v hv), h.size, h.defers, fun r o hr => ⟨(h.objs r o hr).1, (h.objs r o hr).2.1, (h.objs r o hr).2.2.1.kept (fun b _ => rfl), FVr.le _ _ (hle.by _) _ (h.objs r o hr).2.2.2⟩, h.apart,
    h.stay, h.fresh, ⟨h.kept.os, h.kept.tape.trans ⟨rfl, Nat.le_succ _⟩, h.kept.output, h.kept.size, h.kept.block⟩, h.mine, h.env, h.envD, h.base, h.grow, h.envk, h.glob.le hle⟩
def dstsL : List Oper → List Nat
  | [] => []
  | o :: l => match o.dst with
    | some d => d :: dstsL l
    | none => dstsL l
def drawOk (l : List Oper) (T : List (List Bool)) (σ : St) (K : Nat) : Bool :=
  chk l T K && Nat.ble K l.length && (let ds := dstsL (l.take K); disj ds σ.slots && decide ds.Nodup && ds.all (fun d => Nat.blt d σ.nt))
theorem Ev.draw {P : Program} {σ : St} {Q : Exit → St → Prop} {id : Nat} {l : List Oper} (T : List (List Bool)) (K : Nat) (hm : P.follows .mixedOrders = true) (hok : drawOk l T σ K = true) (hTl : K ≤ T.length)
    (h : ∀ Kt : St → Prop, (∀ σ', Q .normal σ' → Kt σ') → drawF P l (dstsOf ⟨l⟩) σ (σ.next + 4 * K) (finS P l σ (σ.next + 4 * K) Kt) l (T.take K) []) : Ev P (.region id ⟨l⟩ true) σ Q := by
  simp only [drawOk, Bool.and_eq_true, decide_eq_true_eq, List.all_eq_true] at hok; obtain ⟨⟨hc, hKl⟩, ⟨hdj, hnd⟩, hdn⟩ := hok; have hKl := ble_le hKl
  have hTK : (T.take K).length = K := by simp; omega
  obtain ⟨S, h1, h2, h3⟩ := drawF_spec l (T.take K) [] (h (Q .normal) (fun _ h => h)) (fun i hi => by
    have hiK : i < K := by omega
    have ho : l[i]? = some l[i] := List.getElem?_eq_getElem (by omega); have := (chk_spec hc ho).1; have e : T[i]? = some T[i] := List.getElem?_eq_getElem (by omega); rw [e] at this
    simpa using this)
  simp only [List.nil_append, List.length_nil, Nat.zero_add] at h2 h3; rw [hTK] at h1 h2 h3
  have hds : S.map (·.dst) = dstsL (l.take K) := by
    have key : ∀ (n : Nat) (l' : List Oper) (S' : List Res), S'.length = n → l'.length = n → (∀ i, i < n → ∃ o r, l'[i]? = some o ∧ S'[i]? = some r ∧ o.dst = some r.dst) → S'.map (·.dst) = dstsL l' := by
      intro n
      induction n with
      | zero =>
        intro l' S' e1 e2 _; rw [List.eq_nil_of_length_eq_zero e1, List.eq_nil_of_length_eq_zero e2]; rfl
      | succ n ih =>
        intro l' S' e1 e2 hh
        match l', S', e1, e2 with
        | o :: l', r :: S', e1, e2 =>
          obtain ⟨o0, r0, k1, k2, k3⟩ := hh 0 (by omega); simp only [List.getElem?_cons_zero, Option.some.injEq] at k1 k2; subst k1 k2; simp only [List.map_cons, dstsL, k3]
          rw [ih l' S' (by simpa using e1) (by simpa using e2) (fun i hi => by
            obtain ⟨o1, r1, j1, j2, j3⟩ := hh (i + 1) (by omega)
            exact ⟨o1, r1, by simpa using j1, by simpa using j2, j3⟩)]
    refine key K (l.take K) S h1 (by simp; omega) (fun i hi => ?_); obtain ⟨o, r, k1, k2, k3, _⟩ := h3 i hi; exact ⟨o, r, by rw [List.getElem?_take, if_pos hi]; exact k1, k2, k3⟩
  have hst : ∀ bs, stM σ (S.map (·.dst)) (σ.next + 4 * K) bs S = stD σ (σ.next + 4 * K) bs S := by
    intro bs; simp only [stM, stD, hds, hide_disj hdj]
  intro C E X a hr; refine wp_region_any hm ?_; have hr' := hr.drew; have hσ : ∀ k o, find σ.objs k = some o → k < σ.next := fun k o hk => hr.fresh k (hr.objs k o hk).1
  have hR : ∀ i, i < K → ResOk P l σ (S.map (·.dst)) (σ.next + 4 * K) K T S i := by
    intro i hi o r ho hSr; obtain ⟨o', r', k1, k2, k3, k4, k5⟩ := h3 i hi; rw [ho] at k1; rw [hSr] at k2; simp only [Option.some.injEq] at k1 k2; subst k1 k2; refine ⟨k3, ?_, fun k ob hf => idsIn_find k4 k ob hf, ?_⟩
    · have : r.dst ∈ dstsL (l.take K) := by rw [← hds]; exact List.mem_map.2 ⟨r, List.mem_of_getElem? hSr, rfl⟩
      exact Nat.le_of_ble_eq_true (hdn _ this)
    · rw [hst]
      have e : ((T.take K)[i]?).getD [] = (T[i]?).getD [] := by rw [List.getElem?_take, if_pos hi]
      rw [e] at k5; exact k5
  have hall : stM σ (S.map (·.dst)) (σ.next + 4 * K) (List.replicate K true) S = stAll σ (σ.next + 4 * K) S := by
    rw [hst]; simp only [stD, stAll]; rw [← h1, slotsM_all, objsM_all]
  have hgoal := any_of_draw (P := P) (nx := σ.next + 4 * K) (C := C) (Q := fun e a' w' => ∃ E' X' σ', E'.w = w' ∧ Rel C E' X' σ' a' ∧ Q e σ') hc hKl h1 (by rw [hds]; exact hnd) hR (Nat.le_refl _) hσ (fun E X a hr2 => by
      rw [hall] at hr2
      exact h2 C E X a hr2 _ (fun E' X' σ' a' hr3 hq => ⟨E', X', σ', rfl, hr3, hq⟩))
    l.length (Array.replicate l.length false) { E with w := E.w.drew } X a (by simp) ?_ ?_ ?_ ?_ ?_
  · simpa using hgoal
  · have : ∀ n, n ≤ l.length → (List.range n).countP (fun j => !(Array.replicate l.length false).getD j true) = n := by
      intro n
      induction n with
      | zero => intro _; simp
      | succ n ih =>
        intro hn; rw [List.range_succ, List.countP_append, ih (by omega), List.countP_singleton]
        simp [Array.getD, show n < l.length by omega]
    exact this _ (Nat.le_refl _)
  · intro i o _ hl
    simp [Array.getD] at hl
  · intro i _
    simp [Array.getD]
  · have hb : ∀ j : Nat, (bitsOf K (Array.replicate l.length false))[j]? ≠ some true := by
      intro j hj; have := (bitsOf_get.1 hj).2
      simp [Array.getD] at this
    refine hr'.sub ?_ ?_ (by simp [stM]) rfl rfl
    · intro s v hv; simp only [stM, hds, hide_disj hdj] at hv; rw [find_append] at hv
      cases g : find (slotsM (bitsOf K (Array.replicate l.length false)) S) s with
      | some u =>
        obtain ⟨j, r, g1, _⟩ := find_slotsM _ S s u g; exact absurd g1 (hb j)
      | none => rw [g] at hv; simpa using hv
    · intro k o hv; simp only [stM] at hv; rw [find_append] at hv
      cases g : find (objsM (bitsOf K (Array.replicate l.length false)) S) k with
      | some u =>
        obtain ⟨j, r, g1, _⟩ := find_objsM _ S k u g; exact absurd g1 (hb j)
      | none => rw [g] at hv; simpa using hv
  · intro r hD; exact .inl (hr.fresh r hD)
theorem objsM_nil (R : List Res) : objsM [] R = [] := by cases R <;> rfl
theorem objsM_nil' (bs : List Bool) : objsM bs [] = [] := by cases bs <;> rfl
end Go.AM
